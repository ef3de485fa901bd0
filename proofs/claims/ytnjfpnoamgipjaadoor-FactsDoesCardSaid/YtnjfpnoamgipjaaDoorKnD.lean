import Derived.Test.YtnjfpnoamgipjaaDoorAm21
import Derived.Test.YtnjfpnoamgipjaaDoorKnB
import Derived.Test.YtnjfpnoamgipjaaDoorEIrChecks
set_option linter.unusedVariables false
set_option linter.unusedSimpArgs false
namespace Go.AM
theorem ord_self (d:Ieee.Datum):(d.order d == some .eq) = (match d with | .nan .. => false | _ => true) := by
  cases d with
  | nan s p => rfl
  | infinity s => cases s <;> rfl
  | number s m i =>
    show (some (compare _ _) == some Ordering.eq) = true
    have:∀ a:Int,compare a a = Ordering.eq := fun a => by
      rw [Int.compare_eq_eq]
    rw [this]; rfl
theorem order_self (w:Nat):(FloatKind.f64.format.order w w == some .eq) = decide (w % 9223372036854775808 ≤ 9218868437227405312) := by
  have e1:FloatKind.f64.format.signWeight = 9223372036854775808 := by decide
  have e2:FloatKind.f64.format.binade = 4503599627370496 := by decide
  have e3:FloatKind.f64.format.infRung = 9218868437227405312 := by decide
  have h:FloatKind.f64.format.order w w = (FloatKind.f64.format.read w).order (FloatKind.f64.format.read w) := rfl
  rw [h,ord_self]
  unfold Ieee.Format.read
  simp only [e1,e2,e3]
  by_cases h1:w % 9223372036854775808 < 4503599627370496
  · rw [if_pos h1,decide_eq_true (by omega)]
  by_cases h2:w % 9223372036854775808 < 9218868437227405312
  · rw [if_neg h1,if_pos h2,decide_eq_true (by omega)]
  by_cases h3:w % 9223372036854775808 = 9218868437227405312
  · rw [if_neg h1,if_neg h2,if_pos h3,decide_eq_true (by omega)]
  · rw [if_neg h1,if_neg h2,if_neg h3,decide_eq_false (by omega)]
theorem and_top (w:Nat):(w &&& 9218868437227405312) = (w / 4503599627370496 % 2048) * 4503599627370496 := by
  have h1:(w &&& 9218868437227405312) / 2 ^ 52 = (w / 2 ^ 52) &&& (9218868437227405312 / 2 ^ 52) := Nat.and_div_two_pow
  have h2:(w &&& 9218868437227405312) % 2 ^ 52 = (w % 2 ^ 52) &&& (9218868437227405312 % 2 ^ 52) := Nat.and_mod_two_pow
  have h3:(9218868437227405312 / 2 ^ 52:Nat) = 2 ^ 11 - 1 := by decide
  have h4:(9218868437227405312 % 2 ^ 52:Nat) = 0 := by decide
  rw [h3,Nat.and_two_pow_sub_one_eq_mod] at h1
  rw [h4,Nat.and_zero] at h2
  have := Nat.div_add_mod (w &&& 9218868437227405312) (2 ^ 52)
  omega
theorem and_low (w:Nat):(w &&& 4503599627370495) = w % 4503599627370496 := Nat.and_two_pow_sub_one_eq_mod w 52
theorem nan_bits (n:Int) :
    (!decide (IntKind.i64.wrap (BitVec.ofInt 64 n &&& BitVec.ofInt 64 9218868437227405312).toNat = 9218868437227405312) || decide (IntKind.i64.wrap (BitVec.ofInt 64 n &&& BitVec.ofInt 64 4503599627370495).toNat = 0))
      = (FloatKind.f64.format.order (IntKind.u64.wrap n).toNat (IntKind.u64.wrap n).toNat == some .eq) := by
  have e0:(IntKind.u64.wrap n).toNat = (n % 18446744073709551616).toNat := by rw [wrap_u64_mod]
  have e1:(BitVec.ofInt 64 n).toNat = (n % 18446744073709551616).toNat := by rw [BitVec.toNat_ofInt]; rfl
  have e2:(BitVec.ofInt 64 9218868437227405312).toNat = 9218868437227405312 := by decide
  have e3:(BitVec.ofInt 64 4503599627370495).toNat = 4503599627370495 := by decide
  rw [order_self,e0,BitVec.toNat_and,BitVec.toNat_and,e1,e2,e3,and_top,and_low]
  have hw:(n % 18446744073709551616).toNat < 18446744073709551616 := by omega
  generalize (n % 18446744073709551616).toNat = w at hw
  rw [wrap_id (by omega),wrap_id (by omega)]
  by_cases h1:w / 4503599627370496 % 2048 * 4503599627370496 = 9218868437227405312
  · have h1':((w / 4503599627370496 % 2048 * 4503599627370496:Nat):Int) = 9218868437227405312 := by omega
    rw [decide_eq_true h1',Bool.not_true,Bool.false_or]
    refine decide_eq_decide.mpr ?_
    omega
  · have h1':¬ ((w / 4503599627370496 % 2048 * 4503599627370496:Nat):Int) = 9218868437227405312 := by omega
    rw [decide_eq_false h1',Bool.not_false,Bool.true_or,decide_eq_true]
    omega
end Go.AM
set_option linter.unusedVariables false
set_option linter.unusedSimpArgs false
set_option maxRecDepth 100000
namespace Go.Proofs.YtnjfpnoamgipjaaDoor
open Go Go.AM
namespace Ir
theorem right_eq (v:A_Val):rightV v = rightR v := by
  unfold rightV rightR
  by_cases h0:v.1 = 0
  · rw [if_pos h0,if_pos h0]
  by_cases h1:v.1 = 1
  · rw [if_neg h0,if_neg h0,if_pos h1,if_pos h1,wi,Bool.eq_iff_iff]
    simp only [Bool.and_eq_true,Bool.or_eq_true,decide_eq_true_eq]
    omega
  by_cases h2:v.1 = 2
  · rw [if_neg h0,if_neg h0,if_neg h1,if_neg h1,if_pos h2,if_pos h2,wi,Bool.eq_iff_iff]
    simp only [Bool.and_eq_true,Bool.or_eq_true,decide_eq_true_eq]
    omega
  by_cases h3:v.1 = 3
  · rw [if_neg h0,if_neg h0,if_neg h1,if_neg h1,if_neg h2,if_neg h2,if_pos h3,if_pos h3,fltR,← Bool.or_assoc]
    have := nan_bits v.2
    unfold andZ
    rw [this]; rfl
  by_cases h4:v.1 = 4 ∨ v.1 = 5
  · rw [if_neg h0,if_neg h0,if_neg h1,if_neg h1,if_neg h2,if_neg h2,if_neg h3,if_neg h3,if_pos h4,if_pos h4]
  by_cases h6:v.1 = 6
  · rw [if_neg h0,if_neg h0,if_neg h1,if_neg h1,if_neg h2,if_neg h2,if_neg h3,if_neg h3,if_neg h4,if_neg h4,if_pos h6,if_pos h6,wi,Bool.eq_iff_iff]
    simp only [Bool.and_eq_true,Bool.or_eq_true,decide_eq_true_eq]
    omega
  rw [if_neg h0,if_neg h0,if_neg h1,if_neg h1,if_neg h2,if_neg h2,if_neg h3,if_neg h3,if_neg h4,if_neg h4,if_neg h6,if_neg h6]
theorem hs123 (k:Int):hs [1,2,3] k = (decide (1 ≤ k) && decide (k ≤ 3)) := by
  rw [Bool.eq_iff_iff]
  simp only [hs,Bool.and_eq_true,decide_eq_true_eq,List.mem_cons,List.not_mem_nil,or_false]
  omega
def chE (f:A_Fn)(t:A_TTrace):List PV := enc_Fn f ++ enc_TTrace t
abbrev chV (f:A_Fn)(t:A_TTrace):AV := .agg ((chE f t).map .p)
section
variable (f:A_Fn) (t:A_TTrace)
theorem len_Ch:(chE f t).length = 18 := rfl
theorem ch1:(chE f t)[1]? = some (Ia f.2.1) := _root_.id rfl
theorem ch4:(chE f t)[4]? = some (.sl f.2.2.2.2.1 false f.2.2.2.2.2.length (f.2.2.2.2.2.flatMap enc_Ins)) := _root_.id rfl
theorem ch8:(chE f t)[8]? = some (.sl t.2.2.2.1.1 false t.2.2.2.1.2.length (t.2.2.2.1.2.flatMap enc_TIns)) := _root_.id rfl
theorem ch9:(chE f t)[9]? = some (.sl t.2.2.2.2.1.1 false t.2.2.2.2.1.2.length (t.2.2.2.2.1.2.flatMap enc_TExit)) := _root_.id rfl
end
variable {f:A_Fn}{t:A_TTrace}
theorem ldC18 {H:Heap}{id:Nat}(h:H[id]? = some (.box ((chE f t).map .p))):ld true 18 (.ptr id 0) H = some (chV f t) := by
  rw [ldAgg_box h (by rw [List.length_map,len_Ch]; decide) (by rw [List.length_map,len_Ch]; decide)]; rfl
theorem call101 (v at':Int)(lo:List Nat)(H:Heap):callA cfg O 101 [chV f t,I v,I at'] lo H = some (B (valR t.2.2.2.1.2 v at'),H) := by
  refine callA_args (H' := []) (rs := [B _]) rfl (pureArgsC (pureAgg _ _) (pureArgsC (pureP _ _) (pureArgs1 (pureP _ _)))) ?_ rfl
  rw [f101_eq]
  by_cases h1:0 ≤ v
  case neg =>
    have:valR t.2.2.2.1.2 v at' = false := by simp [valR,h1]
    rw [this]
    simp only [boxAgg0,h1,core,leave0_B]
  by_cases h2:v < at'
  case neg =>
    have:valR t.2.2.2.1.2 v at' = false := by simp [valR,h2]
    rw [this]
    simp only [boxAgg0,h1,h2,core,leave0_B]
  by_cases h3:v < t.2.2.2.1.2.length
  case neg =>
    have:valR t.2.2.2.1.2 v at' = false := by simp [valR,h3]
    rw [this]
    simp only [boxAgg0,ldB0,ch8,Nat.zero_add,Nat.reduceAdd,h1,h2,h3,core,leave0_B]
  have hj:v.toNat < t.2.2.2.1.2.length := by omega
  rw [valR_of h1 h2 hj]
  simp only [boxAgg0,ldB0,ch8,Nat.zero_add,Nat.add_zero,Nat.reduceAdd,h1,h2,h3,idxL (sz := 8) (xs := t.2.2.2.1.2.flatMap enc_TIns) (n := t.2.2.2.1.2.length) (i := v) ⟨h1,h3⟩,ldCell0 len_TIns8 (by decide) hj,ti0,call15,tell_eq,core,leave0_B]
theorem ent100 {nl:Option Bool}{tg:Bool}(l:List Int)(hl:l.length < 2 ^ 63)(at':Int):O.ent 100 [chV f t,V nl tg l,I at'] [] [] = some ([B (l.all fun v => valR t.2.2.2.1.2 v at')],[]) := by
  have c18:ld true 18 (.ptr 0 0) [.box ((chE f t).map .p)] = some (chV f t) := ldC18 rfl
  have go:∀ (c i:Nat),l.length - i = c → i ≤ l.length → L100_6 [I at',.ptr 0 0,V nl tg l,I l.length,I i] [] [.box ((chE f t).map .p)] = some ([B ((l.drop i).all fun v => valR t.2.2.2.1.2 v at')],[]) := by
    intro c
    induction c with
    | zero =>
      intro i hc hi
      have:i = l.length := by omega
      subst this
      rw [L100_6_eq]
      simp only [Int.lt_irrefl,List.drop_length,List.all_nil,core,leave0_B]
    | succ c ih =>
      intro i hc hi
      have h:i < l.length := by omega
      have hlt:(i:Int) < l.length := by omega
      rw [L100_6_eq,List.drop_eq_getElem_cons h,List.all_cons]
      cases hv:valR t.2.2.2.1.2 l[i] at' with
      | false => simp only [hlt,idxV h,ldV h,c18,call101,hv,Bool.false_and,core,leave0_B]
      | true =>
        simp only [hlt,idxV h,ldV h,c18,call101,hv,wrapN (show i < 2 ^ 63 - 1 by omega),Bool.true_and,core]
        exact ih (i + 1) (by omega) (by omega)
  have := go l.length 0 (by omega) (by omega)
  rw [List.drop_zero] at this
  rw [f100_eq]
  simp only [boxAgg0,core]
  exact this
theorem call100 {nl:Option Bool}{tg:Bool}(l:List Int)(hl:l.length < 2 ^ 63)(at':Int)(lo:List Nat)(H:Heap):callA cfg O 100 [chV f t,V nl tg l,I at'] lo H = some (B (l.all fun v => valR t.2.2.2.1.2 v at'),H) :=
  callA_args (H' := []) (rs := [B _]) rfl (pureArgsC (pureAgg _ _) (pureArgsC (pureP _ _) (pureArgs1 (pureP _ _)))) (ent100 l hl at') rfl
abbrev mkV (m:A_TMake):AV := .agg ((enc_TMake m).map .p)
def makeI (ins:List A_TIns)(at':Int)(m:A_TMake):Bool := make1 ins at' none m && m.2.2.2.2.all fun v => valR ins v at'
theorem call102 (m:A_TMake)(hm:m.2.2.2.2.length < 2 ^ 63)(at':Int)(lo:List Nat)(H:Heap):callA cfg O 102 [chV f t,mkV m,I at'] lo H = some (B (makeI t.2.2.2.1.2 at' m),H) := by
  refine callA_args (H' := []) (rs := [B _]) rfl (pureArgsC (pureAgg _ _) (pureArgsC (pureAgg _ _) (pureArgs1 (pureP _ _)))) ?_ rfl
  have c18:ld true 18 (.ptr 0 0) [.box ((chE f t).map .p),.box ((enc_TMake m).map .p)] = some (chV f t) := ldC18 rfl
  have g0:∀ (o:AObj) j,ld false 1 (.ptr 0 j) [.box ((chE f t).map .p),o] = ((chE f t)[j]?).map .p := fun o j => ldB02 _ _ _ _
  have g1:∀ (o:AObj) j,ld false 1 (.ptr 1 j) [o,.box ((enc_TMake m).map .p)] = ((enc_TMake m)[j]?).map .p := fun o j => ldB12 _ _ _ _
  have hb:btw none m.1 = true := rfl
  rw [f102_eq,makeI,make1,hs123,hb]
  cases c1:valR t.2.2.2.1.2 m.1 at' with
  | false => simp only [boxAgg0,box12,c18,g0,g1,call101,tm0,tm1,tm2,tm3,ch8,Nat.zero_add,Nat.add_zero,Nat.reduceAdd,c1,Bool.false_and,core,leave0_B]
  | true =>
  obtain ⟨v0,v1⟩ := valR_idx c1
  have hj:m.1.toNat < t.2.2.2.1.2.length := by omega
  have i16 := idxL (sz := 8) (nl := t.2.2.2.1.1) (t := false) (xs := t.2.2.2.1.2.flatMap enc_TIns) (n := t.2.2.2.1.2.length) (i := m.1) ⟨v0,v1⟩
  have f18:∀ H n,ld false n (.fp (t.2.2.2.1.2.flatMap enc_TIns) (m.1.toNat * 8)) H = some (I (opAt t.2.2.2.1.2 m.1)) := fun H n => by
    rw [ldCell0 len_TIns8 (by decide) hj,ti0,opAt,List.getElem?_eq_getElem hj]; rfl
  by_cases c2:opAt t.2.2.2.1.2 m.1 = 18
  case neg => simp only [boxAgg0,box12,c18,g0,g1,call101,tm0,tm1,tm2,tm3,ch8,Nat.zero_add,Nat.add_zero,Nat.reduceAdd,c1,i16,f18,c2,Bool.true_and,Bool.false_and,core,leave0_B]
  by_cases c3:m.2.1 < 1
  · have c3':¬ 1 ≤ m.2.1 := by omega
    simp only [boxAgg0,box12,c18,g0,g1,call101,tm0,tm1,tm2,tm3,ch8,Nat.zero_add,Nat.add_zero,Nat.reduceAdd,c1,i16,f18,c2,c3,c3',Bool.true_and,Bool.and_true,Bool.false_and,core,leave0_B]
  have c3':1 ≤ m.2.1 := by omega
  by_cases c4:3 < m.2.1
  · have c4':¬ m.2.1 ≤ 3 := by omega
    simp only [boxAgg0,box12,c18,g0,g1,call101,tm0,tm1,tm2,tm3,ch8,Nat.zero_add,Nat.add_zero,Nat.reduceAdd,c1,i16,f18,c2,c3,c3',c4,c4',Bool.true_and,Bool.and_true,Bool.false_and,Bool.and_false,core,leave0_B]
  have c4':m.2.1 ≤ 3 := by omega
  by_cases c5:m.2.2.1 < 0
  · have c5':¬ 0 ≤ m.2.2.1 := by omega
    simp only [boxAgg0,box12,c18,g0,g1,call101,tm0,tm1,tm2,tm3,ch8,Nat.zero_add,Nat.add_zero,Nat.reduceAdd,c1,i16,f18,c2,c3,c3',c4,c4',c5,c5',Bool.true_and,Bool.and_true,Bool.false_and,Bool.and_false,core,leave0_B]
  have c5':0 ≤ m.2.2.1 := by omega
  by_cases c6:0 < m.2.2.1
  · have c6':¬ m.2.2.1 = 0 := by omega
    by_cases c7:m.2.1 = 1
    · have c7d := decide_eq_true c7
      by_cases c8:(m.2.2.2.2.length:Int) ≤ 100
      · have c8':m.2.2.2.2.length ≤ 100 := by omega
        simp only [boxAgg0,box12,c18,g0,g1,call101,tm0,tm1,tm2,tm3,ch8,Nat.zero_add,Nat.add_zero,Nat.reduceAdd,c1,i16,f18,c2,c3,c3',c4,c4',c5,c5',c6,c6',c7d,c8,c8',call100 _ hm,Bool.true_and,Bool.and_true,Bool.true_or,Bool.false_and,Bool.and_false,core,leave0_B]
      · have c8':¬ m.2.2.2.2.length ≤ 100 := by omega
        simp only [boxAgg0,box12,c18,g0,g1,call101,tm0,tm1,tm2,tm3,ch8,Nat.zero_add,Nat.add_zero,Nat.reduceAdd,c1,i16,f18,c2,c3,c3',c4,c4',c5,c5',c6,c6',c7d,c8,c8',Bool.true_and,Bool.and_true,Bool.true_or,Bool.false_and,Bool.and_false,core,leave0_B]
    · simp only [boxAgg0,box12,c18,g0,g1,call101,tm0,tm1,tm2,tm3,ch8,Nat.zero_add,Nat.add_zero,Nat.reduceAdd,c1,i16,f18,c2,c3,c3',c4,c4',c5,c5',c6,c6',c7,Bool.true_and,Bool.and_true,Bool.or_self,Bool.false_and,Bool.and_false,core,leave0_B]
  · have c6':m.2.2.1 = 0 := by omega
    have c6d := decide_eq_true c6'
    by_cases c8:(m.2.2.2.2.length:Int) ≤ 100
    · have c8':m.2.2.2.2.length ≤ 100 := by omega
      simp only [boxAgg0,box12,c18,g0,g1,call101,tm0,tm1,tm2,tm3,ch8,Nat.zero_add,Nat.add_zero,Nat.reduceAdd,c1,i16,f18,c2,c3,c3',c4,c4',c5,c5',c6,c6d,c8,c8',call100 _ hm,Bool.true_and,Bool.and_true,Bool.or_true,Bool.false_and,Bool.and_false,core,leave0_B]
    · have c8':¬ m.2.2.2.2.length ≤ 100 := by omega
      simp only [boxAgg0,box12,c18,g0,g1,call101,tm0,tm1,tm2,tm3,ch8,Nat.zero_add,Nat.add_zero,Nat.reduceAdd,c1,i16,f18,c2,c3,c3',c4,c4',c5,c5',c6,c6d,c8,c8',Bool.true_and,Bool.and_true,Bool.or_true,Bool.false_and,Bool.and_false,core,leave0_B]
end Ir
end Go.Proofs.YtnjfpnoamgipjaaDoor
set_option linter.unusedVariables false
set_option linter.unusedSimpArgs false
set_option maxRecDepth 100000
namespace Go.Proofs.YtnjfpnoamgipjaaDoor
open Go Go.AM
namespace Ir
variable {f:A_Fn}{t:A_TTrace}
def lst (q:Option Int):Int := match q with | none => -1 | some y => y
theorem make1_btw (ins:List A_TIns)(at':Int)(q:Option Int)(m:A_TMake):(make1 ins at' q m && m.2.2.2.2.all fun v => valR ins v at') = (btw q m.1 && makeI ins at' m) := by
  unfold makeI make1
  rw [show btw none m.1 = true from rfl,Bool.and_true]
  cases btw q m.1 <;> cases valR ins m.1 at' <;> cases decide (opAt ins m.1 = 18) <;> simp
theorem L28 (x:A_TExit)(at':Int)(hn:x.2.2.2.2.length < 2 ^ 63)(hv:∀ m ∈ x.2.2.2.2,m.2.2.2.2.length < 2 ^ 63):∀ (c i:Nat)(H:Heap),x.2.2.2.2.length - i = c → i ≤ x.2.2.2.2.length → H[0]? = some (.box ((chE f t).map .p)) →
    L50_28 [I at',.ptr 0 0,I (lst (prv (fun m => m.1) x.2.2.2.2 i)),.p (.sl x.2.2.2.1 false x.2.2.2.2.length (x.2.2.2.2.flatMap enc_TMake)),I x.2.2.2.2.length,I i] [] H = some ([B (makesR t.2.2.2.1.2 at' (prv (fun m => m.1) x.2.2.2.2 i) (x.2.2.2.2.drop i))],[]) := by
  intro c
  induction c with
  | zero =>
    intro i H hc hi h1
    have:i = x.2.2.2.2.length := by omega
    subst this
    rw [L50_28_eq]
    simp only [Int.lt_irrefl,List.drop_length,makesR,core,leave0_B]
  | succ c ih =>
    intro i H hc hi h1
    have h:i < x.2.2.2.2.length := by omega
    have hlt:(i:Int) < x.2.2.2.2.length := by omega
    obtain ⟨m,hm⟩:∃ m,x.2.2.2.2[i] = m := ⟨_,rfl⟩
    have hmv := hv m (hm ▸ List.getElem_mem h)
    have x3:ld true 4 (.fp (x.2.2.2.2.flatMap enc_TMake) (i * 4)) H = some (mkV m) := by rw [ldRow len_TMake4 (by decide) h,hm]
    have r4:boxO [] [I 0,I 0,I 0,.p nilS] H = some (.ptr H.length 0,H ++ [.box ([Ia 0,Ia 0,Ia 0,nilS].map .p)]) := boxO_p [Ia 0,Ia 0,Ia 0,nilS] H
    have r5:stA 4 (.ptr H.length 0) (mkV m) [] (H ++ [.box ([Ia 0,Ia 0,Ia 0,nilS].map .p)]) = some (H ++ [.box ((enc_TMake m).map .p)]) := stA_new rfl rfl (by decide)
    have hc1 := idxI (sz := 4) (nl := x.2.2.2.1) (t := false) (xs := x.2.2.2.2.flatMap enc_TMake) h
    have b1:(H ++ [AObj.box ((enc_TMake m).map .p)])[0]? = some (.box ((chE f t).map .p)) := push_get? h1 _
    have fm:∀ n j,ld false n (.ptr H.length j) (H ++ [AObj.box ((enc_TMake m).map .p)]) = ((enc_TMake m)[j]?).map .p := fun n j => ldB _ _ _ _
    have x8:ld true 4 (.ptr H.length 0) (H ++ [AObj.box ((enc_TMake m).map .p)]) = some (mkV m) := ldA (len_TMake4 m) (by decide) H
    have c18 := ldC18 b1
    have w := wrapN (show i < 2 ^ 63 - 1 by omega)
    have e102 := call102 (f := f) (t := t) m hmv at' []
    have pn:prv (fun m:A_TMake => m.1) x.2.2.2.2 (i + 1) = some m.1 := by rw [prv,List.getElem?_eq_getElem h,hm]; rfl
    have nx := ih (i + 1) _ (by omega) (by omega) b1
    rw [pn] at nx
    rw [L50_28_eq,List.drop_eq_getElem_cons h,hm,makesR,make1_btw]
    by_cases c1:m.1 ≤ lst (prv (fun m => m.1) x.2.2.2.2 i)
    · have hz:(btw (prv (fun m => m.1) x.2.2.2.2 i) m.1 && makeI t.2.2.2.1.2 at' m) = false := by
        cases hq:prv (fun m:A_TMake => m.1) x.2.2.2.2 i with
        | some y =>
          rw [hq] at c1
          have:¬ y < m.1 := by show ¬ _; simp only [lst] at c1; omega
          rw [show btw (some y) m.1 = decide (y < m.1) from rfl,decide_eq_false this,Bool.false_and]
        | none =>
          rw [hq] at c1
          have hneg:¬ 0 ≤ m.1 := by simp only [lst] at c1; omega
          have:valR t.2.2.2.1.2 m.1 at' = false := by simp [valR,hneg]
          simp [makeI,make1,this]
      rw [hz]
      simp only [hlt,hc1,x3,r4,r5,Nat.zero_add,Nat.add_zero,fm,tm0,c1,Bool.false_and,core,leave0_B]
    · have hb:btw (prv (fun m => m.1) x.2.2.2.2 i) m.1 = true := by
        cases hq:prv (fun m:A_TMake => m.1) x.2.2.2.2 i with
        | some y =>
          rw [hq] at c1
          exact decide_eq_true (by simp only [lst] at c1; omega)
        | none => rfl
      rw [hb,Bool.true_and]
      cases c2:makeI t.2.2.2.1.2 at' m with
      | false => simp only [hlt,hc1,x3,r4,r5,Nat.zero_add,Nat.add_zero,fm,tm0,x8,c18,e102,c1,c2,Bool.false_and,core,leave0_B]
      | true =>
        simp only [hlt,hc1,x3,r4,r5,Nat.zero_add,Nat.add_zero,fm,tm0,x8,c18,e102,c1,c2,w,Bool.true_and,core]
        exact nx
theorem LS12 (x:A_TExit)(at':Int)(hs0:x.2.2.1.2.length < 2 ^ 63)(hn:x.2.2.2.2.length < 2 ^ 63)(hv:∀ m ∈ x.2.2.2.2,m.2.2.2.2.length < 2 ^ 63):∀ (c i:Nat)(H:Heap),x.2.2.1.2.length - i = c → i ≤ x.2.2.1.2.length → H[0]? = some (.box ((chE f t).map .p)) → H[1]? = some (.box ((enc_TExit x).map .p)) → -1 ≤ lst (prv (fun s => s.1) x.2.2.1.2 i) →
    L50_12 [I at',.ptr 0 0,.ptr 1 0,I (lst (prv (fun s => s.1) x.2.2.1.2 i)),.p (.sl x.2.2.1.1 false x.2.2.1.2.length (x.2.2.1.2.flatMap enc_TSet)),I x.2.2.1.2.length,I i] [] H
      = some ([B (setsR t.2.2.2.1.2 f.2.1 at' (prv (fun s => s.1) x.2.2.1.2 i) (x.2.2.1.2.drop i) && makesR t.2.2.2.1.2 at' none x.2.2.2.2)],[]) := by
  intro c
  induction c with
  | zero =>
    intro i H hc hi h1 h2 _
    have:i = x.2.2.1.2.length := by omega
    subst this
    have e := L28 (f := f) (t := t) x at' hn hv x.2.2.2.2.length 0 H (by omega) (by omega) h1
    rw [List.drop_zero] at e
    rw [L50_12_eq]
    simp only [Int.lt_irrefl,List.drop_length,setsR,Bool.true_and,ldBx h2,te3,Nat.zero_add,core]
    exact e
  | succ c ih =>
    intro i H hc hi h1 h2 hl
    have h:i < x.2.2.1.2.length := by omega
    have hlt:(i:Int) < x.2.2.1.2.length := by omega
    obtain ⟨m,hm⟩:∃ m,x.2.2.1.2[i] = m := ⟨_,rfl⟩
    have x3:ld true 2 (.fp (x.2.2.1.2.flatMap enc_TSet) (i * 2)) H = some (.agg ((enc_TSet m).map .p)) := by rw [ldRow len_TSet2 (by decide) h,hm]
    have r4:boxO [] [I 0,I 0] H = some (.ptr H.length 0,H ++ [.box ([Ia 0,Ia 0].map .p)]) := boxO_p [Ia 0,Ia 0] H
    have r5:stA 2 (.ptr H.length 0) (.agg ((enc_TSet m).map .p)) [] (H ++ [.box ([Ia 0,Ia 0].map .p)]) = some (H ++ [.box ((enc_TSet m).map .p)]) := stA_new rfl rfl (by decide)
    have hc1 := idxI (sz := 2) (nl := x.2.2.1.1) (t := false) (xs := x.2.2.1.2.flatMap enc_TSet) h
    have b1:(H ++ [AObj.box ((enc_TSet m).map .p)])[0]? = some (.box ((chE f t).map .p)) := push_get? h1 _
    have b2:(H ++ [AObj.box ((enc_TSet m).map .p)])[1]? = some (.box ((enc_TExit x).map .p)) := push_get? h2 _
    have fm:∀ n j,ld false n (.ptr H.length j) (H ++ [AObj.box ((enc_TSet m).map .p)]) = ((enc_TSet m)[j]?).map .p := fun n j => ldB _ _ _ _
    have c18 := ldC18 b1
    have fc := fun j => ldBx b1 1 j
    have w := wrapN (show i < 2 ^ 63 - 1 by omega)
    have pn:prv (fun s:A_TSet => s.1) x.2.2.1.2 (i + 1) = some m.1 := by rw [prv,List.getElem?_eq_getElem h,hm]; rfl
    have nx := fun q => ih (i + 1) _ (by omega) (by omega) b1 b2 q
    rw [pn] at nx
    rw [L50_12_eq,List.drop_eq_getElem_cons h,hm,setsR,set1]
    by_cases c1:m.1 ≤ lst (prv (fun s => s.1) x.2.2.1.2 i)
    · have hz:(((decide (0 ≤ m.1) && decide (m.1 < f.2.1)) && valR t.2.2.2.1.2 m.2 at') && btw (prv (fun s => s.1) x.2.2.1.2 i) m.1) = false := by
        cases hq:prv (fun s:A_TSet => s.1) x.2.2.1.2 i with
        | some y =>
          rw [hq] at c1
          have:¬ y < m.1 := by simp only [lst] at c1; omega
          rw [show btw (some y) m.1 = decide (y < m.1) from rfl,decide_eq_false this,Bool.and_false]
        | none =>
          rw [hq] at c1
          have hneg:¬ 0 ≤ m.1 := by simp only [lst] at c1; omega
          rw [decide_eq_false hneg,Bool.false_and,Bool.false_and,Bool.false_and]
      rw [hz]
      simp only [hlt,hc1,x3,r4,r5,Nat.zero_add,Nat.add_zero,fm,ts0,c1,Bool.false_and,core,leave0_B]
    · have hb:btw (prv (fun s => s.1) x.2.2.1.2 i) m.1 = true := by
        cases hq:prv (fun s:A_TSet => s.1) x.2.2.1.2 i with
        | some y =>
          rw [hq] at c1
          exact decide_eq_true (by simp only [lst] at c1; omega)
        | none => rfl
      have h0:0 ≤ m.1 := by omega
      rw [hb,Bool.and_true,decide_eq_true h0,Bool.true_and]
      by_cases c2:f.2.1 ≤ m.1
      · have c2':¬ m.1 < f.2.1 := by omega
        simp only [hlt,hc1,x3,r4,r5,Nat.zero_add,Nat.add_zero,fm,fc,ch1,ts0,c1,c2,c2',Nat.zero_add,Bool.false_and,core,leave0_B]
      · have c2':m.1 < f.2.1 := by omega
        cases c3:valR t.2.2.2.1.2 m.2 at' with
        | false => simp only [hlt,hc1,x3,r4,r5,Nat.zero_add,Nat.add_zero,fm,fc,ch1,ts0,ts1,c18,call101,c1,c2,c2',c3,Nat.zero_add,Bool.false_and,Bool.and_false,core,leave0_B]
        | true =>
          simp only [hlt,hc1,x3,r4,r5,Nat.zero_add,Nat.add_zero,fm,fc,ch1,ts0,ts1,c18,call101,c1,c2,c2',c3,w,Nat.zero_add,Bool.true_and,Bool.and_true,core]
          exact nx (show -1 ≤ m.1 by omega)
theorem call50 (x:A_TExit)(hx:EOk x)(at':Int)(lo:List Nat)(H:Heap):callA cfg O 50 [chV f t,exV x,I at'] lo H = some (B (exitR t.2.2.2.1.2 f.2.1 f.2.2.2.2.2.length at' x),H) := by
  refine callA_args (H' := []) (rs := [B _]) rfl (pureArgsC (pureAgg _ _) (pureArgsC (pureAgg _ _) (pureArgs1 (pureP _ _)))) ?_ rfl
  have g0:∀ (o:AObj) j,ld false 1 (.ptr 0 j) [.box ((chE f t).map .p),o] = ((chE f t)[j]?).map .p := fun o j => ldB02 _ _ _ _
  have g1:∀ (o:AObj) j,ld false 1 (.ptr 1 j) [o,.box ((enc_TExit x).map .p)] = ((enc_TExit x)[j]?).map .p := fun o j => ldB12 _ _ _ _
  have lp := LS12 (f := f) (t := t) x at' hx.1 hx.2.1 hx.2.2 x.2.2.1.2.length 0 [.box ((chE f t).map .p),.box ((enc_TExit x).map .p)] (by omega) (by omega) rfl rfl (Int.le_refl _)
  rw [List.drop_zero] at lp
  rw [f50_eq,exitR]
  by_cases c1:x.1 < 0
  · have c1':¬ 0 ≤ x.1 := by omega
    simp only [boxAgg0,box12,g0,g1,te0,te1,Nat.zero_add,c1,c1',Bool.false_and,core,leave0_B]
  have c1':0 ≤ x.1 := by omega
  by_cases c2:(f.2.2.2.2.2.length:Int) ≤ x.1
  · have c2':¬ x.1 < f.2.2.2.2.2.length := by omega
    simp only [boxAgg0,box12,g0,g1,te0,te1,ch4,Nat.zero_add,Nat.reduceAdd,c1,c1',c2,c2',Bool.true_and,Bool.false_and,core,leave0_B]
  have c2':x.1 < f.2.2.2.2.2.length := by omega
  by_cases c3:x.2.1 < 0
  · have c3':¬ 0 ≤ x.2.1 := by omega
    simp only [boxAgg0,box12,g0,g1,te0,te1,ch4,Nat.zero_add,Nat.reduceAdd,c1,c1',c2,c2',c3,c3',Bool.true_and,Bool.false_and,core,leave0_B]
  have c3':0 ≤ x.2.1 := by omega
  by_cases c4:200 < x.2.1
  · have c4':¬ x.2.1 ≤ 200 := by omega
    simp only [boxAgg0,box12,g0,g1,te0,te1,ch4,Nat.zero_add,Nat.reduceAdd,c1,c1',c2,c2',c3,c3',c4,c4',Bool.true_and,Bool.false_and,core,leave0_B]
  have c4':x.2.1 ≤ 200 := by omega
  simp only [boxAgg0,box12,g0,g1,te0,te1,te2,ch4,Nat.zero_add,Nat.reduceAdd,c1,c1',c2,c2',c3,c3',c4,c4',Bool.true_and,core]
  exact lp
theorem call49 (x:A_TExit)(lo:List Nat)(H:Heap):callA cfg O 49 [exV x] lo H = some (B (noExit x),H) := by
  refine callA_args (H' := []) (rs := [B _]) rfl (pureArgs1 (pureAgg _ _)) ?_ rfl
  rw [f49_eq,noExit]
  by_cases c1:x.1 = 0
  case neg => simp only [boxAgg0,ldB0,te0,te1,te2,te3,Nat.zero_add,c1,Bool.false_and,core,leave0_B]
  by_cases c2:x.2.1 = 0
  case neg => simp only [boxAgg0,ldB0,te0,te1,te2,te3,Nat.zero_add,c1,c2,Bool.true_and,Bool.false_and,core,leave0_B]
  by_cases c3:x.2.2.1.2.length = 0
  case neg =>
    have c3':¬ (x.2.2.1.2.length:Int) = 0 := by omega
    simp only [boxAgg0,ldB0,te0,te1,te2,te3,Nat.zero_add,c1,c2,c3,c3',Bool.true_and,Bool.false_and,core,leave0_B]
  have c3d := decide_eq_true c3
  have c3':(x.2.2.1.2.length:Int) = 0 := by omega
  by_cases c4:x.2.2.2.2.length = 0
  · have c4d := decide_eq_true c4
    have c4':(x.2.2.2.2.length:Int) = 0 := by omega
    simp only [boxAgg0,ldB0,te0,te1,te2,te3,Nat.zero_add,c1,c2,c3d,c3',c4d,c4',Bool.true_and,core,leave0_B]
  · have c4':¬ (x.2.2.2.2.length:Int) = 0 := by omega
    simp only [boxAgg0,ldB0,te0,te1,te2,te3,Nat.zero_add,c1,c2,c3d,c3',c4,c4',Bool.true_and,core,leave0_B]
end Ir
end Go.Proofs.YtnjfpnoamgipjaaDoor
set_option linter.unusedVariables false
set_option linter.unusedSimpArgs false
set_option maxRecDepth 100000
namespace Go.Proofs.YtnjfpnoamgipjaaDoor
open Go Go.AM
namespace Ir
section
variable (g:Fm)
theorem fe0:(eFm g)[0]? = some (Ia g.1) := _root_.id rfl
theorem fe1:(eFm g)[1]? = some (Ia g.2.1) := _root_.id rfl
theorem fe2:(eFm g)[2]? = some (Ia g.2.2.1) := _root_.id rfl
theorem fe3:(eFm g)[3]? = some (.v (.bool g.2.2.2.1)) := _root_.id rfl
theorem fe5:(eFm g)[5]? = some (Ia g.2.2.2.2.2) := _root_.id rfl
end
variable (f:A_Fn) (t:A_TTrace) (x:A_TIns)
def Hk:Heap := [.box ((chE f t).map .p),.box ((eFm (fmOf x.1)).map .p),.box ((enc_TIns x).map .p),.row 0 1 [Ia x.2.1,Ia x.2.2.1,Ia x.2.2.2.1]]
theorem hk0 (n j:Nat):ld false n (.ptr 0 j) (Hk f t x) = ((chE f t)[j]?).map .p := ldBx (H := Hk f t x) rfl n j
theorem hk1 (n j:Nat):ld false n (.ptr 1 j) (Hk f t x) = ((eFm (fmOf x.1))[j]?).map .p := ldBx (H := Hk f t x) rfl n j
theorem hk2 (n j:Nat):ld false n (.ptr 2 j) (Hk f t x) = ((enc_TIns x)[j]?).map .p := ldBx (H := Hk f t x) rfl n j
theorem hk18:ld true 18 (.ptr 0 0) (Hk f t x) = some (chV f t) := ldC18 (H := Hk f t x) rfl
theorem hkK:ld true 2 (.ptr 2 6) (Hk f t x) = some (vlV x.2.2.2.2.2.2) := by
  rw [ldAgg_box (H := Hk f t x) (xs := (enc_TIns x).map .p) rfl (by rw [List.length_map,len_TIns8]; decide) (by rw [List.length_map,len_TIns8]; decide)]; rfl
def argN (x:A_TIns)(k v:Int):Bool := if k = 1 ∧ shp x = true then decide (0 ≤ v) else decide (v = -1)
theorem step48 (at':Int)(i:Nat)(v:Int)(hi:i < 3)(hv:[x.2.1,x.2.2.1,x.2.2.2.1][i]? = some v) :
    L48_12 [I at',.ptr 0 0,.ptr 1 0,.ptr 2 0,.rptr 3 0 0,I i] [] (Hk f t x) = if argN x i v = true then L48_12 [I at',.ptr 0 0,.ptr 1 0,.ptr 2 0,.rptr 3 0 0,I ((i + 1:Nat):Int)] [] (Hk f t x) else some ([B false],[]) := by
  have hlt:(i:Int) < 3 := by omega
  have ia:idxArr 1 3 (.rptr 3 0 0) (I i) = some (.rptr 3 0 i) := by
    show (if _ then _ else _) = _
    rw [if_pos ⟨by omega,by omega⟩,Int.toNat_natCast,Nat.zero_add,Nat.mul_one]
  have lv:ld false 1 (.rptr 3 0 i) (Hk f t x) = some (I v) := by
    rw [ld_row (H := Hk f t x) (sz := 1) (xs := [x.2.1,x.2.2.1,x.2.2.2.1].map Ia) rfl,List.getElem?_map,hv]; rfl
  have w := wrapN (show i < 2 ^ 63 - 1 by omega)
  have hw:shp x = (decide (x.1 = 19) || (decide (x.1 = 9) && decide (x.2.2.2.2.1 = 1))) := rfl
  rw [L48_12_eq,argN]
  by_cases c0:(i:Int) = 1
  · have d0 := decide_eq_true c0
    cases hs:shp x with
    | true =>
      rw [if_pos (show (i:Int) = 1 ∧ true = true from ⟨c0,rfl⟩)]
      have key:∀ (b:Bool),b = decide (v < 0) → (if (!b) = true then L48_12 [I at',.ptr 0 0,.ptr 1 0,.ptr 2 0,.rptr 3 0 0,I ((i + 1:Nat):Int)] [] (Hk f t x) else some ([B false],[])) = (if decide (0 ≤ v) = true then L48_12 [I at',.ptr 0 0,.ptr 1 0,.ptr 2 0,.rptr 3 0 0,I ((i + 1:Nat):Int)] [] (Hk f t x) else some ([B false],[])) := fun b hb => by
        have:(!b) = decide (0 ≤ v) := by
          rw [hb]
          by_cases q:v < 0
          · rw [decide_eq_true q,decide_eq_false (by omega)]; rfl
          · rw [decide_eq_false q,decide_eq_true (by omega)]; rfl
        rw [this]
      by_cases c1:x.1 = 19
      · by_cases q:v < 0
        · have q':¬ 0 ≤ v := by omega
          simp only [hlt,d0,hk2,ti0,ti4,ia,lv,w,c1,q,q',Nat.zero_add,core,leave0_B]
        · have q':0 ≤ v := by omega
          simp only [hlt,d0,hk2,ti0,ti4,ia,lv,w,c1,q,q',Nat.zero_add,core,leave0_B]
      · have d1 := decide_eq_false c1
        rw [hw,d1,Bool.false_or,Bool.and_eq_true,decide_eq_true_eq,decide_eq_true_eq] at hs
        by_cases q:v < 0
        · have q':¬ 0 ≤ v := by omega
          simp only [hlt,d0,hk2,ti0,ti4,ia,lv,w,d1,decide_eq_true hs.1,hs.2,q,q',Nat.zero_add,core,leave0_B]
        · have q':0 ≤ v := by omega
          simp only [hlt,d0,hk2,ti0,ti4,ia,lv,w,d1,decide_eq_true hs.1,hs.2,q,q',Nat.zero_add,core,leave0_B]
    | false =>
      rw [if_neg (show ¬ ((i:Int) = 1 ∧ false = true) from fun h => by cases h.2)]
      rw [hw] at hs
      have c1:¬ x.1 = 19 := fun e => by rw [decide_eq_true e] at hs; cases hs
      have d1 := decide_eq_false c1
      rw [d1,Bool.false_or] at hs
      by_cases c2:x.1 = 9
      · have d2 := decide_eq_true c2
        rw [d2,Bool.true_and] at hs
        by_cases q:v = -1
        · simp only [hlt,d0,hk2,ti0,ti4,ia,lv,w,d1,d2,hs,decide_eq_true q,Nat.zero_add,core,leave0_B]
        · simp only [hlt,d0,hk2,ti0,ti4,ia,lv,w,d1,d2,hs,decide_eq_false q,Nat.zero_add,core,leave0_B]
      · have d2 := decide_eq_false c2
        by_cases q:v = -1
        · simp only [hlt,d0,hk2,ti0,ti4,ia,lv,w,d1,d2,decide_eq_true q,Nat.zero_add,core,leave0_B]
        · simp only [hlt,d0,hk2,ti0,ti4,ia,lv,w,d1,d2,decide_eq_false q,Nat.zero_add,core,leave0_B]
  · have d0 := decide_eq_false c0
    rw [if_neg (show ¬ ((i:Int) = 1 ∧ shp x = true) from fun h => c0 h.1)]
    by_cases q:v = -1
    · simp only [hlt,d0,hk2,ti0,ti4,ia,lv,w,decide_eq_true q,Nat.zero_add,core,leave0_B]
    · simp only [hlt,d0,hk2,ti0,ti4,ia,lv,w,decide_eq_false q,Nat.zero_add,core,leave0_B]
noncomputable def exC (at':Int):Res := (
(fldA 5 (.ptr 1 0)).bind fun x82 =>
(ld false 1 x82 (Hk f t x)).bind fun x83 =>
(bin .eql .int x83 (I 0)).bind fun x84 =>
(gd x84 false (fldA 5 (.ptr 1 0))).bind fun x85 =>
(gd x84 false (ld false 1 x85 (Hk f t x))).bind fun x86 =>
(gd x84 false (bin .eql .int x86 (I 1))).bind fun x87 =>
(gd x84 false (some x87)).bind fun x88 =>
(gd x88 true (fldA 5 (.ptr 2 0))).bind fun x89 =>
(gd x88 true (ld false 1 x89 (Hk f t x))).bind fun x90 =>
(gd x88 true (bin .eql .int x90 (I (-1)))).bind fun x91 =>
(gd x84 false (pickA x88 x91 (B false))).bind fun x92 =>
(pickA x84 (B true) x92).bind fun x93 =>
cond x93 (
(fldA 5 (.ptr 2 0)).bind fun x94 =>
(ld false 1 x94 (Hk f t x)).bind fun x95 =>
(bin .eql .int x95 (I (-1))).bind fun x96 =>
leave 0 [] [x96] (Hk f t x)) (
(fldA 5 (.ptr 2 0)).bind fun x97 =>
(ld false 1 x97 (Hk f t x)).bind fun x98 =>
(bin .geq .int x98 (I 0)).bind fun x99 =>
(gd x99 true (fldA 5 (.ptr 2 0))).bind fun x100 =>
(gd x99 true (ld false 1 x100 (Hk f t x))).bind fun x101 =>
(gd x99 true (fldA 5 (.ptr 0 0))).bind fun x102 =>
(gd x99 true (fldA 4 x102)).bind fun x103 =>
(gd x99 true (ld false 1 x103 (Hk f t x))).bind fun x104 =>
(gd x99 true (lenA .slice x104 (Hk f t x))).bind fun x105 =>
(gd x99 true (bin .lss .int x101 x105)).bind fun x106 =>
(pickA x99 x106 (B false)).bind fun x107 =>
(gd x107 true (ld true 18 (.ptr 0 0) (Hk f t x))).bind fun x108 =>
(gd x107 true (fldA 5 (.ptr 0 0))).bind fun x109 =>
(gd x107 true (fldA 4 x109)).bind fun x110 =>
(gd x107 true (ld false 1 x110 (Hk f t x))).bind fun x111 =>
(gd x107 true (fldA 5 (.ptr 2 0))).bind fun x112 =>
(gd x107 true (ld false 1 x112 (Hk f t x))).bind fun x113 =>
(gd x107 true (idxA 4 x111 x113)).bind fun x114 =>
(gd x107 true (ld true 4 x114 (Hk f t x))).bind fun x115 =>
(gd x107 true (some (I at'))).bind fun x116 =>
(gdH x107 true (callA cfg O 50 [x108,x115,x116] [] (Hk f t x)) (Hk f t x)).bind fun r117 =>
(pickA x107 r117.1 (B false)).bind fun x118 =>
leave 0 [] [x118] r117.2))
theorem exC_eq (ht:TOk t)(ho:isOp x.1 = true)(at':Int):exC f t x at' = some ([B (exOk t.2.2.2.1.2 t.2.2.2.2.1.2 f.2.1 f.2.2.2.2.2.length at' x)],[]) := by
  have he := (tblI ho).2.2.1
  unfold exC exOk
  cases c1:mst x.1 with
  | true =>
    rw [c1,if_pos rfl] at he
    by_cases d1:0 ≤ x.2.2.2.2.2.1
    case neg => simp only [hk0,hk1,hk2,hk18,fe5,ti5,ch9,Nat.zero_add,Nat.add_zero,Nat.reduceAdd,he,d1,Int.reduceEq,Bool.not_true,Bool.false_and,core,leave0_B]
    by_cases d2:x.2.2.2.2.2.1 < t.2.2.2.2.1.2.length
    case neg => simp only [hk0,hk1,hk2,hk18,fe5,ti5,ch9,Nat.zero_add,Nat.add_zero,Nat.reduceAdd,he,d1,d2,Int.reduceEq,Bool.not_true,Bool.true_and,Bool.false_and,core,leave0_B]
    have hj:x.2.2.2.2.2.1.toNat < t.2.2.2.2.1.2.length := by omega
    have i34 := idxL (sz := 4) (nl := t.2.2.2.2.1.1) (t := false) (xs := t.2.2.2.2.1.2.flatMap enc_TExit) (n := t.2.2.2.2.1.2.length) (i := x.2.2.2.2.2.1) ⟨d1,d2⟩
    simp only [hk0,hk1,hk2,hk18,fe5,ti5,ch9,Nat.zero_add,Nat.add_zero,Nat.reduceAdd,he,d1,d2,i34,ldRow len_TExit4 (by decide) hj,call50 (f := f) (t := t) _ (ht.each _ (List.getElem_mem hj)) at',List.getElem?_eq_getElem hj,Int.reduceEq,Bool.not_true,Bool.true_and,Bool.false_and,core,leave0_B]
  | false =>
    rw [c1,if_neg Bool.false_ne_true] at he
    cases c3:myR x.1 with
    | false =>
      rw [c3,if_neg Bool.false_ne_true] at he
      simp only [hk0,hk1,hk2,hk18,fe5,ti5,ch9,Nat.zero_add,Nat.add_zero,Nat.reduceAdd,he,Int.reduceEq,Bool.not_false,Bool.true_and,Bool.or_true,core,leave0_B]
    | true =>
    rw [c3,if_pos rfl] at he
    by_cases c2:x.2.2.2.2.2.1 = -1
    · simp only [hk0,hk1,hk2,hk18,fe5,ti5,ch9,Nat.zero_add,Nat.add_zero,Nat.reduceAdd,he,c2,Int.reduceEq,Bool.not_true,Bool.not_false,Bool.true_and,Bool.true_or,core,leave0_B]
    by_cases d1:0 ≤ x.2.2.2.2.2.1
    case neg => simp only [hk0,hk1,hk2,hk18,fe5,ti5,ch9,Nat.zero_add,Nat.add_zero,Nat.reduceAdd,he,c2,d1,Int.reduceEq,Bool.not_true,Bool.not_false,Bool.true_and,Bool.false_or,Bool.false_and,core,leave0_B]
    by_cases d2:x.2.2.2.2.2.1 < t.2.2.2.2.1.2.length
    case neg => simp only [hk0,hk1,hk2,hk18,fe5,ti5,ch9,Nat.zero_add,Nat.add_zero,Nat.reduceAdd,he,c2,d1,d2,Int.reduceEq,Bool.not_true,Bool.not_false,Bool.true_and,Bool.false_or,Bool.false_and,core,leave0_B]
    have hj:x.2.2.2.2.2.1.toNat < t.2.2.2.2.1.2.length := by omega
    have i34 := idxL (sz := 4) (nl := t.2.2.2.2.1.1) (t := false) (xs := t.2.2.2.2.1.2.flatMap enc_TExit) (n := t.2.2.2.2.1.2.length) (i := x.2.2.2.2.2.1) ⟨d1,d2⟩
    simp only [hk0,hk1,hk2,hk18,fe5,ti5,ch9,Nat.zero_add,Nat.add_zero,Nat.reduceAdd,he,c2,d1,d2,i34,ldRow len_TExit4 (by decide) hj,call50 (f := f) (t := t) _ (ht.each _ (List.getElem_mem hj)) at',List.getElem?_eq_getElem hj,Int.reduceEq,Bool.not_true,Bool.not_false,Bool.true_and,Bool.false_or,Bool.false_and,core,leave0_B]
theorem num_eq {regs:Int}(hr:1 ≤ regs ∧ regs ≤ 60)(ho:isOp x.1 = true):numR x regs = (wi x.2.2.2.2.1 (fmOf x.1).2.1 (fmOf x.1).2.2.1 && !(decide (x.1 = 1) && decide (regs ≤ x.2.2.2.2.1))) := by
  unfold numR
  by_cases h:x.1 = 1
  · have e1:lims x.1 regs = (0,wr (regs - 1)) := if_pos h
    have e2:fmOf x.1 = (0,0,1073741824,false,true,0) := by rw [h]; rfl
    rw [e1,e2,show wr (regs - 1) = regs - 1 from wrap_id (by omega),decide_eq_true h,Bool.true_and,Bool.eq_iff_iff]
    simp only [wi,Bool.and_eq_true,decide_eq_true_eq,Bool.not_eq_true',decide_eq_false_iff_not]
    omega
  · rw [(tblI ho).2.2.2 h regs,decide_eq_false h,Bool.false_and]
    simp
theorem tail48 (ht:TOk t)(hr:1 ≤ f.2.1 ∧ f.2.1 ≤ 60)(ho:isOp x.1 = true)(at':Int):L48_12 [I at',.ptr 0 0,.ptr 1 0,.ptr 2 0,.rptr 3 0 0,I ((3:Nat):Int)] [] (Hk f t x) = some ([B (tailR t.2.2.2.1.2 t.2.2.2.2.1.2 f.2.1 f.2.2.2.2.2.length at' x)],[]) := by
  have n3:¬ (((3:Nat):Int) < 3) := by omega
  have e := exC_eq f t x ht ho at'
  have hn := num_eq x hr ho
  have hkf := (tblI ho).2.1
  have b2:buildA [I 0,I 0] [] = some (.agg [I 0,I 0]) := rfl
  have vv:vlV x.2.2.2.2.2.2 = .agg [I x.2.2.2.2.2.2.1,I x.2.2.2.2.2.2.2] := rfl
  rw [L48_12_eq,tailR,hn,wi]
  by_cases c1:x.2.2.2.2.1 < (fmOf x.1).2.1
  · have c1':¬ (fmOf x.1).2.1 ≤ x.2.2.2.2.1 := by omega
    simp only [hk0,hk1,hk2,hkK,fe1,fe2,fe3,ti0,ti4,ti6,ch1,Nat.zero_add,Nat.add_zero,Nat.reduceAdd,n3,c1,c1',Bool.false_and,core,leave0_B]
  have c1':(fmOf x.1).2.1 ≤ x.2.2.2.2.1 := by omega
  by_cases c2:(fmOf x.1).2.2.1 < x.2.2.2.2.1
  · have c2':¬ x.2.2.2.2.1 ≤ (fmOf x.1).2.2.1 := by omega
    simp only [hk0,hk1,hk2,hkK,fe1,fe2,fe3,ti0,ti4,ti6,ch1,Nat.zero_add,Nat.add_zero,Nat.reduceAdd,n3,c1,c1',c2,c2',Bool.true_and,Bool.false_and,core,leave0_B]
  have c2':x.2.2.2.2.1 ≤ (fmOf x.1).2.2.1 := by omega
  -- what is left,whatever the number
  have rest : (!(decide (x.1 = 1) && decide (f.2.1 ≤ x.2.2.2.2.1))) = true → L48_12 [I at', .ptr 0 0, .ptr 1 0, .ptr 2 0, .rptr 3 0 0, I ((3 : Nat) : Int)] [] (Hk f t x) = some ([B (kOk x && exOk t.2.2.2.1.2 t.2.2.2.2.1.2 f.2.1 f.2.2.2.2.2.length at' x)], []) := fun hz => by
    have go : ∀ d : Bool, decide (x.1 = 1) = d → (d = true → decide (f.2.1 ≤ x.2.2.2.2.1) = false) → L48_12 [I at', .ptr 0 0, .ptr 1 0, .ptr 2 0, .rptr 3 0 0, I ((3 : Nat) : Int)] [] (Hk f t x) = some ([B (kOk x && exOk t.2.2.2.1.2 t.2.2.2.2.1.2 f.2.1 f.2.2.2.2.2.length at' x)], []) := fun d hd hd2 => by
      rw [L48_12_eq,kOk]
      by_cases k2:x.1 = 2
      · have g1:decide (x.1 = 1) = false := decide_eq_false (by omega)
        have gk:(fmOf x.1).2.2.2.1 = true := by rw [hkf,decide_eq_true k2,Bool.true_or]
        rw [if_pos (.inl k2),decide_eq_true k2,Bool.true_and,← right_eq]
        cases c3:rightV x.2.2.2.2.2.2 with
        | false => simp only [hk0,hk1,hk2,hkK,fe1,fe2,fe3,ti0,ti4,ti6,ch1,Nat.zero_add,Nat.add_zero,Nat.reduceAdd,n3,c1,c2,g1,gk,call96,c3,Bool.false_and,core,leave0_B]
        | true =>
          by_cases c4:x.2.2.2.2.2.2.1 = 5
          · simp only [hk0,hk1,hk2,hkK,fe1,fe2,fe3,ti0,ti4,ti6,ch1,Nat.zero_add,Nat.add_zero,Nat.reduceAdd,n3,c1,c2,g1,gk,call96,c3,decide_eq_true k2,c4,Bool.true_and,Bool.false_and,core,leave0_B]
          · have e' := e
            rw [exC] at e'
            simp only [hk0,hk1,hk2,hkK,fe1,fe2,fe3,ti0,ti4,ti6,ch1,Nat.zero_add,Nat.add_zero,Nat.reduceAdd,hk18,fe5,ti5,ch9,core,leave0_B] at e'
            simp only [hk0,hk1,hk2,hkK,fe1,fe2,fe3,ti0,ti4,ti6,ch1,Nat.zero_add,Nat.add_zero,Nat.reduceAdd,hk18,fe5,ti5,ch9,n3,c1,c2,g1,gk,call96,c3,decide_eq_true k2,c4,Bool.true_and,core,leave0_B]
            exact e'
      by_cases k6:x.1 = 6
      · have g1:decide (x.1 = 1) = false := decide_eq_false (by omega)
        have gk:(fmOf x.1).2.2.2.1 = true := by rw [hkf,decide_eq_true k6,Bool.or_true]
        rw [if_pos (.inr k6),decide_eq_false k2,Bool.false_and,← right_eq]
        cases c3:rightV x.2.2.2.2.2.2 with
        | false => simp only [hk0,hk1,hk2,hkK,fe1,fe2,fe3,ti0,ti4,ti6,ch1,Nat.zero_add,Nat.add_zero,Nat.reduceAdd,n3,c1,c2,g1,gk,call96,c3,Bool.false_and,core,leave0_B]
        | true =>
          have e' := e
          rw [exC] at e'
          simp only [hk0,hk1,hk2,hkK,fe1,fe2,fe3,ti0,ti4,ti6,ch1,Nat.zero_add,Nat.add_zero,Nat.reduceAdd,hk18,fe5,ti5,ch9,core,leave0_B] at e'
          simp only [hk0,hk1,hk2,hkK,fe1,fe2,fe3,ti0,ti4,ti6,ch1,Nat.zero_add,Nat.add_zero,Nat.reduceAdd,hk18,fe5,ti5,ch9,n3,c1,c2,g1,gk,call96,c3,decide_eq_false k2,Bool.true_and,core,leave0_B]
          exact e'
      have gk:(fmOf x.1).2.2.2.1 = false := by rw [hkf,decide_eq_false k2,decide_eq_false k6,Bool.or_self]
      rw [if_neg (show ¬ (x.1 = 2 ∨ x.1 = 6) from fun h => h.elim k2 k6)]
      cases d with
      | true =>
        have hd3 := hd2 rfl
        cases c6:(x.2.2.2.2.2.2.1 == 0 && (x.2.2.2.2.2.2.2 == 0 && true)) with
        | false => simp only [hk0,hk1,hk2,hkK,fe1,fe2,fe3,ti0,ti4,ti6,ch1,Nat.zero_add,Nat.add_zero,Nat.reduceAdd,n3,c1,c2,hd,hd3,gk,b2,vv,neqV,c6,Bool.false_and,core,leave0_B]
        | true =>
          have e' := e
          rw [exC] at e'
          simp only [hk0,hk1,hk2,hkK,fe1,fe2,fe3,ti0,ti4,ti6,ch1,Nat.zero_add,Nat.add_zero,Nat.reduceAdd,hk18,fe5,ti5,ch9,core,leave0_B] at e'
          simp only [hk0,hk1,hk2,hkK,fe1,fe2,fe3,ti0,ti4,ti6,ch1,Nat.zero_add,Nat.add_zero,Nat.reduceAdd,hk18,fe5,ti5,ch9,n3,c1,c2,hd,hd3,gk,b2,vv,neqV,c6,decide_eq_false k2,Bool.true_and,core,leave0_B]
          exact e'
      | false =>
        cases c6:(x.2.2.2.2.2.2.1 == 0 && (x.2.2.2.2.2.2.2 == 0 && true)) with
        | false => simp only [hk0,hk1,hk2,hkK,fe1,fe2,fe3,ti0,ti4,ti6,ch1,Nat.zero_add,Nat.add_zero,Nat.reduceAdd,n3,c1,c2,hd,gk,b2,vv,neqV,c6,Bool.false_and,core,leave0_B]
        | true =>
          have e' := e
          rw [exC] at e'
          simp only [hk0,hk1,hk2,hkK,fe1,fe2,fe3,ti0,ti4,ti6,ch1,Nat.zero_add,Nat.add_zero,Nat.reduceAdd,hk18,fe5,ti5,ch9,core,leave0_B] at e'
          simp only [hk0,hk1,hk2,hkK,fe1,fe2,fe3,ti0,ti4,ti6,ch1,Nat.zero_add,Nat.add_zero,Nat.reduceAdd,hk18,fe5,ti5,ch9,n3,c1,c2,hd,gk,b2,vv,neqV,c6,decide_eq_false k2,Bool.true_and,core,leave0_B]
          exact e'
    refine go _ rfl fun h => ?_
    rw [h,Bool.true_and] at hz
    simpa using hz
  rw [decide_eq_true c1',decide_eq_true c2',Bool.true_and,Bool.true_and]
  cases hz:!(decide (x.1 = 1) && decide (f.2.1 ≤ x.2.2.2.2.1)) with
  | true =>
    have := rest hz
    rw [L48_12_eq] at this
    rw [this,Bool.true_and]
  | false =>
    have hz':decide (x.1 = 1) = true ∧ decide (f.2.1 ≤ x.2.2.2.2.1) = true := by simpa using hz
    simp only [hk0,hk1,hk2,hkK,fe1,fe2,fe3,ti0,ti4,ti6,ch1,Nat.zero_add,Nat.add_zero,Nat.reduceAdd,n3,c1,c2,hz'.1,hz'.2,Bool.false_and,core,leave0_B]
end Ir
end Go.Proofs.YtnjfpnoamgipjaaDoor
set_option linter.unusedVariables false
set_option linter.unusedSimpArgs false
set_option maxRecDepth 100000
namespace Go.Proofs.YtnjfpnoamgipjaaDoor
open Go Go.AM
namespace Ir
variable (f:A_Fn) (t:A_TTrace) (x:A_TIns)
theorem call100r (at':Int):callA cfg O 100 [chV f t,.row 3 0 0 (fmOf x.1).1.toNat,I at'] [] (Hk f t x) = some (B ((asksL x).all fun v => valR t.2.2.2.1.2 v at'),Hk f t x) := by
  have al := asks_le x.1
  have hl:(asksL x).length = (fmOf x.1).1.toNat := by rw [asksL,List.length_take]; simp; omega
  refine callA_rows (rs := [B _]) (ys := [chV f t,V none false (asksL x),I at']) (b := true) rfl ?_ (ent100 (asksL x) (by omega) at') rfl rfl
  have e:pureArg (Hk f t x) (.row 3 0 0 (fmOf x.1).1.toNat) = some (V none false (asksL x),true) := by
    show pureLeaf (Hk f t x) (.row 3 0 0 (fmOf x.1).1.toNat) = _
    show (if _ then _ else _) = _
    rw [if_pos ⟨rfl,by simp; omega⟩,List.drop_zero,Nat.mul_one]
    show _ = some (AV.p (.sl none false (asksL x).length ((asksL x).map Ia)),true)
    rw [hl,asksL,List.map_take]
    rfl
  show (pureArg _ _).bind _ = _
  rw [pureAgg,obs]
  show ((pureArg _ _).bind _).map _ = _
  rw [e,obs]
  rfl
theorem call48 (ht:TOk t)(hr:1 ≤ f.2.1 ∧ f.2.1 ≤ 60)(ho:isOp x.1 = true)(at':Int)(lo:List Nat)(H:Heap):callA cfg O 48 [chV f t,fmV (fmOf x.1),tiV x,I at'] lo H = some (B (formR t.2.2.2.1.2 t.2.2.2.2.1.2 f.2.1 f.2.2.2.2.2.length at' x),H) := by
  refine callA_args (H' := []) (rs := [B _]) rfl (pureArgsC (pureAgg _ _) (pureArgsC (pureAgg _ _) (pureArgsC (pureAgg _ _) (pureArgs1 (pureP _ _))))) ?_ rfl
  have al := asks_le x.1
  have av := asks_vals x.1
  have b3:∀ o1 o2:AObj,boxO [] (AV.cells (tiV x)) [o1,o2] = some (.ptr 2 0,[o1,o2,.box ((enc_TIns x).map .p)]) := fun o1 o2 => boxO_p _ [o1,o2]
  have g2:∀ (o1 o2:AObj) j,ld false 1 (.ptr 2 j) [o1,o2,.box ((enc_TIns x).map .p)] = ((enc_TIns x)[j]?).map .p := fun o1 o2 j => ldBx (H := [o1,o2,_]) rfl 1 j
  have bu:buildA [I 0,I 0,I 0] [(0,1,I x.2.1),(1,1,I x.2.2.1),(2,1,I x.2.2.2.1)] = some (.agg [I x.2.1,I x.2.2.1,I x.2.2.2.1]) := rfl
  have ma:∀ o1 o2 o3:AObj,mkArr 1 [(.v (.int .i64 0)),(.v (.int .i64 0)),(.v (.int .i64 0))] [o1,o2,o3] = (.rptr 3 0 0,[o1,o2,o3,.row 0 1 [Ia 0,Ia 0,Ia 0]]) := fun _ _ _ => rfl
  have sa:stA 3 (.rptr 3 0 0) (.agg [I x.2.1,I x.2.2.1,I x.2.2.2.1]) [] [.box ((chE f t).map .p),.box ((eFm (fmOf x.1)).map .p),.box ((enc_TIns x).map .p),.row 0 1 [Ia 0,Ia 0,Ia 0]] = some (Hk f t x) := rfl
  have ca:cutArr 1 3 (.rptr 3 0 0) none (some (I (fmOf x.1).1)) (Hk f t x) = some (.row 3 0 0 (fmOf x.1).1.toNat) := by
    show (if _ then _ else _) = _
    rw [if_pos ⟨rfl,rfl,by simp,by omega,al.1,by omega,by decide⟩]
    simp
  have c100 := call100r f t x at'
  have s0 := step48 f t x at' 0 x.2.1 (by decide) rfl
  have s1 := step48 f t x at' 1 x.2.2.1 (by decide) rfl
  have s2 := step48 f t x at' 2 x.2.2.2.1 (by decide) rfl
  have s3 := tail48 f t x ht hr ho at'
  rw [s3] at s2
  rw [s2] at s1
  rw [s1] at s0
  have fin:(if (asksL x).all (fun v => valR t.2.2.2.1.2 v at') = true then L48_12 [I at',.ptr 0 0,.ptr 1 0,.ptr 2 0,.rptr 3 0 0,I (fmOf x.1).1] [] (Hk f t x) else some ([B false],[])) = some ([B (formR t.2.2.2.1.2 t.2.2.2.2.1.2 f.2.1 f.2.2.2.2.2.length at' x)],[]) := by
    have hv:vals x.1 = 0 ∨ vals x.1 = 1 ∨ vals x.1 = 2 ∨ vals x.1 = 3 := by omega
    have an:∀ k v:Int,¬ k < vals x.1 → argk t.2.2.2.1.2 x at' k v = argN x k v := fun k v h => by rw [argk,if_neg h,argN]
    have ak:∀ k v:Int,k < vals x.1 → argk t.2.2.2.1.2 x at' k v = valR t.2.2.2.1.2 v at' := fun k v h => by rw [argk,if_pos h]
    rw [asksL,formR,av]
    rcases hv with h | h | h | h
    · rw [an 0 _ (by omega),an 1 _ (by omega),an 2 _ (by omega),h]
      simp only [Int.toNat_zero,List.take_zero,List.all_nil,if_true]
      refine s0.trans ?_
      simp only [Int.natCast_zero,Int.natCast_one,show ((2:Nat):Int) = 2 from rfl]
      cases argN x 0 x.2.1 <;> cases argN x 1 x.2.2.1 <;> cases argN x 2 x.2.2.2.1 <;> rfl
    · rw [ak 0 _ (by omega),an 1 _ (by omega),an 2 _ (by omega),h]
      have e:[x.2.1,x.2.2.1,x.2.2.2.1].take (1:Int).toNat = [x.2.1] := rfl
      rw [e,List.all_cons,List.all_nil,Bool.and_true]
      have s1':L48_12 [I at',.ptr 0 0,.ptr 1 0,.ptr 2 0,.rptr 3 0 0,I 1] [] (Hk f t x) = _ := s1
      rw [s1']
      simp only [Int.natCast_one,show ((2:Nat):Int) = 2 from rfl]
      cases valR t.2.2.2.1.2 x.2.1 at' <;> cases argN x 1 x.2.2.1 <;> cases argN x 2 x.2.2.2.1 <;> rfl
    · rw [ak 0 _ (by omega),ak 1 _ (by omega),an 2 _ (by omega),h]
      have e:[x.2.1,x.2.2.1,x.2.2.2.1].take (2:Int).toNat = [x.2.1,x.2.2.1] := rfl
      rw [e,List.all_cons,List.all_cons,List.all_nil,Bool.and_true]
      have s2':L48_12 [I at',.ptr 0 0,.ptr 1 0,.ptr 2 0,.rptr 3 0 0,I 2] [] (Hk f t x) = _ := s2
      rw [s2']
      simp only [show ((2:Nat):Int) = 2 from rfl]
      cases valR t.2.2.2.1.2 x.2.1 at' <;> cases valR t.2.2.2.1.2 x.2.2.1 at' <;> cases argN x 2 x.2.2.2.1 <;> rfl
    · rw [ak 0 _ (by omega),ak 1 _ (by omega),ak 2 _ (by omega),h]
      have e:[x.2.1,x.2.2.1,x.2.2.2.1].take (3:Int).toNat = [x.2.1,x.2.2.1,x.2.2.2.1] := rfl
      rw [e,List.all_cons,List.all_cons,List.all_cons,List.all_nil,Bool.and_true]
      have s3':L48_12 [I at',.ptr 0 0,.ptr 1 0,.ptr 2 0,.rptr 3 0 0,I 3] [] (Hk f t x) = _ := s3
      rw [s3']
      cases valR t.2.2.2.1.2 x.2.1 at' <;> cases valR t.2.2.2.1.2 x.2.2.1 at' <;> cases valR t.2.2.2.1.2 x.2.2.2.1 at' <;> rfl
  rw [f48_eq]
  cases hz:(asksL x).all fun v => valR t.2.2.2.1.2 v at' with
  | false =>
    rw [hz] at fin c100
    rw [if_neg Bool.false_ne_true] at fin
    rw [← fin]
    simp only [boxAgg0,box12,b3,g2,ti1,ti2,ti3,Nat.zero_add,Nat.add_zero,bu,ma,sa,hk18,hk1,fe0,ca,c100,core,leave0_B]
  | true =>
    rw [hz] at fin c100
    rw [if_pos rfl] at fin
    rw [← fin]
    simp only [boxAgg0,box12,b3,g2,ti1,ti2,ti3,Nat.zero_add,Nat.add_zero,bu,ma,sa,hk18,hk1,fe0,ca,c100,core]
end Ir
end Go.Proofs.YtnjfpnoamgipjaaDoor
set_option linter.unusedVariables false
set_option linter.unusedSimpArgs false
set_option maxRecDepth 100000
namespace Go.Proofs.YtnjfpnoamgipjaaDoor
open Go Go.AM
namespace Ir
variable {p:A_Prog}{t:A_TTrace}{f:A_Fn}
theorem M50 (ht:TOk t):∀ (c i:Nat)(H:Heap),t.2.2.2.2.1.2.length - i = c → i ≤ t.2.2.2.2.1.2.length → H[1]? = some (.box ((enc_TTrace t).map .p)) → H[2]? = some (.box ((chE f t).map .p)) →
    L19_50 [.ptr 1 0,.ptr 2 0,.p (.sl t.2.2.2.2.1.1 false t.2.2.2.2.1.2.length (t.2.2.2.2.1.2.flatMap enc_TExit)),I t.2.2.2.2.1.2.length,I i] [] H
      = some ([I (if ((t.2.2.2.2.1.2.drop i).all fun e => exitR t.2.2.2.1.2 f.2.1 f.2.2.2.2.2.length t.2.2.2.1.2.length e) = true then 0 else 3)],[]) := by
  intro c
  have hx := ht.exits
  induction c with
  | zero =>
    intro i H hc hi h1 h2
    have:i = t.2.2.2.2.1.2.length := by omega
    subst this
    rw [L19_50_eq]
    simp only [Int.lt_irrefl,List.drop_length,List.all_nil,core,leave0_I]
  | succ c ih =>
    intro i H hc hi h1 h2
    have h:i < t.2.2.2.2.1.2.length := by omega
    have hlt:(i:Int) < t.2.2.2.2.1.2.length := by omega
    obtain ⟨m,hm⟩:∃ m,t.2.2.2.2.1.2[i] = m := ⟨_,rfl⟩
    have x3:ld true 4 (.fp (t.2.2.2.2.1.2.flatMap enc_TExit) (i * 4)) H = some (exV m) := by rw [ldRow len_TExit4 (by decide) h,hm]
    have r4:boxO [] [I 0,I 0,.p nilS,.p nilS] H = some (.ptr H.length 0,H ++ [.box ([Ia 0,Ia 0,nilS,nilS].map .p)]) := boxO_p [Ia 0,Ia 0,nilS,nilS] H
    have r5:stA 4 (.ptr H.length 0) (exV m) [] (H ++ [.box ([Ia 0,Ia 0,nilS,nilS].map .p)]) = some (H ++ [.box ((enc_TExit m).map .p)]) := stA_new rfl rfl (by decide)
    have hc1 := idxI (sz := 4) (nl := t.2.2.2.2.1.1) (t := false) (xs := t.2.2.2.2.1.2.flatMap enc_TExit) h
    have b1:(H ++ [AObj.box ((enc_TExit m).map .p)])[1]? = some (.box ((enc_TTrace t).map .p)) := push_get? h1 _
    have b2:(H ++ [AObj.box ((enc_TExit m).map .p)])[2]? = some (.box ((chE f t).map .p)) := push_get? h2 _
    have c18 := ldC18 b2
    have fx := fun j => ldBx b1 1 j
    have x8:ld true 4 (.ptr H.length 0) (H ++ [AObj.box ((enc_TExit m).map .p)]) = some (exV m) := ldA (len_TExit4 m) (by decide) H
    have w := wrapN (show i < 2 ^ 63 - 1 by omega)
    have e50 := call50 (f := f) (t := t) m (ht.each m (hm ▸ List.getElem_mem h)) t.2.2.2.1.2.length []
    rw [L19_50_eq,List.drop_eq_getElem_cons h,hm,List.all_cons]
    cases hb:exitR t.2.2.2.1.2 f.2.1 f.2.2.2.2.2.length t.2.2.2.1.2.length m with
    | true =>
      simp only [hlt,hc1,x3,r4,r5,c18,fx,tr3,x8,e50,hb,w,Nat.zero_add,Bool.true_and,core]
      exact ih (i + 1) _ (by omega) (by omega) b1 b2
    | false => simp only [hlt,hc1,x3,r4,r5,c18,fx,tr3,x8,e50,hb,Nat.zero_add,Bool.false_and,core,leave0_I]
theorem end19 (ht:TOk t)(hl:0 ≤ t.2.2.1){H:Heap}(h1:H[1]? = some (.box ((enc_TTrace t).map .p)))(h2:H[2]? = some (.box ((chE f t).map .p)))(ls:AV)(n:Nat):L19_22 [.ptr 1 0,.ptr 2 0,ls,I n,I n] [] H = some ([I (endE t f.2.1 f.2.2.2.2.2.length)],[]) := by
  have fx := fun j => ldBx h1 1 j
  have c18 := ldC18 h2
  have lb := ldBack h1
  have lt := ldTurn h1
  have e50 := M50 (f := f) ht t.2.2.2.2.1.2.length 0 H (by omega) (by omega) h1 h2
  rw [List.drop_zero] at e50
  have e50':L19_50 [.ptr 1 0,.ptr 2 0,.p (.sl t.2.2.2.2.1.1 false t.2.2.2.2.1.2.length (t.2.2.2.2.1.2.flatMap enc_TExit)),I t.2.2.2.2.1.2.length,I 0] [] H = _ := e50
  have eb := call50 (f := f) (t := t) t.2.2.2.2.2.2 ht.back t.2.2.2.1.2.length []
  have et := call50 (f := f) (t := t) t.2.2.2.2.2.1 ht.turn t.2.2.1 []
  rw [L19_22_eq,endE,turnOk]
  by_cases c0:t.2.2.1 = 0
  · have c0':¬ 0 < t.2.2.1 := by omega
    have d0 := decide_eq_true c0
    have d0' := decide_eq_false c0'
    rw [if_neg c0']
    cases c1:noExit t.2.2.2.2.2.1 with
    | false => simp only [Int.lt_irrefl,fx,c18,lb,lt,tr1,tr2,tr3,tr4,tr5,tr9,Nat.zero_add,Nat.add_zero,d0,call49,c1,Bool.and_false,Bool.false_and,core,leave0_I]
    | true =>
      by_cases c2:t.2.2.2.2.2.2.1 = t.2.1
      · have d2 := decide_eq_true c2
        cases c3:exitR t.2.2.2.1.2 f.2.1 f.2.2.2.2.2.length t.2.2.2.1.2.length t.2.2.2.2.2.2 with
        | false => simp only [Int.lt_irrefl,fx,c18,lb,lt,tr1,tr2,tr3,tr4,tr5,tr9,Nat.zero_add,Nat.add_zero,d0,d0',d2,call49,eb,c1,c3,Bool.and_false,Bool.false_and,Bool.true_and,Bool.and_true,core,leave0_I]
        | true =>
          simp only [Int.lt_irrefl,fx,c18,lb,lt,tr1,tr2,tr3,tr4,tr5,tr9,Nat.zero_add,Nat.add_zero,d0,d0',d2,call49,eb,c1,c3,Bool.true_and,Bool.and_true,core]
          exact e50'
      · have d2 := decide_eq_false c2
        simp only [Int.lt_irrefl,fx,c18,lb,lt,tr1,tr2,tr3,tr4,tr5,tr9,Nat.zero_add,Nat.add_zero,d0,d0',d2,call49,c1,Bool.and_false,Bool.false_and,Bool.and_true,core,leave0_I]
  · have c0':0 < t.2.2.1 := by omega
    have d0 := decide_eq_false c0
    have d0' := decide_eq_true c0'
    rw [if_pos c0']
    by_cases c1:t.2.2.2.2.2.1.1 = t.2.1
    case neg =>
      have d1 := decide_eq_false c1
      simp only [Int.lt_irrefl,fx,c18,lb,lt,tr1,tr2,tr3,tr4,tr5,tr9,Nat.zero_add,Nat.add_zero,d0,d0',d1,Bool.and_false,Bool.false_and,core,leave0_I]
    have d1 := decide_eq_true c1
    cases c4:exitR t.2.2.2.1.2 f.2.1 f.2.2.2.2.2.length t.2.2.1 t.2.2.2.2.2.1 with
    | false => simp only [Int.lt_irrefl,fx,c18,lb,lt,tr1,tr2,tr3,tr4,tr5,tr9,Nat.zero_add,Nat.add_zero,d0,d0',d1,et,c4,Bool.and_false,Bool.false_and,core,leave0_I]
    | true =>
      by_cases c2:t.2.2.2.2.2.2.1 = t.2.1
      · have d2 := decide_eq_true c2
        cases c3:exitR t.2.2.2.1.2 f.2.1 f.2.2.2.2.2.length t.2.2.2.1.2.length t.2.2.2.2.2.2 with
        | false => simp only [Int.lt_irrefl,fx,c18,lb,lt,tr1,tr2,tr3,tr4,tr5,tr9,Nat.zero_add,Nat.add_zero,d0,d0',d1,d2,et,eb,c4,c3,Bool.and_false,Bool.false_and,Bool.true_and,Bool.and_true,core,leave0_I]
        | true =>
          simp only [Int.lt_irrefl,fx,c18,lb,lt,tr1,tr2,tr3,tr4,tr5,tr9,Nat.zero_add,Nat.add_zero,d0,d0',d1,d2,et,eb,c4,c3,Bool.true_and,Bool.and_true,core]
          exact e50'
      · have d2 := decide_eq_false c2
        simp only [Int.lt_irrefl,fx,c18,lb,lt,tr1,tr2,tr3,tr4,tr5,tr9,Nat.zero_add,Nat.add_zero,d0,d0',d1,d2,et,c4,Bool.and_false,Bool.false_and,Bool.true_and,Bool.and_true,core,leave0_I]
theorem M22 (ht:TOk t)(hl:0 ≤ t.2.2.1)(hr:1 ≤ f.2.1 ∧ f.2.1 ≤ 60):∀ (c i:Nat)(H:Heap),t.2.2.2.1.2.length - i = c → i ≤ t.2.2.2.1.2.length → H[1]? = some (.box ((enc_TTrace t).map .p)) → H[2]? = some (.box ((chE f t).map .p)) →
    L19_22 [.ptr 1 0,.ptr 2 0,.p (.sl t.2.2.2.1.1 false t.2.2.2.1.2.length (t.2.2.2.1.2.flatMap enc_TIns)),I t.2.2.2.1.2.length,I i] [] H
      = some ([I (insE t.2.2.2.1.2 t.2.2.2.2.1.2 f.2.1 f.2.2.2.2.2.length (endE t f.2.1 f.2.2.2.2.2.length) i (t.2.2.2.1.2.drop i))],[]) := by
  intro c
  have hx := ht.ins
  induction c with
  | zero =>
    intro i H hc hi h1 h2
    have:i = t.2.2.2.1.2.length := by omega
    subst this
    rw [end19 ht hl h1 h2,List.drop_length,insE]
  | succ c ih =>
    intro i H hc hi h1 h2
    have h:i < t.2.2.2.1.2.length := by omega
    have hlt:(i:Int) < t.2.2.2.1.2.length := by omega
    obtain ⟨x,hm⟩:∃ x,t.2.2.2.1.2[i] = x := ⟨_,rfl⟩
    have x3:ld true 8 (.fp (t.2.2.2.1.2.flatMap enc_TIns) (i * 8)) H = some (tiV x) := by rw [ldRow len_TIns8 (by decide) h,hm]
    have hc1 := idxI (sz := 8) (nl := t.2.2.2.1.1) (t := false) (xs := t.2.2.2.1.2.flatMap enc_TIns) h
    have r4 := box8 H
    have r5 := st8 x [] H
    have r11 := box6 (H ++ [AObj.box ((enc_TIns x).map .p)])
    have r12 := st6 (fmOf x.1) [] (H ++ [AObj.box ((enc_TIns x).map .p)])
    have b1:((H ++ [AObj.box ((enc_TIns x).map .p)]) ++ [AObj.box ((eFm (fmOf x.1)).map .p)])[1]? = some (.box ((enc_TTrace t).map .p)) := push_get? (push_get? h1 _) _
    have b2:((H ++ [AObj.box ((enc_TIns x).map .p)]) ++ [AObj.box ((eFm (fmOf x.1)).map .p)])[2]? = some (.box ((chE f t).map .p)) := push_get? (push_get? h2 _) _
    have fm:∀ n j,ld false n (.ptr H.length j) (H ++ [AObj.box ((enc_TIns x).map .p)]) = ((enc_TIns x)[j]?).map .p := fun n j => ldB _ _ _ _
    have c18 := ldC18 b2
    have x15:ld true 6 (.ptr (H ++ [AObj.box ((enc_TIns x).map .p)]).length 0) ((H ++ [AObj.box ((enc_TIns x).map .p)]) ++ [AObj.box ((eFm (fmOf x.1)).map .p)]) = some (fmV (fmOf x.1)) := ldA (len_Fm6 _) (by decide) _
    have x16:ld true 8 (.ptr H.length 0) ((H ++ [AObj.box ((enc_TIns x).map .p)]) ++ [AObj.box ((eFm (fmOf x.1)).map .p)]) = some (tiV x) := by
      rw [ldAgg_box (push_get? (show (H ++ [AObj.box ((enc_TIns x).map .p)])[H.length]? = some (.box ((enc_TIns x).map .p)) by simp) _) (by rw [List.length_map,len_TIns8]; decide) (by rw [List.length_map,len_TIns8]; decide)]; rfl
    have w := wrapN (show i < 2 ^ 63 - 1 by omega)
    rw [L19_22_eq,List.drop_eq_getElem_cons h,hm,insE]
    cases ho:isOp x.1 with
    | false =>
      have ho' := of_decide_eq_false ho
      rw [if_pos (show x.1 < 1 ∨ 19 < x.1 by omega)]
      simp only [hlt,hc1,x3,r4,r5,Nat.zero_add,Nat.add_zero,fm,ti0,call40,ho,r11,r12,core,leave0_I]
    | true =>
      have ho' := of_decide_eq_true ho
      rw [if_neg (show ¬ (x.1 < 1 ∨ 19 < x.1) by omega)]
      have e48 := call48 f t x ht hr ho i []
      cases c3:formR t.2.2.2.1.2 t.2.2.2.2.1.2 f.2.1 f.2.2.2.2.2.length i x with
      | false => simp only [hlt,hc1,x3,r4,r5,Nat.zero_add,Nat.add_zero,fm,ti0,call40,ho,r11,r12,c18,x15,x16,e48,c3,core,leave0_I]
      | true =>
        simp only [hlt,hc1,x3,r4,r5,Nat.zero_add,Nat.add_zero,fm,ti0,call40,ho,r11,r12,c18,x15,x16,e48,c3,w,core]
        exact ih (i + 1) _ (by omega) (by omega) b1 b2
theorem call19 (ht:TOk t){e:Int}(he:∀ lo H,callA cfg O 17 [pgV p] lo H = some (I e,H))(hg:e = 0 → ∀ g ∈ p.1.2,1 ≤ g.2.1 ∧ g.2.1 ≤ 60)(lo:List Nat)(H:Heap):callA cfg O 19 [pgV p,trV t] lo H = some (I (if e = 0 then chkR p t else e),H) := by
  refine callA_args (H' := []) (rs := [I _]) rfl (pureArgsC (pureAgg _ _) (pureArgs1 (pureAgg _ _))) ?_ rfl
  have f0:∀ (o2:AObj) j,ld false 1 (.ptr 0 j) [.box ((enc_Prog p).map .p),o2] = ((enc_Prog p)[j]?).map .p := fun o2 j => ldB02 _ _ _ _
  have f1:∀ (o1:AObj) j,ld false 1 (.ptr 1 j) [o1,.box ((enc_TTrace t).map .p)] = ((enc_TTrace t)[j]?).map .p := fun o1 j => ldB12 _ _ _ _
  have x3:ld true 3 (.ptr 0 0) [.box ((enc_Prog p).map .p),.box ((enc_TTrace t).map .p)] = some (pgV p) := ldA02 (len_Prog3 p) (by decide) _
  have x58:ld true 13 (.ptr 1 0) [.box ((enc_Prog p).map .p),.box ((enc_TTrace t).map .p)] = some (trV t) := ldA (len_TTrace13 t) (by decide) [_]
  rw [f19_eq]
  by_cases h0:e = 0
  case neg =>
    rw [if_neg h0]
    simp only [boxAgg0,box12,x3,he,decide_eq_false h0,core,leave0_I]
  rw [if_pos h0,chkR]
  have d0 := decide_eq_true h0
  by_cases c1:300 < t.2.2.2.1.2.length
  · have c1':(300:Int) < t.2.2.2.1.2.length := by omega
    simp only [boxAgg0,box12,f0,f1,x3,he,d0,pg0,tr0,tr1,tr2,tr3,tr4,Nat.zero_add,Nat.add_zero,c1,c1',true_or,core,leave0_I]
  have c1':¬ (300:Int) < t.2.2.2.1.2.length := by omega
  by_cases c2:200 < t.2.2.2.2.1.2.length
  · have c2':(200:Int) < t.2.2.2.2.1.2.length := by omega
    simp only [boxAgg0,box12,f0,f1,x3,he,d0,pg0,tr0,tr1,tr2,tr3,tr4,Nat.zero_add,Nat.add_zero,c1',c2,c2',or_true,core,leave0_I]
  have c2':¬ (200:Int) < t.2.2.2.2.1.2.length := by omega
  by_cases c3:0 ≤ t.1
  case neg =>
    have c3':t.1 < 0 := by omega
    simp only [boxAgg0,box12,f0,f1,x3,he,d0,pg0,tr0,tr1,tr2,tr3,tr4,Nat.zero_add,Nat.add_zero,c1,c1',c2,c2',c3,c3',or_self,core,leave0_I]
  have c3':¬ t.1 < 0 := by omega
  cases c4:p.1.2[t.1.toNat]? with
  | none =>
    have c4':(p.1.2.length:Int) ≤ t.1 := by
      have := List.getElem?_eq_none_iff.mp c4
      omega
    simp only [boxAgg0,box12,f0,f1,x3,he,d0,pg0,tr0,tr1,tr2,tr3,tr4,Nat.zero_add,Nat.add_zero,c1,c1',c2,c2',c3,c3',c4,c4',or_self,core,leave0_I]
  | some f =>
  obtain ⟨hj,hf⟩ := List.getElem?_eq_some_iff.mp c4
  have c4':¬ (p.1.2.length:Int) ≤ t.1 := by omega
  have i8 := idxL (sz := 5) (nl := p.1.1) (t := false) (xs := p.1.2.flatMap enc_Fn) (n := p.1.2.length) (i := t.1) ⟨c3,by omega⟩
  have x34:∀ H n,ld false n (.fp (p.1.2.flatMap enc_Fn) (t.1.toNat * 5 + 4)) H = some (.p (.sl f.2.2.2.2.1 false f.2.2.2.2.2.length (f.2.2.2.2.2.flatMap enc_Ins))) := fun H n => by rw [ldCell len_Fn5 hj (by decide),hf,fn4]; rfl
  have x57:∀ H,ld true 5 (.fp (p.1.2.flatMap enc_Fn) (t.1.toNat * 5)) H = some (fnV f) := fun H => by rw [ldRow len_Fn5 (by decide) hj,hf]
  by_cases c5:t.2.1 < 0
  · simp only [boxAgg0,box12,f0,f1,x3,he,d0,pg0,tr0,tr1,tr2,tr3,tr4,Nat.zero_add,Nat.add_zero,c1,c1',c2,c2',c3,c3',c4',c5,true_or,or_self,core,leave0_I]
  by_cases c6:(f.2.2.2.2.2.length:Int) ≤ t.2.1
  · simp only [boxAgg0,box12,f0,f1,x3,he,d0,pg0,tr0,tr1,tr2,tr3,tr4,Nat.zero_add,Nat.add_zero,c1,c1',c2,c2',c3,c3',c4',c5,c6,i8,x34,true_or,or_true,or_self,core,leave0_I]
  by_cases c7:t.2.2.1 < 0
  · simp only [boxAgg0,box12,f0,f1,x3,he,d0,pg0,tr0,tr1,tr2,tr3,tr4,Nat.zero_add,Nat.add_zero,c1,c1',c2,c2',c3,c3',c4',c5,c6,c7,i8,x34,true_or,or_true,or_self,core,leave0_I]
  by_cases c8:(t.2.2.2.1.2.length:Int) < t.2.2.1
  · simp only [boxAgg0,box12,f0,f1,x3,he,d0,pg0,tr0,tr1,tr2,tr3,tr4,Nat.zero_add,Nat.add_zero,c1,c1',c2,c2',c3,c3',c4',c5,c6,c7,c8,i8,x34,or_true,or_self,core,leave0_I]
  have bu:buildA [(I 0),(I 0),(B false),(.p nilS),(.p nilS),(I 0),(I 0),(I 0),(.p nilS),(.p nilS),(I 0),(I 0),(.p nilS),(.p nilS),(I 0),(I 0),(.p nilS),(.p nilS)] [(0,5,fnV f),(5,13,trV t)] = some (chV f t) := by kernel_rfl
  have r60:∀ o1 o2:AObj,boxO [] [(I 0),(I 0),(B false),(.p nilS),(.p nilS),(I 0),(I 0),(I 0),(.p nilS),(.p nilS),(I 0),(I 0),(.p nilS),(.p nilS),(I 0),(I 0),(.p nilS),(.p nilS)] [o1,o2] = some (.ptr 2 0,[o1,o2,.box ([Ia 0,Ia 0,.v (.bool false),nilS,nilS,Ia 0,Ia 0,Ia 0,nilS,nilS,Ia 0,Ia 0,nilS,nilS,Ia 0,Ia 0,nilS,nilS].map .p)]) := fun o1 o2 => boxO_p [Ia 0,Ia 0,.v (.bool false),nilS,nilS,Ia 0,Ia 0,Ia 0,nilS,nilS,Ia 0,Ia 0,nilS,nilS,Ia 0,Ia 0,nilS,nilS] [o1,o2]
  have r61:∀ o1 o2:AObj,stA 18 (.ptr 2 0) (chV f t) [] [o1,o2,.box ([Ia 0,Ia 0,.v (.bool false),nilS,nilS,Ia 0,Ia 0,Ia 0,nilS,nilS,Ia 0,Ia 0,nilS,nilS,Ia 0,Ia 0,nilS,nilS].map .p)] = some [o1,o2,.box ((chE f t).map .p)] := fun o1 o2 => stA_new (H := [o1,o2]) rfl rfl (by decide)
  have g1:∀ (o1 o3:AObj) j,ld false 1 (.ptr 1 j) [o1,.box ((enc_TTrace t).map .p),o3] = ((enc_TTrace t)[j]?).map .p := fun o1 o3 j => ldBx (H := [o1,_,o3]) rfl 1 j
  simp only [boxAgg0,box12,f0,f1,x3,he,d0,pg0,tr0,tr1,tr2,tr3,tr4,Nat.zero_add,Nat.add_zero,c1,c1',c2,c2',c3,c3',c4',c5,c6,c7,c8,i8,x34,x57,x58,bu,r60,r61,g1,or_self,core]
  exact M22 (f := f) ht (by omega) (hg h0 f (hf ▸ List.getElem_mem hj)) t.2.2.2.1.2.length 0 [.box ((enc_Prog p).map .p),.box ((enc_TTrace t).map .p),.box ((chE f t).map .p)] (by omega) (by omega) rfl rfl
end Ir
end Go.Proofs.YtnjfpnoamgipjaaDoor

