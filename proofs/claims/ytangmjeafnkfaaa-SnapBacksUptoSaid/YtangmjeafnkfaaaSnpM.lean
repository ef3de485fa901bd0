import Derived.Test.YtangmjeafnkfaaaSnpN
set_option linter.unusedVariables false
set_option linter.unusedSimpArgs false
namespace Go.Proofs.Ytangmjeafnkfaaa
open Go Go.AM

/-! ### A state that is handed in -/
namespace Snp
def upL {α β : Type} (f : α → β) (l : Option Bool × List α) : DL β := ((l.1, false), l.2.map f)
theorem fl_up {α β : Type} {f : α → β} {g : β → List Int} {h : α → Nat} (l : Option Bool × List α) (hh : ∀ x, (g (f x)).length ≤ h x) : (fl (upL f l) g).length ≤ (l.2.map fun x => h x).sum + 1 := by
  unfold fl upL
  simp only [List.length_cons]
  have : ∀ (l : List α), ((l.map f).flatMap g).length ≤ (l.map fun x => h x).sum := by
    intro l
    induction l with
    | nil => simp
    | cons x l ih =>
      have := hh x
      simp only [List.map_cons, List.flatMap_cons, List.length_append, List.sum_cons]
      omega
  have := this l.2
  omega
theorem dl_up {α β : Type} {f : α → β} {e : β → List PV} {e' : α → List PV} (l : Option Bool × List α) (h : ∀ x, e (f x) = e' x) : dl (upL f l) e = .sl l.1 false l.2.length (l.2.flatMap e') := by
  show PV.sl l.1 false (l.2.map f).length ((l.2.map f).flatMap e) = _
  rw [List.length_map, List.flatMap_map]
  congr 1
  exact congrArg (fun g => l.2.flatMap g) (funext h)
theorem ok_up {α β : Type} {f : α → β} {l : Option Bool × List α} (h : l.2.length ≤ maxLen) : ok_L (upL f l) := by
  show (l.2.map f).length < 2 ^ 63
  rw [List.length_map]
  simp only [maxLen] at h
  omega
end Snp
namespace SnpUp
open Snp (upL fl_up dl_up ok_up)
def F (p : A_Frame) : Snp.A_Frame := (p.1, p.2.1, p.2.2.1, p.2.2.2.1, p.2.2.2.2.1, upL (fun x => x) p.2.2.2.2.2.1, upL (fun x => x) p.2.2.2.2.2.2)
def C (p : A_Cell) : Snp.A_Cell := (p.1, p.2.1, upL (fun x => x) p.2.2.1, upL F p.2.2.2)
def T (p : A_Thread) : Snp.A_Thread := (upL F p.1, p.2.1, p.2.2.1, p.2.2.2)
def S (p : A_State) : Snp.A_State := (upL C p.1, upL (fun x => x) p.2.1, upL (fun x => x) p.2.2.1, upL T p.2.2.2.1, upL (fun x => x) p.2.2.2.2.1, upL (fun x => x) p.2.2.2.2.2.1, p.2.2.2.2.2.2.1, p.2.2.2.2.2.2.2)
theorem eV (p : A_Val) : Snp.enc_Val p = enc_Val p := rfl
theorem eF (p : A_Frame) : Snp.enc_Frame (F p) = enc_Frame p := by
  show [_, _, _, _, _, _, Snp.dl (upL (fun x => x) p.2.2.2.2.2.1) Snp.enc_Val, Snp.dl (upL (fun x => x) p.2.2.2.2.2.2) Snp.enc_Try] = _
  rw [dl_up (e := Snp.enc_Val) (e' := enc_Val) (f := fun x => x) _ fun _ => rfl, dl_up (e := Snp.enc_Try) (e' := enc_Try) (f := fun x => x) _ fun _ => rfl]
  rfl
theorem eC (p : A_Cell) : Snp.enc_Cell (C p) = enc_Cell p := by
  show [_, _, Snp.dl (upL (fun x => x) p.2.2.1) Snp.enc_Val, Snp.dl (upL F p.2.2.2) Snp.enc_Frame] = _
  rw [dl_up (e := Snp.enc_Val) (e' := enc_Val) (f := fun x => x) _ fun _ => rfl, dl_up (e' := enc_Frame) _ eF]
  rfl
theorem eT (p : A_Thread) : Snp.enc_Thread (T p) = enc_Thread p := by
  show [Snp.dl (upL F p.1) Snp.enc_Frame, _, _, _, _] = _
  rw [dl_up (e' := enc_Frame) _ eF]
  rfl
theorem eS (p : A_State) : Snp.enc_State (S p) = enc_State p := by
  show [Snp.dl (upL C p.1) Snp.enc_Cell, Snp.dl (upL (fun x => x) p.2.1) Snp.enc_Shape, Snp.dl (upL (fun x => x) p.2.2.1) Snp.enc_str, Snp.dl (upL T p.2.2.2.1) Snp.enc_Thread, Snp.dl (upL (fun x => x) p.2.2.2.2.1) Snp.enc_End, Snp.dl (upL (fun x => x) p.2.2.2.2.2.1) Snp.enc_Val, _, _] = _
  rw [dl_up (e' := enc_Cell) _ eC, dl_up (e := Snp.enc_Shape) (e' := enc_Shape) (f := fun x => x) _ fun _ => rfl, dl_up (e := Snp.enc_str) (e' := fun z => [.v (.string z)]) (f := fun x => x) _ fun _ => rfl, dl_up (e' := enc_Thread) _ eT, dl_up (e := Snp.enc_End) (e' := enc_End) (f := fun x => x) _ fun _ => rfl, dl_up (e := Snp.enc_Val) (e' := enc_Val) (f := fun x => x) _ fun _ => rfl, flat_one]
  rfl
theorem oF (p : A_Frame) (h : ok_Frame p) : Snp.ok_Frame (F p) := ⟨ok_up h.2.2.2.2.2.1.1, ok_up h.2.2.2.2.2.2.1⟩
theorem oLF (l : A_LFrame) (h : ok_LFrame l) : Snp.ok_LFrame (upL F l) := ⟨ok_up h.1, fun x hx => by
  obtain ⟨y, hy, rfl⟩ := List.mem_map.mp hx
  exact oF y (h.2 y hy)⟩
theorem oS (p : A_State) (h : ok_State p) : Snp.ok_State (S p) := by
  obtain ⟨h1, h2, h3, h4, h5, h6, _, _⟩ := h
  refine ⟨⟨ok_up h1.1, fun x hx => ?_⟩, ok_up h2.1, ⟨ok_up h3.1, fun x hx => ?_⟩, ⟨ok_up h4.1, fun x hx => ?_⟩, ok_up h5.1, ok_up h6.1⟩
  · obtain ⟨y, hy, rfl⟩ := List.mem_map.mp hx
    have := h1.2 y hy
    exact ⟨ok_up this.2.2.1.1, oLF _ this.2.2.2⟩
  · obtain ⟨y, hy, rfl⟩ := List.mem_map.mp hx
    have := h3.2 y hy
    simp only [maxLen] at this
    omega
  · obtain ⟨y, hy, rfl⟩ := List.mem_map.mp hx
    exact oLF _ (h4.2 y hy).1
theorem bV (p : A_Val) : (Snp.fv p).length ≤ sz_Val p := by simp [Snp.fv, sz_Val]
theorem bVs (l : A_LVal) : (Snp.fl (upL (fun x => x) l) Snp.fv).length ≤ sz_LVal l := fl_up l bV
theorem bF (p : A_Frame) : (Snp.ff (F p)).length ≤ sz_Frame p := by
  have h2 := bVs p.2.2.2.2.2.1
  have h3 : (Snp.fl (upL (fun x => x) p.2.2.2.2.2.2) Snp.ft).length ≤ sz_LTry p.2.2.2.2.2.2 := fl_up _ fun x => by simp [Snp.ft, sz_Try]
  have e : Snp.ff (F p) = [p.1, p.2.1, p.2.2.1, p.2.2.2.1] ++ [p.2.2.2.2.1.1, p.2.2.2.2.1.2] ++ Snp.fl (upL (fun x => x) p.2.2.2.2.2.1) Snp.fv ++ Snp.fl (upL (fun x => x) p.2.2.2.2.2.2) Snp.ft := rfl
  rw [e]
  simp only [sz_Frame, sz_Val, List.length_append, List.length_cons, List.length_nil]; omega
theorem bFs (l : A_LFrame) : (Snp.fl (upL F l) Snp.ff).length ≤ sz_LFrame l := fl_up l bF
theorem bC (p : A_Cell) : (Snp.fc (C p)).length ≤ sz_Cell p := by
  have h1 := bVs p.2.2.1
  have h2 := bFs p.2.2.2
  have e : Snp.fc (C p) = [p.1, p.2.1] ++ Snp.fl (upL (fun x => x) p.2.2.1) Snp.fv ++ Snp.fl (upL F p.2.2.2) Snp.ff := rfl
  rw [e]
  simp only [sz_Cell, List.length_append, List.length_cons, List.length_nil]; omega
theorem bT (p : A_Thread) : (Snp.fth (T p)).length ≤ sz_Thread p := by
  have h1 := bFs p.1
  have e : Snp.fth (T p) = Snp.fl (upL F p.1) Snp.ff ++ [p.2.1, p.2.2.1] ++ [p.2.2.2.1, p.2.2.2.2] := rfl
  rw [e]
  simp only [sz_Thread, sz_Val, List.length_append, List.length_cons, List.length_nil]; omega
theorem bS (s : A_State) : (Snp.flat (S s)).length ≤ sz_State s := by
  have h1 : (Snp.fl (upL C s.1) Snp.fc).length ≤ sz_LCell s.1 := fl_up _ bC
  have h2 : (Snp.fl (upL (fun x => x) s.2.1) Snp.fsh).length ≤ sz_LShape s.2.1 := fl_up _ fun x => by simp [Snp.fsh, sz_Shape]
  have h3 : (Snp.fl (upL (fun x => x) s.2.2.1) Snp.ftx).length ≤ sz_Lstr s.2.2.1 := fl_up _ fun x => by simp [Snp.ftx]
  have h4 : (Snp.fl (upL T s.2.2.2.1) Snp.fth).length ≤ sz_LThread s.2.2.2.1 := fl_up _ bT
  have h5 : (Snp.fl (upL (fun x => x) s.2.2.2.2.1) Snp.fe).length ≤ sz_LEnd s.2.2.2.2.1 := fl_up _ fun x => by simp [Snp.fe, Snp.fv, sz_End, sz_Val]
  have h6 := bVs s.2.2.2.2.2.1
  have e : Snp.flat (S s) = Snp.fl (upL C s.1) Snp.fc ++ Snp.fl (upL (fun x => x) s.2.1) Snp.fsh ++ Snp.fl (upL (fun x => x) s.2.2.1) Snp.ftx ++ Snp.fl (upL T s.2.2.2.1) Snp.fth ++ Snp.fl (upL (fun x => x) s.2.2.2.2.1) Snp.fe ++ Snp.fl (upL (fun x => x) s.2.2.2.2.2.1) Snp.fv ++ [s.2.2.2.2.2.2.1, s.2.2.2.2.2.2.2] := rfl
  rw [e]
  simp only [sz_State, List.length_append, List.length_cons, List.length_nil]
  omega
end SnpUp

namespace Snp
/-! ### SameInts -/
theorem sameLoop {n1 n2 : Option Bool} {t1 t2 : Bool} {zs : List Int} (hz : zs.length < 2 ^ 62) : ∀ (k i : Nat), zs.length - i = k → i ≤ zs.length → L17_10 [V n1 t1 zs, V n2 t2 zs, I i] [] [] = some ([B true], []) := by
  intro k
  induction k with
  | zero =>
    intro i hk hi
    have : i = zs.length := by omega
    subst this
    rw [L17_10_eq]
    simp only [obs, oms, bin_add, bin_sub, bin_lss, bin_leq, bin_gtr, bin_geq, bin_eql, bin_neq, bin_eqlB, bin_neqB, un_not, cond_B, gd_B, gd_undef, gdH_B, gdH_undef, pickA_B, extractA_tup, lenA_sl, lenA_row, fldA_fp, fldA_ptr, fldA_rptr, List.getElem?_cons_zero, List.getElem?_cons_succ, decide_true, decide_false, if_true, if_false, Bool.true_eq_false, Bool.false_eq_true, Bool.not_true, Bool.not_false, leave0_B]
    rw [if_neg (by simp)]
  | succ k ih =>
    intro i hk hi
    have hi' : i < zs.length := by omega
    rw [L17_10_eq]
    simp only [obs, oms, bin_add, bin_sub, bin_lss, bin_leq, bin_gtr, bin_geq, bin_eql, bin_neq, bin_eqlB, bin_neqB, un_not, cond_B, gd_B, gd_undef, gdH_B, gdH_undef, pickA_B, extractA_tup, lenA_sl, lenA_row, fldA_fp, fldA_ptr, fldA_rptr, List.getElem?_cons_zero, List.getElem?_cons_succ, decide_true, decide_false, if_true, if_false, Bool.true_eq_false, Bool.false_eq_true, Bool.not_true, Bool.not_false]
    rw [if_pos (by simp <;> omega), idxV hi', obs, ldV hi', obs, idxV hi', obs, ldV hi']
    simp only [obs, oms, bin_add, bin_sub, bin_lss, bin_leq, bin_gtr, bin_geq, bin_eql, bin_neq, bin_eqlB, bin_neqB, un_not, cond_B, gd_B, gd_undef, gdH_B, gdH_undef, pickA_B, extractA_tup, lenA_sl, lenA_row, fldA_fp, fldA_ptr, fldA_rptr, List.getElem?_cons_zero, List.getElem?_cons_succ, decide_true, decide_false, if_true, if_false, Bool.true_eq_false, Bool.false_eq_true, Bool.not_true, Bool.not_false]
    rw [wrap_id (by omega), nxt]
    exact ih (i + 1) (by omega) (by omega)

def Pv (x : AV) (H : Heap) (zs : List Int) : Prop := ∃ nl tg b, pureArg H x = some (V nl tg zs, b)
theorem Pv.of {x : AV} {H : Heap} {zs : List Int} (h : Lst 1 x H zs.length (zs.map Ia)) : Pv x H zs := by
  obtain ⟨nl, tg, b, e⟩ := pureLst h
  exact ⟨nl, tg, b, e⟩
theorem Pv.v (nl : Option Bool) (tg : Bool) (zs : List Int) (H : Heap) : Pv (V nl tg zs) H zs := ⟨_, _, _, rfl⟩

theorem call17 {x y : AV} {H : Heap} {zs : List Int} (hz : zs.length < 2 ^ 62) (hx : Pv x H zs) (hy : Pv y H zs) (lo : List Nat) : callA cfg O 17 [x, y] lo H = some (B true, H) := by
  obtain ⟨n1, t1, b1, e1⟩ := hx
  obtain ⟨n2, t2, b2, e2⟩ := hy
  refine callA_rows (H' := []) (rs := [B true]) (ys := [V n1 t1 zs, V n2 t2 zs]) (b := b1 || (b2 || false)) rfl ?_ ?_ rfl rfl
  · simp only [pureArgs, e1, e2, obs, oms, Bool.or_false]
  · rw [f17_eq]
    simp only [obs, oms, bin_add, bin_sub, bin_lss, bin_leq, bin_gtr, bin_geq, bin_eql, bin_neq, bin_eqlB, bin_neqB, un_not, cond_B, gd_B, gd_undef, gdH_B, gdH_undef, pickA_B, extractA_tup, lenA_sl, lenA_row, fldA_fp, fldA_ptr, fldA_rptr, List.getElem?_cons_zero, List.getElem?_cons_succ, decide_true, decide_false, if_true, if_false, Bool.true_eq_false, Bool.false_eq_true, Bool.not_true, Bool.not_false]
    exact sameLoop hz _ 0 rfl (by omega)

theorem flat_zero : flat zero = [0, 0, 0, 0, 0, 0, 0, 0] := rfl
theorem flat_two (s : A_State) : 2 ≤ (flat s).length := by
  simp only [flat, fl, List.length_append, List.length_cons]; omega

theorem out_src {N : Nat} {o : AV} {H : Heap} {zs : List Int} (h : Out N o H zs) : SrcO o H zs ∧ AV.ltd H.length o = true := by
  obtain ⟨⟨hl, ⟨nl, rfl, _⟩ | ⟨id, g, rfl, ho⟩⟩, _⟩ := h
  · exact ⟨.inl ⟨_, _, rfl⟩, rfl⟩
  · refine ⟨.inr ⟨id, g, 0, zs.map Ia, rfl, ho, by simp, by rw [List.drop_zero, List.take_of_length_le (by simp)]⟩, ?_⟩
    have := getElem?_lt ho
    simp [AV.ltd, AV.lt, this]

theorem enc_leaf (s : A_State) : (((enc_State s).map AV.p).all AV.leaf) = true := by
  simp only [List.all_eq_true, List.mem_map]
  rintro _ ⟨x, _, rfl⟩
  rfl

theorem Out.kn {N K : Nat} {o : AV} {H H' : Heap} {zs : List Int} (h : Out N o H zs) (k : KN H.length H H') : Out N o H' zs := by
  obtain ⟨⟨hl, h1⟩, h2, h3, h4⟩ := h
  refine ⟨⟨hl, ?_⟩, h2, Nat.le_trans h3 k.1, h4⟩
  rcases h1 with ⟨nl, rfl, h1⟩ | ⟨id, g, rfl, ho⟩
  · exact .inl ⟨nl, rfl, h1⟩
  · exact .inr ⟨id, g, rfl, by rw [k.2 id (getElem?_lt ho)]; exact ho⟩

theorem box_kn {j : Nat} {H H' : Heap} {o : AObj} (h : H[j]? = some o) (k : KN H.length H H') : H'[j]? = some o := by rw [k.2 j (getElem?_lt h)]; exact h

/-- The end: what was answered is none's state. -/
theorem fin31 {H : Heap} {q : Nat} (h : H[q]? = some (.box ((enc_State zero).map .p))) : L11_31 [.ptr q 0, I 3] [] H = some ([B true], []) := by
  have l8 : ld true 8 (.ptr q 0) H = some (.agg ((enc_State zero).map .p)) := by
    rw [ldAgg_box (xs := (enc_State zero).map .p) h (by simp [len_State]) (by simp [len_State]), List.drop_zero, List.take_of_length_le (by simp [len_State])]
  obtain ⟨o1, H1, e1, O1, k1⟩ := call19 (s := zero) ok_zero (by rw [flat_zero]; simp [LIM]) H
  have bz : buildA [.p nilS, .p nilS, .p nilS, .p nilS, .p nilS, .p nilS, I 0, I 0] [] = some (.agg ((enc_State zero).map .p)) := rfl
  obtain ⟨o2, H2, e2, O2, k2⟩ := call19 (s := zero) ok_zero (by rw [flat_zero]; simp [LIM]) H1
  have O1' := Out.kn (K := 0) O1 k2
  have e3 := call17 (by rw [flat_zero]; simp) (Pv.of O1'.1) (Pv.of O2.1) []
  rw [L11_31_eq]
  simp only [obs, oms, bin_add, bin_sub, bin_lss, bin_leq, bin_gtr, bin_geq, bin_eql, bin_neq, bin_eqlB, bin_neqB, un_not, cond_B, gd_B, gd_undef, gdH_B, gdH_undef, pickA_B, extractA_tup, lenA_sl, lenA_row, fldA_fp, fldA_ptr, fldA_rptr, List.getElem?_cons_zero, List.getElem?_cons_succ, decide_true, decide_false, if_true, if_false, Bool.true_eq_false, Bool.false_eq_true, Bool.not_true, Bool.not_false, l8, e1, bz, e2, e3, leave0_B]

theorem bests_min (x y : Int) : bests false (I x) [I y] = some (I (min x y)) := by
  simp only [bests, best, if_true, Option.bind_some, Bool.false_eq_true, if_false]
  congr 2
  rw [Int.min_def]
  split <;> split <;> simp_all <;> omega

theorem law {nl : Option Bool} {tg : Bool} {l : List Int} {s : A_State} (hs : ok_State s) (hb : (flat s).length ≤ 1048576) (at' n : Int) : ∃ H', O.ent 11 [V nl tg l, .agg ((enc_State s).map .p), I at', I n] [] [] = some ([B true], H') := by
  refine ⟨[], ?_⟩
  have hrl : RLIM = 16777216 := rfl
  have hlim : LIM = 17592186044416 := rfl
  have z8 : ∀ H : Heap, boxO [] [.p nilS, .p nilS, .p nilS, .p nilS, .p nilS, .p nilS, I 0, I 0] H = some (.ptr H.length 0, H ++ [AObj.box Zs]) := fun H => boxO_p [nilS, nilS, nilS, nilS, nilS, nilS, Ia 0, Ia 0] H
  have b1 : boxO [] (AV.cells (.agg ((enc_State s).map .p))) [] = some (.ptr 0 0, [AObj.box ((enc_State s).map .p)]) := boxO_p _ []
  have l8 : ∀ {H : Heap} {q : Nat} (t : A_State), H[q]? = some (.box ((enc_State t).map .p)) → ld true 8 (.ptr q 0) H = some (.agg ((enc_State t).map .p)) := fun t h => by
    rw [ldAgg_box (xs := (enc_State t).map .p) h (by simp [len_State]) (by simp [len_State]), List.drop_zero, List.take_of_length_le (by simp [len_State])]
  have s8 : ∀ (H : Heap) (t : A_State), stA 8 (.ptr H.length 0) (.agg ((enc_State t).map .p)) [] (H ++ [AObj.box Zs]) = some (H ++ [AObj.box ((enc_State t).map .p)]) := fun H t => st_new (len_State t) rfl
  rw [f11_eq]
  simp only [b1, obs, oms, bin_add, bin_sub, bin_lss, bin_leq, bin_gtr, bin_geq, bin_eql, bin_neq, bin_eqlB, bin_neqB, un_not, cond_B, gd_B, gd_undef, gdH_B, gdH_undef, pickA_B, extractA_tup, lenA_sl, lenA_row, fldA_fp, fldA_ptr, fldA_rptr, List.getElem?_cons_zero, List.getElem?_cons_succ, decide_true, decide_false, if_true, if_false, Bool.true_eq_false, Bool.false_eq_true, Bool.not_true, Bool.not_false]
  have hcut : ∃ zs tg', zs.length ≤ 400 ∧ (bests false (I l.length) [I 400]).bind (fun x3 => cutA 1 (V nl tg l) none (some x3) none [AObj.box ((enc_State s).map .p)]) = some (V nl tg' zs) := by
    refine ⟨l.take 400, tg && decide (min (l.length : Int) 400 = l.length), by simp; omega, ?_⟩
    rw [bests_min, obs, cutA_hi (by omega)]
    have e5 : (min (l.length : Int) 400).toNat = min l.length 400 := by omega
    rw [e5, Nat.mul_one]
    unfold V
    rw [List.length_take, Nat.min_comm 400 l.length, List.map_take]
    congr 3
    rcases Nat.lt_or_ge l.length 400 with q | q
    · rw [Nat.min_eq_left (by omega), List.take_of_length_le (by simp), List.take_of_length_le (by simp; omega)]
    · rw [Nat.min_eq_right q]
  obtain ⟨zs, tg', hzl, hcut⟩ := hcut
  rw [← Option.bind_assoc, hcut]
  obtain ⟨x, e, e48, hcase, okx, _⟩ := call48 (x := V nl tg' zs) (H := [AObj.box ((enc_State s).map .p)]) (zs := zs) (.inl ⟨_, _, rfl⟩) rfl (by omega)
  have z1 := z8 [AObj.box ((enc_State s).map .p)]
  have s1 := s8 [AObj.box ((enc_State s).map .p)] x
  simp only [obs, e48, obs, oms, bin_add, bin_sub, bin_lss, bin_leq, bin_gtr, bin_geq, bin_eql, bin_neq, bin_eqlB, bin_neqB, un_not, cond_B, gd_B, gd_undef, gdH_B, gdH_undef, pickA_B, extractA_tup, lenA_sl, lenA_row, fldA_fp, fldA_ptr, fldA_rptr, List.getElem?_cons_zero, List.getElem?_cons_succ, decide_true, decide_false, if_true, if_false, Bool.true_eq_false, Bool.false_eq_true, Bool.not_true, Bool.not_false, z1]
  rw [show (AV.ptr ([AObj.box ((enc_State s).map .p)] : Heap).length 0) = .ptr 1 0 from rfl] at *
  simp only [s1, obs, oms, bin_add, bin_sub, bin_lss, bin_leq, bin_gtr, bin_geq, bin_eql, bin_neq, bin_eqlB, bin_neqB, un_not, cond_B, gd_B, gd_undef, gdH_B, gdH_undef, pickA_B, extractA_tup, lenA_sl, lenA_row, fldA_fp, fldA_ptr, fldA_rptr, List.getElem?_cons_zero, List.getElem?_cons_succ, decide_true, decide_false, if_true, if_false, Bool.true_eq_false, Bool.false_eq_true, Bool.not_true, Bool.not_false]
  generalize hH2 : [AObj.box ((enc_State s).map .p)] ++ [AObj.box ((enc_State x).map .p)] = H2
  have g0 : H2[0]? = some (.box ((enc_State s).map .p)) := by rw [← hH2]; rfl
  have g1 : H2[1]? = some (.box ((enc_State x).map .p)) := by rw [← hH2]; rfl
  rcases hcase with ⟨rfl, hz⟩ | ⟨rfl, rfl⟩
  · obtain ⟨o1, H3, e19, O1, k1⟩ := call19 okx (by rw [← hz]; omega) H2
    rw [← hz] at O1
    have e17 := call17 (by omega) (Pv.of O1.1) (Pv.v nl tg' zs H3) []
    simp only [obs, oms, bin_add, bin_sub, bin_lss, bin_leq, bin_gtr, bin_geq, bin_eql, bin_neq, bin_eqlB, bin_neqB, un_not, cond_B, gd_B, gd_undef, gdH_B, gdH_undef, pickA_B, extractA_tup, lenA_sl, lenA_row, fldA_fp, fldA_ptr, fldA_rptr, List.getElem?_cons_zero, List.getElem?_cons_succ, decide_true, decide_false, if_true, if_false, Bool.true_eq_false, Bool.false_eq_true, Bool.not_true, Bool.not_false, l8 x g1, e19, e17, leave0_B]
  · have hne : ¬ ((3 : Int) = 0) := by omega
    obtain ⟨m, H3, e19, Om, k1⟩ := call19 hs (by omega) H2
    obtain ⟨hsrc, hltd⟩ := out_src Om
    obtain ⟨y, f, e48b, hcb, oky, hcmp⟩ := call48 hsrc hltd (by omega)
    have hf0 := hcmp s rfl
    subst hf0
    have hy : flat s = flat y := by
      rcases hcb with ⟨_, h⟩ | ⟨h, _⟩
      · exact h
      · omega
    have z3 := z8 H3
    have s3 := s8 H3 y
    simp only [hne, obs, oms, bin_add, bin_sub, bin_lss, bin_leq, bin_gtr, bin_geq, bin_eql, bin_neq, bin_eqlB, bin_neqB, un_not, cond_B, gd_B, gd_undef, gdH_B, gdH_undef, pickA_B, extractA_tup, lenA_sl, lenA_row, fldA_fp, fldA_ptr, fldA_rptr, List.getElem?_cons_zero, List.getElem?_cons_succ, decide_true, decide_false, if_true, if_false, Bool.true_eq_false, Bool.false_eq_true, Bool.not_true, Bool.not_false, l8 s g0, e19, e48b, z3, s3]
    have k2 : KN H3.length H3 (H3 ++ [AObj.box ((enc_State y).map .p)]) := KN.push _ (Nat.le_refl _)
    have Om2 := Out.kn (K := 0) Om k2
    have gy : (H3 ++ [AObj.box ((enc_State y).map .p)])[H3.length]? = some (.box ((enc_State y).map .p)) := by simp
    have g1b := box_kn (box_kn g1 k1) k2
    have hH3 : H3.length = H3.length := rfl
    generalize H3 ++ [AObj.box ((enc_State y).map .p)] = H4 at *
    obtain ⟨o2, H5, e19b, O2, k3⟩ := call19 oky (by rw [← hy]; omega) H4
    rw [← hy] at O2
    have Om5 := Out.kn (K := 0) Om2 k3
    have g1c := box_kn g1b k3
    have gyc := box_kn gy k3
    have e17b := call17 (by omega) (Pv.of O2.1) (Pv.of Om5.1) []
    simp only [l8 y gy, obs, oms, bin_add, bin_sub, bin_lss, bin_leq, bin_gtr, bin_geq, bin_eql, bin_neq, bin_eqlB, bin_neqB, un_not, cond_B, gd_B, gd_undef, gdH_B, gdH_undef, pickA_B, extractA_tup, lenA_sl, lenA_row, fldA_fp, fldA_ptr, fldA_rptr, List.getElem?_cons_zero, List.getElem?_cons_succ, decide_true, decide_false, if_true, if_false, Bool.true_eq_false, Bool.false_eq_true, Bool.not_true, Bool.not_false, e19b, e17b]
    obtain ⟨id, g, rfl⟩ := Om5.2.2.2 (flat_two s)
    by_cases ha : 0 ≤ at'
    · simp only [ha, obs, oms, bin_add, bin_sub, bin_lss, bin_leq, bin_gtr, bin_geq, bin_eql, bin_neq, bin_eqlB, bin_neqB, un_not, cond_B, gd_B, gd_undef, gdH_B, gdH_undef, pickA_B, extractA_tup, lenA_sl, lenA_row, fldA_fp, fldA_ptr, fldA_rptr, List.getElem?_cons_zero, List.getElem?_cons_succ, decide_true, decide_false, if_true, if_false, Bool.true_eq_false, Bool.false_eq_true, Bool.not_true, Bool.not_false]
      by_cases ha2 : at' < ((flat s).length : Int)
      · simp only [ha2, obs, oms, bin_add, bin_sub, bin_lss, bin_leq, bin_gtr, bin_geq, bin_eql, bin_neq, bin_eqlB, bin_neqB, un_not, cond_B, gd_B, gd_undef, gdH_B, gdH_undef, pickA_B, extractA_tup, lenA_sl, lenA_row, fldA_fp, fldA_ptr, fldA_rptr, List.getElem?_cons_zero, List.getElem?_cons_succ, decide_true, decide_false, if_true, if_false, Bool.true_eq_false, Bool.false_eq_true, Bool.not_true, Bool.not_false]
        obtain ⟨k, rfl⟩ : ∃ k : Nat, at' = k := ⟨at'.toNat, by omega⟩
        have hrow := Om5.1.at
        have hix : idxA 1 (.row id g 0 (flat s).length) (I k) = some (.rptr id g k) := by rw [idxA_row (by omega)]; simp
        have hst := stA_row (x := Ia n) (off := k) (lo := []) hrow (by simp; omega)
        have hset : ((flat s).map Ia).set k (Ia n) = ((flat s).set k n).map Ia := by rw [List.map_set]
        rw [hset] at hst
        have hlen : ((flat s).set k n).length = (flat s).length := List.length_set ..
        have hlt := getElem?_lt hrow
        have Om6 : Out H2.length (.row id g 0 ((flat s).set k n).length) (H5.set id (.row g 1 (((flat s).set k n).map Ia))) ((flat s).set k n) := by
          refine ⟨Lst.row (by simp) (List.getElem?_set_self hlt), fun i' g' off' n' e => ?_, by rw [List.length_set]; exact Om5.2.2.1, fun _ => ⟨_, _, rfl⟩⟩
          cases e
          exact Om5.2.1 _ _ _ _ rfl
        have hgen : ∀ (j : Nat) (xs : List AV), H5[j]? = some (.box xs) → (H5.set id (.row g 1 (((flat s).set k n).map Ia)))[j]? = some (.box xs) := fun j xs h => by
          rw [List.getElem?_set_ne fun e => by rw [e, h] at hrow; cases hrow]; exact h
        have g1d := hgen _ _ g1c
        have gyd := hgen _ _ gyc
        generalize H5.set id (.row g 1 (((flat s).set k n).map Ia)) = H6 at *
        obtain ⟨hsrc6, hltd6⟩ := out_src Om6
        obtain ⟨y2, f2, e48c, hcc, oky2, _⟩ := call48 hsrc6 hltd6 (by rw [hlen]; omega)
        rw [hlen] at e48c
        have hst2 : stA 8 (.ptr H3.length 0) (.agg ((enc_State y2).map .p)) [] H6 = some (H6.set H3.length (.box ((enc_State y2).map .p))) := by
          have := stA_box (n := 8) (off := 0) (y := .agg ((enc_State y2).map .p)) (lo := []) gyd (by simp [AV.cells, len_State]) (by simp [len_State]) (enc_leaf y2) rfl (by simp [len_State])
          rw [splice_all (by simp [AV.cells, len_State])] at this
          exact this
        have Om7 : Lst 1 (.row id g 0 ((flat s).set k n).length) (H6.set H3.length (.box ((enc_State y2).map .p))) ((flat s).set k n).length (((flat s).set k n).map Ia) := lst_set Om6.1 gyd
        have gy7 : (H6.set H3.length (.box ((enc_State y2).map .p)))[H3.length]? = some (.box ((enc_State y2).map .p)) := List.getElem?_set_self (getElem?_lt gyd)
        have g17 : (H6.set H3.length (.box ((enc_State y2).map .p)))[1]? = some (.box ((enc_State zero).map .p)) := by
          have hk1 := k1.1
          have : H2.length = 2 := by rw [← hH2]; rfl
          rw [List.getElem?_set_ne (by omega)]; exact g1d
        generalize H6.set H3.length (.box ((enc_State y2).map .p)) = H7 at *
        simp only [hix, hst, obs, oms, bin_add, bin_sub, bin_lss, bin_leq, bin_gtr, bin_geq, bin_eql, bin_neq, bin_eqlB, bin_neqB, un_not, cond_B, gd_B, gd_undef, gdH_B, gdH_undef, pickA_B, extractA_tup, lenA_sl, lenA_row, fldA_fp, fldA_ptr, fldA_rptr, List.getElem?_cons_zero, List.getElem?_cons_succ, decide_true, decide_false, if_true, if_false, Bool.true_eq_false, Bool.false_eq_true, Bool.not_true, Bool.not_false, e48c, hst2]
        rcases hcc with ⟨rfl, h2⟩ | ⟨rfl, rfl⟩
        · obtain ⟨o3, H8, e19d, O3, k8⟩ := call19 oky2 (by rw [← h2, hlen]; omega) H7
          rw [← h2] at O3
          have Om8 : Lst 1 (.row id g 0 ((flat s).set k n).length) H8 ((flat s).set k n).length (((flat s).set k n).map Ia) := by
            obtain ⟨_, ⟨nl', e, _⟩ | ⟨id', g', e, ho⟩⟩ := Om7
            · cases e
            · cases e
              exact Lst.row (by simp) (box_kn ho k8)
          have e17d := call17 (by rw [hlen]; omega) (Pv.of O3.1) (Pv.of Om8) []
          rw [hlen] at e17d
          have g18 := box_kn g17 k8
          simp only [l8 y2 gy7, obs, oms, bin_add, bin_sub, bin_lss, bin_leq, bin_gtr, bin_geq, bin_eql, bin_neq, bin_eqlB, bin_neqB, un_not, cond_B, gd_B, gd_undef, gdH_B, gdH_undef, pickA_B, extractA_tup, lenA_sl, lenA_row, fldA_fp, fldA_ptr, fldA_rptr, List.getElem?_cons_zero, List.getElem?_cons_succ, decide_true, decide_false, if_true, if_false, Bool.true_eq_false, Bool.false_eq_true, Bool.not_true, Bool.not_false, e19d, e17d]
          exact fin31 g18
        · simp only [hne, obs, oms, bin_add, bin_sub, bin_lss, bin_leq, bin_gtr, bin_geq, bin_eql, bin_neq, bin_eqlB, bin_neqB, un_not, cond_B, gd_B, gd_undef, gdH_B, gdH_undef, pickA_B, extractA_tup, lenA_sl, lenA_row, fldA_fp, fldA_ptr, fldA_rptr, List.getElem?_cons_zero, List.getElem?_cons_succ, decide_true, decide_false, if_true, if_false, Bool.true_eq_false, Bool.false_eq_true, Bool.not_true, Bool.not_false]
          exact fin31 g17
      · simp only [ha2, obs, oms, bin_add, bin_sub, bin_lss, bin_leq, bin_gtr, bin_geq, bin_eql, bin_neq, bin_eqlB, bin_neqB, un_not, cond_B, gd_B, gd_undef, gdH_B, gdH_undef, pickA_B, extractA_tup, lenA_sl, lenA_row, fldA_fp, fldA_ptr, fldA_rptr, List.getElem?_cons_zero, List.getElem?_cons_succ, decide_true, decide_false, if_true, if_false, Bool.true_eq_false, Bool.false_eq_true, Bool.not_true, Bool.not_false]
        exact fin31 g1c
    · simp only [ha, obs, oms, bin_add, bin_sub, bin_lss, bin_leq, bin_gtr, bin_geq, bin_eql, bin_neq, bin_eqlB, bin_neqB, un_not, cond_B, gd_B, gd_undef, gdH_B, gdH_undef, pickA_B, extractA_tup, lenA_sl, lenA_row, fldA_fp, fldA_ptr, fldA_rptr, List.getElem?_cons_zero, List.getElem?_cons_succ, decide_true, decide_false, if_true, if_false, Bool.true_eq_false, Bool.false_eq_true, Bool.not_true, Bool.not_false]
      exact fin31 g1c
end Snp
end Go.Proofs.Ytangmjeafnkfaaa
