import Derived.Test.YtnjfpnoamgipjaaDoorKnF
import Derived.Test.YtnjfpnoamgipjaaDoorECseDoes
import Derived.Test.YtnjfpnoamgipjaaDoorKnD
import Derived.Test.YtnjfpnoamgipjaaDoorEFactsDoes
set_option linter.unusedVariables false
set_option linter.unusedSimpArgs false
set_option linter.unusedSectionVars false
set_option maxRecDepth 100000
namespace Go.Proofs.YtnjfpnoamgipjaaDoor
open Go Go.AM
namespace Ir
abbrev Key := Int × Int × Int × Int × Bool × Int × Int
instance keyDec:DecidableEq Key := @instDecidableEqProd _ _ _ (@instDecidableEqProd _ _ _ (@instDecidableEqProd _ _ _ (@instDecidableEqProd _ _ _ (@instDecidableEqProd _ _ _ (@instDecidableEqProd _ _ _ _)))))
def kE (k:Key):List PV := [Ia k.1,Ia k.2.1,Ia k.2.2.1,Ia k.2.2.2.1,.v (.bool k.2.2.2.2.1),Ia k.2.2.2.2.2.1,Ia k.2.2.2.2.2.2]
def com (n:Int):Prop := n = 3 ∨ n = 5 ∨ n = 8
instance (n:Int):Decidable (com n) := by unfold com; infer_instance
def fi (ks:List (Option Key))(q:Key):Option Nat := ks.findIdx? fun o => decide (o = some q)
section
variable {ins:List A_TIns}{L:Int}
end
end Ir
end Go.Proofs.YtnjfpnoamgipjaaDoor
set_option linter.unusedVariables false
set_option linter.unusedSimpArgs false
set_option linter.unusedSectionVars false
set_option maxRecDepth 100000
namespace Go.Proofs.YtnjfpnoamgipjaaDoor
open Go Go.AM
namespace Ir
abbrev z7:List PV := [Ia 0,Ia 0,Ia 0,Ia 0,.v (.bool false),Ia 0,Ia 0]
def k0:Key := (0,0,0,0,false,0,0)
theorem st7 (k:Key)(lo:List Nat)(H:Heap):stA 7 (.ptr H.length 0) (aG (kE k)) lo (H ++ [.box (z7.map .p)]) = some (H ++ [.box ((kE k).map .p)]) := stA_new rfl rfl (by decide)
end Ir
end Go.Proofs.YtnjfpnoamgipjaaDoor
set_option linter.unusedVariables false
set_option linter.unusedSimpArgs false
set_option linter.unusedSectionVars false
set_option maxRecDepth 100000
namespace Go.Proofs.YtnjfpnoamgipjaaDoor
open Go Go.AM
namespace Ir
def Asks (ins:List A_TIns):Prop := ∀ (i:Nat) x,ins[i]? = some x → ∀ j,j < (vals x.1).toNat → 0 ≤ argI x j ∧ argI x j < i
variable {t:TrD}
theorem Cx.setAt {H:Heap}{fx:List (Nat × AObj)}{ls:List Ll}{id g n:Nat}{to:List Int}(h:Cx H fx ((.row id g 0 n,1,n,to.map Ia) :: ls))(hn:to.length = n){j:Nat}(hj:j < n)(v:Int)(lo:List Nat) :
    ∃ H',stA 1 (.rptr id g j) (I v) lo H = some H' ∧ Cx H' fx ((.row id g 0 n,1,n,(to.set j v).map Ia) :: ls) ∧ H'.length = H.length := by
  have ho := (h.hd).at
  refine ⟨H.set id (.row g 1 ((to.map Ia).set j (Ia v))),stA_row ho (by simp [hn,hj]),?_,by simp⟩
  rw [← List.map_set]
  exact h.setRow [] (by simp)
end Ir
end Go.Proofs.YtnjfpnoamgipjaaDoor
set_option linter.unusedVariables false
set_option linter.unusedSimpArgs false
set_option linter.unusedSectionVars false
set_option maxRecDepth 100000
namespace Go.Proofs.YtnjfpnoamgipjaaDoor
open Go Go.AM
namespace Ir
def idL (i:Nat):List Int := (List.range i).map fun j:Nat => (j:Int)
theorem idL_succ (i:Nat):idL (i + 1) = idL i ++ [(i:Int)] := by simp [idL,List.range_succ]
theorem L65 {n:Nat}(hn:n < 2 ^ 30){fx:List (Nat × AObj)}:∀ (c i:Nat)(H:Heap)(th:AV),n - i = c → i ≤ n → Cx H fx [(th,1,i,(idL i).map Ia)] → Can th i →
    ∃ H' th',L65_8 [th,I n,I i] [] H = some ([th'],H') ∧ Cx H' fx [(th',1,n,(idL n).map Ia)] ∧ Can th' n := by
  intro c
  induction c with
  | zero =>
    intro i H th hc hi hC hcan
    have:i = n := by omega
    subst this
    refine ⟨H,th,?_,hC,hcan⟩
    rw [L65_8_eq]
    simp only [Int.lt_irrefl,core]
    rfl
  | succ c ih =>
    intro i H th hc hi hC hcan
    have hlt:(i:Int) < n := by omega
    obtain ⟨o',H1,e,hC1,id,g,rfl⟩ := hC.app (bytes := 8) (y := .p (.sl (some false) true 1 [Ia i])) (k := 1) (new := [Ia i]) [] rfl rfl (by decide) (by unfold room; omega)
    have w := wrapN (show i < 2 ^ 63 - 1 by omega)
    obtain ⟨H',th',k1,k2,k3⟩ := ih (i + 1) H1 (.row id g 0 (i + 1)) (by omega) (by omega) (by rw [idL_succ,List.map_append]; exact hC1) (Can.row (by omega))
    refine ⟨H',th',?_,k2,k3⟩
    rw [← k1,L65_8_eq]
    simp only [hlt,lit1,e,w,core]
variable {t:TrD}
section
variable (ht:t.Sm) (hA:Asks t.ins)
include ht hA
end
end Ir
end Go.Proofs.YtnjfpnoamgipjaaDoor
set_option linter.unusedVariables false
set_option linter.unusedSimpArgs false
set_option linter.unusedSectionVars false
set_option maxRecDepth 100000
namespace Go.Proofs.YtnjfpnoamgipjaaDoor
open Go Go.AM
namespace Ir
structure VdX (n:Nat)(x:ExD):Prop where
  sets:∀ s ∈ x.sets,0 ≤ s.2 ∧ s.2 < n
  cells:∀ m ∈ x.makes,0 ≤ m.cell ∧ m.cell < n
  vals:∀ m ∈ x.makes,∀ v ∈ m.vals,0 ≤ v ∧ v < n
structure May2 (t:A_TTrace):Prop extends May t where
  asks:Asks (trD t).ins
  exits:∀ x ∈ (trD t).exits,VdX (trD t).ins.length x
  turn:VdX (trD t).ins.length (trD t).turn
  back:VdX (trD t).ins.length (trD t).back
theorem setsR_vals {ins:List A_TIns}{regs at':Int}:∀ (l:List A_TSet)(q:Option Int),setsR ins regs at' q l = true → ∀ s ∈ l,0 ≤ s.2 ∧ s.2 < ins.length
  | [],_,_,s,hs => by cases hs
  | s0 :: r,q,h,s,hs => by
    simp only [setsR,set1,Bool.and_eq_true] at h
    rcases List.mem_cons.mp hs with e | e
    · subst e; exact valR_idx h.1.1.2
    · exact setsR_vals r _ h.2 s e
theorem makesR_all {ins:List A_TIns}{at':Int}:∀ (l:List A_TMake)(q:Option Int),makesR ins at' q l = true → ∀ m ∈ l,(0 ≤ m.1 ∧ m.1 < ins.length) ∧ ∀ v ∈ m.2.2.2.2,0 ≤ v ∧ v < ins.length
  | [],_,_,m,hm => by cases hm
  | m0 :: r,q,h,m,hm => by
    simp only [makesR,make1,Bool.and_eq_true,List.all_eq_true] at h
    rcases List.mem_cons.mp hm with e | e
    · subst e; exact ⟨valR_idx h.1.1.1.1.1.1.1.1,fun v hv => valR_idx (h.1.2 v hv)⟩
    · exact makesR_all r _ h.2 m e
theorem exitR_vd {ins:List A_TIns}{regs clen at':Int}{x:A_TExit}(h:exitR ins regs clen at' x = true):VdX ins.length (exD x) := by
  simp only [exitR,Bool.and_eq_true] at h
  obtain ⟨⟨_,hs⟩,hm⟩ := h
  refine ⟨setsR_vals _ _ hs,fun m hm' => ?_,fun m hm' => ?_⟩
  · obtain ⟨m0,h0,rfl⟩ := List.mem_map.mp hm'
    exact (makesR_all _ _ hm m0 h0).1
  · obtain ⟨m0,h0,rfl⟩ := List.mem_map.mp hm'
    exact (makesR_all _ _ hm m0 h0).2
theorem noExit_vd {x:A_TExit}{n:Nat}(h:noExit x = true):VdX n (exD x) := by
  simp only [noExit,Bool.and_eq_true,decide_eq_true_eq] at h
  have h1:(exD x).sets = [] := List.length_eq_zero_iff.mp h.1.2
  have h2:(exD x).makes = [] := by
    rw [show (exD x).makes = x.2.2.2.2.map mkD from rfl,List.length_eq_zero_iff.mp h.2]; rfl
  exact ⟨fun s hs => (by rw [h1] at hs; cases hs),fun m hm => (by rw [h2] at hm; cases hm),fun m hm => (by rw [h2] at hm; cases hm)⟩
theorem may2_of {p:A_Prog}{t:A_TTrace}(h:chkR p t = 0)(hr:∀ g ∈ p.1.2,g.2.1 ≤ 60):May2 t := by
  refine { may_of h hr with asks := ?_,exits := ?_,turn := ?_,back := ?_ }
  all_goals
    unfold chkR at h
    split at h
    · cases h
    split at h
    · cases h
    split at h
    · cases h
    obtain ⟨he,hform⟩ := insE_form _ _ h
    unfold endE at he
    split at he
    case isFalse => cases he
    rename_i hE
    simp only [Bool.and_eq_true,List.all_eq_true] at hE
    obtain ⟨⟨⟨_,hb⟩,ht⟩,hx⟩ := hE
  · intro i x hx' j hj
    have := formR_ask (hform i x hx') hj
    simp only [valR,Bool.and_eq_true,decide_eq_true_eq] at this
    have h2 := this.1.1.2
    exact ⟨this.1.1.1,by omega⟩
  · intro x hx'
    obtain ⟨x0,h0,rfl⟩ := List.mem_map.mp hx'
    exact exitR_vd (hx x0 h0)
  · unfold turnOk at ht
    split at ht
    · rw [Bool.and_eq_true] at ht
      exact exitR_vd ht.2
    · exact noExit_vd ht
  · exact exitR_vd hb
theorem box13' (c:TrC)(o0 o1:AObj):stA 13 (.ptr 2 0) (aG (eTc c)) [] [o0,o1,.box (z13.map .p)] = some [o0,o1,.box ((eTc c).map .p)] := st13 c [] [o0,o1]
theorem lvC (c:TrC)(e:Int)(H:Heap):leave 0 [] [aG (eTc c),I e] H = some ([aG (eTc c),I e],[]) := leave0_ag (frz_agg _ H)
section
variable {p:A_Prog}{t:A_TTrace}
abbrev T (t:A_TTrace):TrD := trD t
theorem trV_eq (t:A_TTrace):trV t = aG (eTr (T t)) := by rw [eTr_trD]
theorem call30 (hp:POk2 p)(ht:TOk t){e:Int}(he:∀ lo H,callA cfg O 19 [pgV p,trV t] lo H = some (I e,H)){g:FuncId}(hg:cfg.mode g = 0){c:TrC}(hz:e ≠ 0 → c = zeroC)(hc:(kT c).Sm)
    (hf:e = 0 → O.ent g [trV t] [] [] = some ([aG (eTc c)],[])) (lo:List Nat) (H:Heap):callA cfg O 30 [pgV p,trV t,aG (eTc c),I e,.fn g [] []] lo H = some (B true,H) := by
  have hcs:∀ H,callA cfg O 26 [aG (eTc c),aG (eTc c)] [] H = some (B true,H) := call26s (a := kT c) (b := kT c) rfl hc []
  have x3:∀ l:List AObj,ld true 3 (.ptr 0 0) (.box ((enc_Prog p).map .p) :: l) = some (pgV p) := fun l => by rw [ldAgg_box (H := _ :: l) rfl (by simp [len_Prog3]) (by simp [len_Prog3])]; rfl
  have x5:∀ (o0:AObj) (l:List AObj),ld true 13 (.ptr 1 0) (o0 :: .box ((enc_TTrace t).map .p) :: l) = some (trV t) := fun o0 l => ldT13 rfl
  have b3:boxO [] (AV.cells (aG (eTc c))) [.box ((enc_Prog p).map .p),.box ((enc_TTrace t).map .p)] = some (.ptr 2 0,[.box ((enc_Prog p).map .p),.box ((enc_TTrace t).map .p),.box ((eTc c).map .p)]) := boxAgg _ [_,_]
  have l3:∀ (o0 o1:AObj),ld true 13 (.ptr 2 0) [o0,o1,.box ((eTc c).map .p)] = some (aG (eTc c)) := fun o0 o1 => ldA (by rw [eTc]; rfl) (by decide) [o0,o1]
  have bu:buildA [(I 0),(I 0),(I 0),(.p nilS),(.p nilS),(I 0),(I 0),(.p nilS),(.p nilS),(I 0),(I 0),(.p nilS),(.p nilS)] [] = some (aG (eTc zeroC)) := rfl
  refine callA_args (H' := []) (rs := [B true]) rfl (pureArgsC (pureAgg _ _) (pureArgsC (pureAgg _ _) (pureArgsC (pureAgg _ _) (pureArgsC (pureP _ _) (pureArgs1 rfl))))) ?_ rfl
  rw [f30_eq]
  by_cases h0:e = 0
  · have cg:∀ H,callC cfg O (some .same) (.fn g [] []) [trV t] [] H = some (aG (eTc c),H) := by
      intro H
      have hcl:closV cfg (some .same) (.fn g [] []) = true := by simp only [closV,hg]; rfl
      refine (callC_10 hcl).trans ?_
      exact callA_args (rs := [aG (eTc c)]) hg (pureArgs1 (pureAgg _ _)) (hf h0) (by rw [eTc_eq]; rfl)
    simp only [boxAgg0,box12,b3,x3,x5,he,decide_eq_true h0,call18,l3,cg,hcs,decide_true,leave0_B,core]
  · have := hz h0
    subst this
    simp only [boxAgg0,box12,b3,x3,x5,he,decide_eq_false h0,call18,l3,bu,hcs,decide_true,leave0_B,core]
end
end Ir
end Go.Proofs.YtnjfpnoamgipjaaDoor
set_option linter.unusedVariables false
set_option linter.unusedSimpArgs false
set_option linter.unusedSectionVars false
set_option maxRecDepth 100000
namespace Go.Proofs.YtnjfpnoamgipjaaDoor
open Go Go.AM
namespace Ir
def sg (x y:A_TIns):Bool := if y.1 = x.1 then (if y.2.1 = x.2.1 then (if y.2.2.1 = x.2.2.1 then (if y.2.2.2.2.1 = x.2.2.2.2.1 then (y.2.2.2.2.2.2.1 == x.2.2.2.2.2.2.1 && (y.2.2.2.2.2.2.2 == x.2.2.2.2.2.2.2 && true)) else false) else false) else false) else false
def tw (ins:List A_TIns)(i:Nat)(x:A_TIns):Bool := (ins.take i).any (sg x)
def trF (kd n:Int)(b:Bool):Bool := if kd = 0 then (if n = 0 then true else b) else if 2 ≤ kd ∧ kd ≤ 6 then (if n = 1 then true else b) else b
def shv (x:A_TIns)(k:Nat)(y:A_TIns):Option Bool :=
  if y.1 = 9 ∧ y.2.1 = x.2.1 ∧ y.2.2.2.2.1 = 1 then some (decide (y.2.2.1 = x.2.2.1))
  else if y.1 = 16 ∧ (k:Int) = x.2.1 ∧ y.2.2.2.2.1 = 1 then some (decide (x.2.2.1 = 0))
  else if y.1 = 12 then some (decide (y.2.1 = x.2.1) && decide (y.2.2.2.2.1 = x.2.2.1)) else none
def lastV (ins:List A_TIns)(x:A_TIns)(fr:Nat):Nat → Bool
  | 0 => false
  | k + 1 => if k < fr then false else match ins[k]? with | some y => (match shv x k y with | some b => b | none => lastV ins x fr k) | none => lastV ins x fr k
def grows (ins:List A_TIns)(L:Nat):Bool := (ins.drop L).any fun y => decide (y.1 = 12)
def frm (ins:List A_TIns)(L i:Nat):Nat := if L ≤ i ∧ grows ins L = true then L else 0
def sd (ins:List A_TIns)(L:Nat)(kd:Int)(i:Nat)(x:A_TIns):Bool :=
  if x.1 = 4 then decide (kd = x.2.2.2.2.1)
  else if x.1 = 5 then trF kd x.2.2.2.2.1 (tw ins i x)
  else if x.1 = 6 ∨ x.1 = 19 then tw ins i x
  else if x.1 = 9 then (if x.2.2.2.2.1 = 1 then lastV ins x (frm ins L i) i else tw ins i x || (match ins[x.2.1.toNat]? with | some y => decide (y.1 = 16) && decide (y.2.2.2.2.1 = x.2.2.2.2.1) | none => false))
  else false
theorem lastV_low {ins:List A_TIns}{x:A_TIns}{fr:Nat}:∀ k,k ≤ fr → lastV ins x fr k = false
  | 0,_ => rfl
  | k + 1,h => by rw [lastV,if_pos (by omega)]
theorem leave3_q (x:PV)(lo:List Nat)(H:Heap):leave 3 (H.length :: lo) [.p x] H = some ([.p x],H) := by
  have := leave3_pp x lo H []
  rwa [List.append_nil] at this
theorem eK2 (a b c d:Int):bin .eql (.agg 2 [(0,.int),(1,.int)]) (.agg [I a,I b]) (.agg [I c,I d]) = some (B (a == c && (b == d && true))) := rfl
theorem ldK {H:Heap}{id:Nat}{x:A_TIns}(h:H[id]? = some (.box ((enc_TIns x).map .p))):ld true 2 (.ptr id 6) H = some (.agg [I x.2.2.2.2.2.2.1,I x.2.2.2.2.2.2.2]) := by
  rw [ldAgg_box h (by simp [len_TIns8]) (by simp [len_TIns8])]; rfl
theorem call149 {H:Heap}{xid:Nat}{x:A_TIns}(hb:H[xid]? = some (.box ((enc_TIns x).map .p)))(y:A_TIns)(lo:List Nat):callA cfg O 149 [tiV y,.ptr xid 0] lo H = some (B (sg x y),H) := by
  refine callA_same (rs := [B (sg x y)]) rfl ?_
  have r1 := boxAgg (enc_TIns y) H
  have hy:(H ++ [AObj.box ((enc_TIns y).map .p)])[H.length]? = some (.box ((enc_TIns y).map .p)) := by simp
  have hx:(H ++ [AObj.box ((enc_TIns y).map .p)])[xid]? = some (.box ((enc_TIns x).map .p)) := push_get? hb _
  have gy := fun j => ldBx hy 1 j
  have gx := fun j => ldBx hx 1 j
  have ky := ldK hy
  have kx := ldK hx
  have lv := fun b:Bool => leave3_pp (.v (.bool b)) lo H [.box ((enc_TIns y).map .p)]
  rw [f149_eq,sg]
  by_cases c1:y.1 = x.1
  case neg => rw [if_neg c1]; simp only [r1,gy,gx,ti0,fldA_ptr,Nat.zero_add,decide_eq_false c1,lv,core]
  rw [if_pos c1]
  by_cases c2:y.2.1 = x.2.1
  case neg => rw [if_neg c2]; simp only [r1,gy,gx,ti0,ti1,fldA_ptr,Nat.zero_add,decide_eq_true c1,decide_eq_false c2,lv,core]
  rw [if_pos c2]
  by_cases c3:y.2.2.1 = x.2.2.1
  case neg => rw [if_neg c3]; simp only [r1,gy,gx,ti0,ti1,ti2,fldA_ptr,Nat.zero_add,decide_eq_true c1,decide_eq_true c2,decide_eq_false c3,lv,core]
  rw [if_pos c3]
  by_cases c4:y.2.2.2.2.1 = x.2.2.2.2.1
  case neg => rw [if_neg c4]; simp only [r1,gy,gx,ti0,ti1,ti2,ti4,fldA_ptr,Nat.zero_add,decide_eq_true c1,decide_eq_true c2,decide_eq_true c3,decide_eq_false c4,lv,core]
  rw [if_pos c4]
  simp only [r1,gy,gx,ti0,ti1,ti2,ti4,fldA_ptr,Nat.zero_add,decide_eq_true c1,decide_eq_true c2,decide_eq_true c3,decide_eq_true c4,ky,kx,eK2,lv,core]
theorem call118 {H:Heap}{xid:Nat}{x:A_TIns}(hb:H[xid]? = some (.box ((enc_TIns x).map .p)))(k:Int)(y:A_TIns)(lo:List Nat):callA cfg O 118 [I k,tiV y,.ptr xid 0] lo H = some (B (sg x y),H) := by
  refine callA_same (rs := [B (sg x y)]) rfl ?_
  have r1 := boxAgg (enc_TIns y) H
  have hy:(H ++ [AObj.box ((enc_TIns y).map .p)])[H.length]? = some (.box ((enc_TIns y).map .p)) := by simp
  have hx:(H ++ [AObj.box ((enc_TIns y).map .p)])[xid]? = some (.box ((enc_TIns x).map .p)) := push_get? hb _
  have gy := fun j => ldBx hy 1 j
  have gx := fun j => ldBx hx 1 j
  have ky := ldK hy
  have kx := ldK hx
  have lv := fun b:Bool => leave3_pp (.v (.bool b)) lo H [.box ((enc_TIns y).map .p)]
  rw [f118_eq,sg]
  by_cases c1:y.1 = x.1
  case neg => rw [if_neg c1]; simp only [r1,gy,gx,ti0,fldA_ptr,Nat.zero_add,decide_eq_false c1,lv,core]
  rw [if_pos c1]
  by_cases c2:y.2.1 = x.2.1
  case neg => rw [if_neg c2]; simp only [r1,gy,gx,ti0,ti1,fldA_ptr,Nat.zero_add,decide_eq_true c1,decide_eq_false c2,lv,core]
  rw [if_pos c2]
  by_cases c3:y.2.2.1 = x.2.2.1
  case neg => rw [if_neg c3]; simp only [r1,gy,gx,ti0,ti1,ti2,fldA_ptr,Nat.zero_add,decide_eq_true c1,decide_eq_true c2,decide_eq_false c3,lv,core]
  rw [if_pos c3]
  by_cases c4:y.2.2.2.2.1 = x.2.2.2.2.1
  case neg => rw [if_neg c4]; simp only [r1,gy,gx,ti0,ti1,ti2,ti4,fldA_ptr,Nat.zero_add,decide_eq_true c1,decide_eq_true c2,decide_eq_true c3,decide_eq_false c4,lv,core]
  rw [if_pos c4]
  simp only [r1,gy,gx,ti0,ti1,ti2,ti4,fldA_ptr,Nat.zero_add,decide_eq_true c1,decide_eq_true c2,decide_eq_true c3,decide_eq_true c4,ky,kx,eK2,lv,core]
theorem call168 (y:A_TIns)(lo:List Nat)(H:Heap):callA cfg O 168 [tiV y] lo H = some (B (decide (y.1 = 12)),H) := by
  refine callA_same (rs := [B _]) rfl ?_
  have r1 := boxAgg (enc_TIns y) H
  have hy:(H ++ [AObj.box ((enc_TIns y).map .p)])[H.length]? = some (.box ((enc_TIns y).map .p)) := by simp
  have gy := fun j => ldBx hy 1 j
  have lv := fun b:Bool => leave3_pp (.v (.bool b)) lo H [.box ((enc_TIns y).map .p)]
  rw [f168_eq]
  simp only [r1,gy,ti0,fldA_ptr,Nat.zero_add,lv,core]
theorem L167 {f:A_TIns → Bool}{cl:AV}{l:List A_TIns}(hl:l.length < 2 ^ 63){H:Heap}(hcl:∀ y lo,callV cfg O cl [tiV y] lo H = some (B (f y),H)){nl:Option Bool}{tg:Bool}{lo:List Nat}:∀ (c i:Nat),l.length - i = c → i ≤ l.length →
    ∃ r:Int,(0 ≤ r ↔ (l.drop i).any f = true) ∧ L167_6 [Rw enc_TIns nl tg l,cl,I l.length,I i] (H.length :: lo) H = some ([I r],H) := by
  intro c
  induction c with
  | zero =>
    intro i hc hi
    have:i = l.length := by omega
    subst this
    refine ⟨-1,by simp,?_⟩
    rw [L167_6_eq]
    simp only [Int.lt_irrefl,core]
    exact leave3_q (Ia (-1)) lo H
  | succ c ih =>
    intro i hc hi
    have h:i < l.length := by omega
    have hlt:(i:Int) < l.length := by omega
    have x2 := idxR (enc := enc_TIns) (k := 8) (nl := nl) (tg := tg) h
    have x3:ld true 8 (.fp (l.flatMap enc_TIns) (i * 8)) H = some (tiV l[i]) := ldR len_TIns8 h H
    have w := wrapN (show i < 2 ^ 63 - 1 by omega)
    cases hf:f l[i] with
    | true =>
      refine ⟨i,⟨fun _ => ?_,fun _ => by omega⟩,?_⟩
      · rw [List.drop_eq_getElem_cons h,List.any_cons,hf]; rfl
      · rw [L167_6_eq]
        simp only [hlt,x2,x3,hcl,hf,core]
        exact leave3_q (Ia i) lo H
    | false =>
      obtain ⟨r,k1,k2⟩ := ih (i + 1) (by omega) (by omega)
      refine ⟨r,?_,?_⟩
      · rw [k1,List.drop_eq_getElem_cons h,List.any_cons,hf]; rfl
      · rw [← k2,L167_6_eq]
        simp only [hlt,x2,x3,hcl,hf,w,core]
theorem call148 {f:A_TIns → Bool}{cl:AV}{l:List A_TIns}(hl:l.length < 2 ^ 63){H:Heap}(hcl:∀ y lo,callV cfg O cl [tiV y] lo H = some (B (f y),H)){nl:Option Bool}{tg:Bool}(lo:List Nat):callA cfg O 148 [Rw enc_TIns nl tg l,cl] lo H = some (B (l.any f),H) := by
  refine callA_same (rs := [B _]) rfl ?_
  have e:∃ r:Int,(0 ≤ r ↔ l.any f = true) ∧ callA cfg O 167 [Rw enc_TIns nl tg l,cl] (H.length :: lo) H = some (I r,H) := by
    obtain ⟨r,k1,k2⟩ := L167 hl hcl (nl := nl) (tg := tg) (lo := H.length :: lo) l.length 0 rfl (Nat.zero_le _)
    refine ⟨r,by simpa using k1,callA_same (rs := [I r]) rfl ?_⟩
    rw [f167_eq]
    simp only [lenA_sl,core]
    exact k2
  obtain ⟨r,k1,k2⟩ := e
  have hr:decide (0 ≤ r) = l.any f := by rw [Bool.eq_iff_iff,decide_eq_true_eq]; exact k1
  rw [f148_eq]
  simp only [k2,hr,core]
  exact leave3_q (.v (.bool _)) lo H
end Ir
end Go.Proofs.YtnjfpnoamgipjaaDoor
set_option linter.unusedVariables false
set_option linter.unusedSimpArgs false
set_option linter.unusedSectionVars false
set_option maxRecDepth 100000
namespace Go.Proofs.YtnjfpnoamgipjaaDoor
open Go Go.AM
namespace Ir
variable {t:A_TTrace}
abbrev iT (t:A_TTrace):List A_TIns := t.2.2.2.1.2
abbrev RwT (t:A_TTrace):AV := Rw enc_TIns t.2.2.2.1.1 false (iT t)
def Hs (t:A_TTrace)(x:A_TIns):Heap := [.box ((enc_TTrace t).map .p),.box ((enc_TIns x).map .p)]
theorem hs0 (t:A_TTrace)(x:A_TIns)(l:List AObj)(j:Nat):ld false 1 (.ptr 0 j) (Hs t x ++ l) = ((enc_TTrace t)[j]?).map .p := ldBx (H := Hs t x ++ l) rfl 1 j
theorem hs1 (t:A_TTrace)(x:A_TIns)(l:List AObj)(j:Nat):ld false 1 (.ptr 1 j) (Hs t x ++ l) = ((enc_TIns x)[j]?).map .p := ldBx (H := Hs t x ++ l) rfl 1 j
theorem hsT (t:A_TTrace)(x:A_TIns)(l:List AObj):ld true 13 (.ptr 0 0) (Hs t x ++ l) = some (trV t) := ldT13 rfl
theorem hs0' (t:A_TTrace)(x:A_TIns)(j:Nat):ld false 1 (.ptr 0 j) (Hs t x) = ((enc_TTrace t)[j]?).map .p := ldBx (H := Hs t x) rfl 1 j
theorem hs1' (t:A_TTrace)(x:A_TIns)(j:Nat):ld false 1 (.ptr 1 j) (Hs t x) = ((enc_TIns x)[j]?).map .p := ldBx (H := Hs t x) rfl 1 j
theorem hsT' (t:A_TTrace)(x:A_TIns):ld true 13 (.ptr 0 0) (Hs t x) = some (trV t) := ldT13 rfl
theorem cutR_lo (l:List A_TIns){nl:Option Bool}{tg:Bool}{n:Nat}(hn:n ≤ l.length)(H:Heap):∃ nl' tg',cutA 8 (Rw enc_TIns nl tg l) (some (I n)) none none H = some (Rw enc_TIns nl' tg' (l.drop n)) := by
  have e := cutA_lo (sz := 8) (n := l.length) (nl := nl) (t := tg) (xs := l.flatMap enc_TIns) (l := (n:Int)) (H := H) ⟨by omega,by omega⟩
  rw [e]
  have h1:(l.flatMap enc_TIns).drop ((n:Int).toNat * 8) = (l.drop n).flatMap enc_TIns := by rw [Int.toNat_natCast]; exact rows_drop len_TIns8 l n
  have h2:((l.length:Int) - n).toNat = (l.drop n).length := by rw [List.length_drop]; omega
  have h3:l.length - (n:Int).toNat = (l.drop n).length := by rw [List.length_drop,Int.toNat_natCast]
  have h4:((l.drop n).flatMap enc_TIns).take ((l.drop n).length * 8) = (l.drop n).flatMap enc_TIns := List.take_of_length_le (by rw [rows_length len_TIns8]; exact Nat.le_refl _)
  first
    | (rw [h1,h2,h4]; exact ⟨_,_,rfl⟩)
    | (rw [h1,h3,h4]; exact ⟨_,_,rfl⟩)
section
variable {i:Nat}{x:A_TIns} (hx:(iT t)[i]? = some x) (hn:(iT t).length < 2 ^ 30)
include hx hn
theorem beg (t':A_TTrace)(ht:t' = t):boxO [] (AV.cells (trV t)) [] = some (.ptr 0 0,[.box ((enc_TTrace t).map .p)]) ∧ idxA 8 (RwT t) (I i) = some (.fp ((iT t).flatMap enc_TIns) (i * 8)) ∧ (∀ H,ld true 8 (.fp ((iT t).flatMap enc_TIns) (i * 8)) H = some (tiV x)) ∧
    boxO [] [I 0,I 0,I 0,I 0,I 0,I 0,I 0,I 0] [.box ((enc_TTrace t).map .p)] = some (.ptr 1 0,[.box ((enc_TTrace t).map .p),.box ([Ia 0,Ia 0,Ia 0,Ia 0,Ia 0,Ia 0,Ia 0,Ia 0].map .p)]) ∧
    stA 8 (.ptr 1 0) (tiV x) [] [.box ((enc_TTrace t).map .p),.box ([Ia 0,Ia 0,Ia 0,Ia 0,Ia 0,Ia 0,Ia 0,Ia 0].map .p)] = some (Hs t x) ∧ ld false 1 (.ptr 0 3) [.box ((enc_TTrace t).map .p)] = some (RwT t) := by
  have hi:i < (iT t).length := getElem?_lt hx
  have hxi:(iT t)[i] = x := by rw [List.getElem?_eq_getElem hi] at hx; exact Option.some.inj hx
  refine ⟨boxAgg0 _,idxR hi,fun H => by rw [ldR len_TIns8 hi,hxi],box8 [_],st8 x [] [_],by rw [ldB0]; rfl⟩
theorem call115 (lo:List Nat)(H:Heap):callA cfg O 115 [trV t,I i] lo H = some (B (tw (iT t) i x),H) := by
  refine callA_args (H' := []) (rs := [B _]) rfl (pureArgsC (pureAgg _ _) (pureArgs1 (pureP _ _))) ?_ rfl
  obtain ⟨b1,b2,b3,b4,b5,b6⟩ := beg hx hn t rfl
  have hi:i < (iT t).length := getElem?_lt hx
  have c10 := cutR_hi (enc := enc_TIns) (k := 8) (nl := t.2.2.2.1.1) (tg := false) (l := iT t) len_TIns8 (n := i) (by omega) (Hs t x)
  have c11 := call148 (f := sg x) (cl := .fn 149 [] [.ptr 1 0]) (l := (iT t).take i) (nl := t.2.2.2.1.1) (tg := false && decide ((i:Int) = (iT t).length)) (by rw [List.length_take]; omega) (H := Hs t x) (fun y lo => call149 (H := Hs t x) rfl y lo) []
  rw [f115_eq]
  simp only [b1,b2,b3,b4,b5,b6,fldA_ptr,Nat.zero_add,hs0',tr3,c10,c11,core]
  rfl
theorem call114 (ht:TOk t)(lo:List Nat)(H:Heap):callA cfg O 114 [trV t,I i] lo H = some (B (trF (kN (iT t) i x.2.1 i) x.2.2.2.2.1 (tw (iT t) i x)),H) := by
  refine callA_args (H' := []) (rs := [B _]) rfl (pureArgsC (pureAgg _ _) (pureArgs1 (pureP _ _))) ?_ rfl
  obtain ⟨b1,b2,b3,b4,b5,b6⟩ := beg hx hn t rfl
  have e22 := call22 t ht i x.2.1 i (Int.le_refl _) [] (Hs t x)
  obtain ⟨kd,hkd⟩:∃ kd,kd = kN (iT t) i x.2.1 i := ⟨_,rfl⟩
  rw [← hkd] at e22 ⊢
  have l29:L114_29 [I i,.ptr 0 0] [] (Hs t x) = some ([B (tw (iT t) i x)],[]) := by
    rw [L114_29_eq]
    simp only [hsT',call115 hx hn,core]
    rfl
  rw [f114_eq,trF]
  by_cases k0:kd = 0
  · rw [if_pos k0]
    by_cases n0:x.2.2.2.2.1 = 0
    · rw [if_pos n0]
      simp only [b1,b2,b3,b4,b5,b6,fldA_ptr,Nat.zero_add,hsT',hs1',ti1,ti4,e22,decide_eq_true k0,decide_eq_true n0,leave0_B,core]
    · rw [if_neg n0]
      simp only [b1,b2,b3,b4,b5,b6,fldA_ptr,Nat.zero_add,hsT',hs1',ti1,ti4,e22,decide_eq_true k0,decide_eq_false n0,l29,core]
  rw [if_neg k0]
  by_cases kr:2 ≤ kd ∧ kd ≤ 6
  · rw [if_pos kr]
    have hk:kd = 2 ∨ kd = 3 ∨ kd = 4 ∨ kd = 5 ∨ kd = 6 := by omega
    by_cases n1:x.2.2.2.2.1 = 1
    · rw [if_pos n1]
      rcases hk with h | h | h | h | h <;> simp only [b1,b2,b3,b4,b5,b6,fldA_ptr,Nat.zero_add,hsT',hs1',ti1,ti4,e22,h,Int.reduceEq,decide_eq_true n1,leave0_B,core]
    · rw [if_neg n1]
      rcases hk with h | h | h | h | h <;> simp only [b1,b2,b3,b4,b5,b6,fldA_ptr,Nat.zero_add,hsT',hs1',ti1,ti4,e22,h,Int.reduceEq,decide_eq_false n1,l29,core]
  · rw [if_neg kr]
    have d2:decide (kd = 2) = false := decide_eq_false (by omega)
    have d3:decide (kd = 3) = false := decide_eq_false (by omega)
    have d4:decide (kd = 4) = false := decide_eq_false (by omega)
    have d5:decide (kd = 5) = false := decide_eq_false (by omega)
    have d6:decide (kd = 6) = false := decide_eq_false (by omega)
    simp only [b1,b2,b3,b4,b5,b6,fldA_ptr,Nat.zero_add,hsT',hs1',ti1,ti4,e22,decide_eq_false k0,d2,d3,d4,d5,d6,l29,core]
end
theorem call150 {L:Nat}(hL:t.2.2.1 = L)(hl:L ≤ (iT t).length)(hn:(iT t).length < 2 ^ 30)(i:Nat)(lo:List Nat)(H:Heap):callA cfg O 150 [trV t,I i] lo H = some (I (frm (iT t) L i),H) := by
  refine callA_args (H' := []) (rs := [I _]) rfl (pureArgsC (pureAgg _ _) (pureArgs1 (pureP _ _))) ?_ rfl
  obtain ⟨nl',tg',c9⟩ := cutR_lo (iT t) (nl := t.2.2.2.1.1) (tg := false) hl [.box ((enc_TTrace t).map .p)]
  have c10 := call148 (f := fun y => decide (y.1 = 12)) (cl := .fn 168 [] []) (l := (iT t).drop L) (nl := nl') (tg := tg') (by rw [List.length_drop]; omega) (H := [.box ((enc_TTrace t).map .p)]) (fun y lo => call168 y lo _) []
  have t2:∀ j,ld false 1 (.ptr 0 j) [.box ((enc_TTrace t).map .p)] = ((enc_TTrace t)[j]?).map .p := fun j => ldB0 _ _ _
  have e2:(enc_TTrace t)[2]? = some (Ia L) := by rw [← hL]; rfl
  have c10':callA cfg O 148 [.p (.sl nl' tg' ((iT t).drop L).length (((iT t).drop L).flatMap enc_TIns)),.fn 168 [] []] [] [.box ((enc_TTrace t).map .p)] = some (B (grows (iT t) L),[.box ((enc_TTrace t).map .p)]) := c10
  rw [f150_eq,frm]
  by_cases c:L ≤ i
  · have c':(L:Int) ≤ i := by omega
    cases hg:grows (iT t) L with
    | true =>
      rw [hg] at c10'
      rw [if_pos ⟨c,rfl⟩]
      simp only [boxAgg0,fldA_ptr,Nat.zero_add,t2,e2,tr3,c',c9,c10',core]
      rfl
    | false =>
      rw [hg] at c10'
      rw [if_neg (fun h => by cases h.2)]
      simp only [boxAgg0,fldA_ptr,Nat.zero_add,t2,e2,tr3,c',c9,c10',core]
      rfl
  · have c':¬ (L:Int) ≤ i := by omega
    rw [if_neg (fun h => c h.1)]
    simp only [boxAgg0,fldA_ptr,Nat.zero_add,t2,e2,tr3,c',core]
    rfl
section
variable {i:Nat}{x:A_TIns} (hx:(iT t)[i]? = some x) (hn:(iT t).length < 2 ^ 30) {L:Nat} (hL:t.2.2.1 = L) (hl:L ≤ (iT t).length)
include hx hn hL hl
theorem L116:∀ (k:Nat)(H:Heap),k ≤ i → H[0]? = some (.box ((enc_TTrace t).map .p)) → H[1]? = some (.box ((enc_TIns x).map .p)) →
    L116_8 [I i,.ptr 0 0,.ptr 1 0,I ((k:Int) - 1)] [] H = some ([B (lastV (iT t) x (frm (iT t) L i) k)],[]) := by
  have hi:i < (iT t).length := getElem?_lt hx
  intro k
  induction k with
  | zero =>
    intro H hk h0 h1
    have x1:ld true 13 (.ptr 0 0) H = some (trV t) := ldT13 h0
    have c2 := call150 hL hl hn i [] H
    have c3:¬ ((frm (iT t) L i:Nat):Int) ≤ ((0:Nat):Int) - 1 := by omega
    rw [L116_8_eq]
    simp only [x1,c2,c3,leave0_B,core]
    rfl
  | succ k ih =>
    intro H hk h0 h1
    have x1:ld true 13 (.ptr 0 0) H = some (trV t) := ldT13 h0
    have c2 := call150 hL hl hn i [] H
    have ek:((k + 1:Nat):Int) - 1 = (k:Int) := by omega
    rw [L116_8_eq,lastV,ek]
    by_cases cf:k < frm (iT t) L i
    · have c3:¬ ((frm (iT t) L i:Nat):Int) ≤ (k:Int) := by omega
      rw [if_pos cf]
      simp only [x1,c2,c3,leave0_B,core]
    rw [if_neg cf]
    have c3:((frm (iT t) L i:Nat):Int) ≤ (k:Int) := by omega
    have hj:k < (iT t).length := by omega
    obtain ⟨y,hy⟩:∃ y,(iT t)[k] = y := ⟨_,rfl⟩
    rw [show (iT t)[k]? = some y by rw [List.getElem?_eq_getElem hj,hy]]
    have x5:ld false 1 (.ptr 0 3) H = some (RwT t) := by rw [ld_box h0]; rfl
    have x6 := idxR (enc := enc_TIns) (k := 8) (nl := t.2.2.2.1.1) (tg := false) hj
    have x7:ld true 8 (.fp ((iT t).flatMap enc_TIns) (k * 8)) H = some (tiV y) := by rw [ldR len_TIns8 hj,hy]
    have r8 := box8 H
    have r9 := st8 y [] H
    have h0':(H ++ [AObj.box ((enc_TIns y).map .p)])[0]? = some (.box ((enc_TTrace t).map .p)) := push_get? h0 _
    have h1':(H ++ [AObj.box ((enc_TIns y).map .p)])[1]? = some (.box ((enc_TIns x).map .p)) := push_get? h1 _
    have hyb:(H ++ [AObj.box ((enc_TIns y).map .p)])[H.length]? = some (.box ((enc_TIns y).map .p)) := by simp
    have gx := fun j => ldBx h1' 1 j
    have gy := fun j => ldBx hyb 1 j
    have w:IntKind.i64.wrap ((k:Int) - 1) = (k:Int) - 1 := wrap_id (by omega)
    have nxt' := ih (H ++ [.box ((enc_TIns y).map .p)]) (by omega) h0' h1'
    simp only [shv]
    by_cases a9:y.1 = 9
    · have d16:decide (y.1 = 16) = false := decide_eq_false (by omega)
      have d12:decide (y.1 = 12) = false := decide_eq_false (by omega)
      have n16:¬ (y.1 = 16 ∧ (k:Int) = x.2.1 ∧ y.2.2.2.2.1 = 1) := fun h => by omega
      have n12:¬ y.1 = 12 := by omega
      by_cases aA:y.2.1 = x.2.1
      · by_cases aN:y.2.2.2.2.1 = 1
        · rw [if_pos ⟨a9,aA,aN⟩]
          simp only [x1,c2,c3,x5,x6,x7,r8,r9,gx,gy,ti0,ti1,ti2,ti4,fldA_ptr,Nat.zero_add,decide_eq_true a9,decide_eq_true aA,decide_eq_true aN,leave0_B,core]
        · rw [if_neg (fun h => aN h.2.2),if_neg n16,if_neg n12]
          simp only [x1,c2,c3,x5,x6,x7,r8,r9,gx,gy,ti0,ti1,ti2,ti4,fldA_ptr,Nat.zero_add,decide_eq_true a9,decide_eq_true aA,decide_eq_false aN,d16,d12,w,core]
          exact nxt'
      · rw [if_neg (fun h => aA h.2.1),if_neg n16,if_neg n12]
        simp only [x1,c2,c3,x5,x6,x7,r8,r9,gx,gy,ti0,ti1,ti2,ti4,fldA_ptr,Nat.zero_add,decide_eq_true a9,decide_eq_false aA,d16,d12,w,core]
        exact nxt'
    rw [if_neg (fun h => a9 h.1)]
    by_cases a16:y.1 = 16
    · have d12:decide (y.1 = 12) = false := decide_eq_false (by omega)
      have n12:¬ y.1 = 12 := by omega
      by_cases aA:(k:Int) = x.2.1
      · by_cases aN:y.2.2.2.2.1 = 1
        · rw [if_pos ⟨a16,aA,aN⟩]
          simp only [x1,c2,c3,x5,x6,x7,r8,r9,gx,gy,ti0,ti1,ti2,ti4,fldA_ptr,Nat.zero_add,decide_eq_false a9,decide_eq_true a16,decide_eq_true aA,decide_eq_true aN,leave0_B,core]
        · rw [if_neg (fun h => aN h.2.2),if_neg n12]
          simp only [x1,c2,c3,x5,x6,x7,r8,r9,gx,gy,ti0,ti1,ti2,ti4,fldA_ptr,Nat.zero_add,decide_eq_false a9,decide_eq_true a16,decide_eq_true aA,decide_eq_false aN,d12,w,core]
          exact nxt'
      · rw [if_neg (fun h => aA h.2.1),if_neg n12]
        simp only [x1,c2,c3,x5,x6,x7,r8,r9,gx,gy,ti0,ti1,ti2,ti4,fldA_ptr,Nat.zero_add,decide_eq_false a9,decide_eq_true a16,decide_eq_false aA,d12,w,core]
        exact nxt'
    rw [if_neg (fun h => a16 h.1)]
    by_cases a12:y.1 = 12
    · rw [if_pos a12]
      by_cases aA:y.2.1 = x.2.1
      · simp only [x1,c2,c3,x5,x6,x7,r8,r9,gx,gy,ti0,ti1,ti2,ti4,fldA_ptr,Nat.zero_add,decide_eq_false a9,decide_eq_false a16,decide_eq_true a12,decide_eq_true aA,Bool.true_and,leave0_B,core]
      · simp only [x1,c2,c3,x5,x6,x7,r8,r9,gx,gy,ti0,ti1,ti2,ti4,fldA_ptr,Nat.zero_add,decide_eq_false a9,decide_eq_false a16,decide_eq_true a12,decide_eq_false aA,Bool.false_and,leave0_B,core]
    · rw [if_neg a12]
      simp only [x1,c2,c3,x5,x6,x7,r8,r9,gx,gy,ti0,ti1,ti2,ti4,fldA_ptr,Nat.zero_add,decide_eq_false a9,decide_eq_false a16,decide_eq_false a12,w,core]
      exact nxt'
theorem call116 (lo:List Nat)(H:Heap):callA cfg O 116 [trV t,I i] lo H = some (B (lastV (iT t) x (frm (iT t) L i) i),H) := by
  refine callA_args (H' := []) (rs := [B _]) rfl (pureArgsC (pureAgg _ _) (pureArgs1 (pureP _ _))) ?_ rfl
  obtain ⟨b1,b2,b3,b4,b5,b6⟩ := beg hx hn t rfl
  have hi:i < (iT t).length := getElem?_lt hx
  have w:IntKind.i64.wrap ((i:Int) - 1) = (i:Int) - 1 := wrap_id (by omega)
  have h := L116 hx hn hL hl i (Hs t x) (Nat.le_refl _) rfl rfl
  rw [f116_eq]
  simp only [b1,b2,b3,b4,b5,b6,fldA_ptr,Nat.zero_add,w,core]
  exact h
theorem call68 (ht:TOk t)(hA:∀ j,j < (vals x.1).toNat → 0 ≤ argI x j ∧ argI x j < i)(lo:List Nat)(H:Heap):callA cfg O 68 [trV t,I i] lo H = some (B (sd (iT t) L (kN (iT t) i x.2.1 i) i x),H) := by
  refine callA_args (H' := []) (rs := [B _]) rfl (pureArgsC (pureAgg _ _) (pureArgs1 (pureP _ _))) ?_ rfl
  obtain ⟨b1,b2,b3,b4,b5,b6⟩ := beg hx hn t rfl
  have hi:i < (iT t).length := getElem?_lt hx
  have e22 := call22 t ht i x.2.1 i (Int.le_refl _) [] (Hs t x)
  have e115 := call115 hx hn []
  have e114 := call114 hx hn ht []
  have e116 := call116 hx hn hL hl []
  rw [f68_eq,sd]
  by_cases c4:x.1 = 4
  · rw [if_pos c4]
    simp only [b1,b2,b3,b4,b5,b6,fldA_ptr,Nat.zero_add,hsT',hs1',ti0,ti1,ti4,e22,decide_eq_true c4,leave0_B,core]
  rw [if_neg c4]
  by_cases c5:x.1 = 5
  · rw [if_pos c5]
    simp only [b1,b2,b3,b4,b5,b6,fldA_ptr,Nat.zero_add,hsT',hs1',ti0,e114,decide_eq_false c4,decide_eq_true c5,leave0_B,core]
  rw [if_neg c5]
  by_cases c6:x.1 = 6
  · rw [if_pos (.inl c6)]
    simp only [b1,b2,b3,b4,b5,b6,fldA_ptr,Nat.zero_add,hsT',hs1',ti0,e115,decide_eq_false c4,decide_eq_false c5,decide_eq_true c6,leave0_B,core]
  by_cases c19:x.1 = 19
  · rw [if_pos (.inr c19)]
    simp only [b1,b2,b3,b4,b5,b6,fldA_ptr,Nat.zero_add,hsT',hs1',ti0,e115,decide_eq_false c4,decide_eq_false c5,decide_eq_false c6,decide_eq_true c19,leave0_B,core]
  rw [if_neg (fun h => by omega)]
  by_cases c9:x.1 = 9
  · rw [if_pos c9]
    by_cases n1:x.2.2.2.2.1 = 1
    · rw [if_pos n1]
      simp only [b1,b2,b3,b4,b5,b6,fldA_ptr,Nat.zero_add,hsT',hs1',ti0,ti4,e116,decide_eq_false c4,decide_eq_false c5,decide_eq_false c6,decide_eq_false c19,decide_eq_true c9,decide_eq_true n1,leave0_B,core]
    · rw [if_neg n1]
      have hv:(vals x.1).toNat = 1 := by rw [c9]; rfl
      obtain ⟨a0,a1⟩ := hA 0 (by omega)
      have a0':0 ≤ x.2.1 := a0
      have a1':x.2.1 < i := a1
      obtain ⟨j,hj⟩:∃ j:Nat,x.2.1 = j := ⟨x.2.1.toNat,by omega⟩
      have hjl:j < (iT t).length := by omega
      obtain ⟨y,hy⟩:∃ y,(iT t)[j] = y := ⟨_,rfl⟩
      rw [show x.2.1.toNat = j by omega,show (iT t)[j]? = some y by rw [List.getElem?_eq_getElem hjl,hy]]
      have x34 := idxR (enc := enc_TIns) (k := 8) (nl := t.2.2.2.1.1) (tg := false) hjl
      have x35:∀ H,ld true 8 (.fp ((iT t).flatMap enc_TIns) (j * 8)) H = some (tiV y) := fun H => by rw [ldR len_TIns8 hjl,hy]
      have r36 := box8 (Hs t x)
      have r37 := st8 y [] (Hs t x)
      have gy:∀ j,ld false 1 (.ptr (Hs t x).length j) (Hs t x ++ [.box ((enc_TIns y).map .p)]) = ((enc_TIns y)[j]?).map .p := fun j => ldB _ _ _ _
      simp only
      cases hw:tw (iT t) i x with
      | true =>
        rw [hw] at e115
        simp only [b1,b2,b3,b4,b5,b6,fldA_ptr,Nat.zero_add,hsT,hs1,hs1',hs0',tr3,ti0,ti1,ti4,hj,x34,x35,r36,r37,e115,decide_eq_false c4,decide_eq_false c5,decide_eq_false c6,decide_eq_false c19,decide_eq_true c9,decide_eq_false n1,Bool.true_or,leave0_B,core]
      | false =>
        rw [hw] at e115
        by_cases y16:y.1 = 16
        · simp only [b1,b2,b3,b4,b5,b6,fldA_ptr,Nat.zero_add,hsT,hs1,hs1',hs0',tr3,ti0,ti1,ti4,hj,x34,x35,r36,r37,gy,e115,decide_eq_false c4,decide_eq_false c5,decide_eq_false c6,decide_eq_false c19,decide_eq_true c9,decide_eq_false n1,decide_eq_true y16,Bool.false_or,Bool.true_and,leave0_B,core]
        · simp only [b1,b2,b3,b4,b5,b6,fldA_ptr,Nat.zero_add,hsT,hs1,hs1',hs0',tr3,ti0,ti1,ti4,hj,x34,x35,r36,r37,gy,e115,decide_eq_false c4,decide_eq_false c5,decide_eq_false c6,decide_eq_false c19,decide_eq_true c9,decide_eq_false n1,decide_eq_false y16,Bool.false_or,Bool.false_and,leave0_B,core]
  · rw [if_neg c9]
    simp only [b1,b2,b3,b4,b5,b6,fldA_ptr,Nat.zero_add,hsT',hs1',ti0,decide_eq_false c4,decide_eq_false c5,decide_eq_false c6,decide_eq_false c19,decide_eq_false c9,leave0_B,core]
end
end Ir
end Go.Proofs.YtnjfpnoamgipjaaDoor
set_option linter.unusedVariables false
set_option linter.unusedSimpArgs false
set_option linter.unusedSectionVars false
set_option maxRecDepth 100000
namespace Go.Proofs.YtnjfpnoamgipjaaDoor
open Go Go.AM
namespace Ir
variable {t:A_TTrace}
def Kinds (ins:List A_TIns):Prop := ∀ y ∈ ins,(y.1 = 2 ∨ y.1 = 6 → y.2.2.2.2.2.2.1 ≤ 6) ∧ (y.1 = 4 → y.2.2.2.2.1 ≤ 6)
theorem up_le {v:Int}:∀ (l:List A_TIns)(k:Int),k ≤ 6 → (∀ y ∈ l,(y.1 = 2 ∨ y.1 = 6 → y.2.2.2.2.2.2.1 ≤ 6) ∧ (y.1 = 4 → y.2.2.2.2.1 ≤ 6)) → up k v l ≤ 6
  | [],k,hk,_ => hk
  | y :: l,k,hk,h => by
    unfold up
    cases hm:mt y v with
    | none => exact up_le l k hk fun z hz => h z (List.mem_cons_of_mem _ hz)
    | some q =>
      have hy := h y List.mem_cons_self
      unfold mt at hm
      repeat' split at hm
      all_goals first | (cases hm; done) | (cases hm; simp only; first | exact hy.2 (by assumption) | exact hy.1 (.inr (by assumption)) | decide)
theorem kN_le {ins:List A_TIns}(hK:Kinds ins):∀ (n:Nat)(v at':Int),kN ins n v at' ≤ 6 := by
  intro n
  induction n with
  | zero => intro v at'; show (-1:Int) ≤ 6; decide
  | succ n ih =>
    intro v at'
    rw [kN]
    split
    · decide
    split
    · decide
    rename_i x hx
    have hy := hK x (List.mem_of_getElem? hx)
    split
    · split
      · unfold ownN
        repeat' split
        all_goals first | exact hy.1 (.inl (by assumption)) | decide | exact ih _ _
      · refine up_le _ _ (by decide) fun y hy' => hK y ?_
        exact List.mem_of_mem_take (List.mem_of_mem_drop hy')
    · decide
theorem trF_doc {kd n:Int}{b:Bool}(h:kd ≤ 6):trF kd n b = ((b || (decide (kd = 0) && decide (n = 0))) || (decide (2 ≤ kd) && decide (n = 1))) := by
  unfold trF
  by_cases h0:kd = 0
  · subst h0
    by_cases n0:n = 0 <;> cases b <;> simp [n0]
  · by_cases h2:2 ≤ kd
    · rw [if_neg h0,if_pos ⟨h2,h⟩]
      by_cases n1:n = 1 <;> cases b <;> simp [h0,h2,n1]
    · rw [if_neg h0,if_neg (fun h => h2 h.1)]
      cases b <;> simp [h0,h2]
def Hd (t:A_TTrace)(i:Nat)(x:A_TIns):Heap := [.box ((enc_TTrace t).map .p),.box [I i],.box ((enc_TIns x).map .p)]
structure D3 (t:A_TTrace)(i:Nat)(x:A_TIns)(H:Heap):Prop where
  h0:H[0]? = some (.box ((enc_TTrace t).map .p))
  h1:H[1]? = some (.box [I i])
  h2:H[2]? = some (.box ((enc_TIns x).map .p))
theorem D3.push {i:Nat}{x:A_TIns}{H:Heap}(h:D3 t i x H)(l:List AObj):D3 t i x (H ++ l) := ⟨push_get? h.h0 l,push_get? h.h1 l,push_get? h.h2 l⟩
section
variable {i:Nat}{x:A_TIns} (hx:(iT t)[i]? = some x) (hn:(iT t).length < 2 ^ 30)
include hx hn
theorem L117 {H:Heap}(hD:D3 t i x H){lo:List Nat}:∀ (c k:Nat),i - k = c → k ≤ i → L117_6 [.fn 118 [] [.ptr 2 0],.ptr 0 0,I i,I k] (H.length :: lo) H = some ([B (((iT t).take i).drop k |>.any (sg x))],H) := by
  have hi:i < (iT t).length := getElem?_lt hx
  intro c
  induction c with
  | zero =>
    intro k hc hk
    have:k = i := by omega
    subst this
    rw [L117_6_eq,List.drop_of_length_le (by rw [List.length_take]; omega)]
    simp only [Int.lt_irrefl,core]
    exact leave3_q (.v (.bool false)) lo H
  | succ c ih =>
    intro k hc hk
    have hlt:(k:Int) < i := by omega
    have hj:k < (iT t).length := by omega
    have hj':k < ((iT t).take i).length := by rw [List.length_take]; omega
    have x3:ld false 1 (.ptr 0 3) H = some (RwT t) := by rw [ld_box hD.h0]; rfl
    have x4 := idxR (enc := enc_TIns) (k := 8) (nl := t.2.2.2.1.1) (tg := false) hj
    have x5:ld true 8 (.fp ((iT t).flatMap enc_TIns) (k * 8)) H = some (tiV (iT t)[k]) := ldR len_TIns8 hj H
    have c6:callV cfg O (.fn 118 [] [.ptr 2 0]) [I k,tiV (iT t)[k]] (H.length :: lo) H = some (B (sg x (iT t)[k]),H) := call118 hD.h2 k (iT t)[k] _
    have w := wrapN (show k < 2 ^ 63 - 1 by omega)
    rw [L117_6_eq,List.drop_eq_getElem_cons hj',List.getElem_take,List.any_cons]
    cases hs:sg x (iT t)[k] with
    | true =>
      rw [hs] at c6
      simp only [hlt,fldA_ptr,Nat.zero_add,x3,x4,x5,c6,Bool.true_or,core]
      exact leave3_q (.v (.bool true)) lo H
    | false =>
      rw [hs] at c6
      simp only [hlt,fldA_ptr,Nat.zero_add,x3,x4,x5,c6,w,Bool.false_or,core]
      exact ih (k + 1) (by omega) (by omega)
theorem call117 {H:Heap}(hD:D3 t i x H)(lo:List Nat):callV cfg O (.fn 117 [] [.ptr 1 0,.ptr 0 0]) [.fn 118 [] [.ptr 2 0]] lo H = some (B (tw (iT t) i x),H) := by
  show callA cfg O 117 [.fn 118 [] [.ptr 2 0],.ptr 1 0,.ptr 0 0] lo H = _
  refine callA_same (rs := [B _]) rfl ?_
  have x1:ld false 1 (.ptr 1 0) H = some (I i) := by rw [ld_box hD.h1]; rfl
  rw [f117_eq]
  simp only [x1,core]
  exact L117 hx hn hD i 0 rfl (Nat.zero_le _)
variable {L:Nat} (hL:t.2.2.1 = L) (hl:L ≤ (iT t).length)
include hL hl
theorem L69g {nl:Option Bool}{tg:Bool}:∀ (c k:Nat)(g:Bool)(H:Heap),((iT t).drop L).length - k = c → k ≤ ((iT t).drop L).length → D3 t i x H →
    ∃ H',D3 t i x H' ∧ L69_42 [.ptr 0 0,.ptr 1 0,.ptr 2 0,B g,Rw enc_TIns nl tg ((iT t).drop L),I ((iT t).drop L).length,I k] [] H = L69_54 [.ptr 0 0,.ptr 1 0,.ptr 2 0,B (g || (((iT t).drop L).drop k).any fun y => decide (y.1 = 12)),B false,I i,I ((0:Nat):Int)] [] H' := by
  intro c
  have hlen:((iT t).drop L).length ≤ (iT t).length := by rw [List.length_drop]; omega
  induction c with
  | zero =>
    intro k g H hc hk hD
    have:k = ((iT t).drop L).length := by omega
    subst this
    refine ⟨H,hD,?_⟩
    have x11:ld false 1 (.ptr 1 0) H = some (I i) := by rw [ld_box hD.h1]; rfl
    rw [L69_42_eq,List.drop_length]
    simp only [Int.lt_irrefl,x11,List.any_nil,Bool.or_false,core]
    rfl
  | succ c ih =>
    intro k g H hc hk hD
    have hj:k < ((iT t).drop L).length := by omega
    have hlt:(k:Int) < ((iT t).drop L).length := by omega
    obtain ⟨y,hy⟩:∃ y,((iT t).drop L)[k] = y := ⟨_,rfl⟩
    have x2 := idxR (enc := enc_TIns) (k := 8) (nl := nl) (tg := tg) hj
    have x3:ld true 8 (.fp (((iT t).drop L).flatMap enc_TIns) (k * 8)) H = some (tiV y) := by rw [ldR len_TIns8 hj,hy]
    have r4 := box8 H
    have r5 := st8 y [] H
    have gy:∀ j,ld false 1 (.ptr H.length j) (H ++ [.box ((enc_TIns y).map .p)]) = ((enc_TIns y)[j]?).map .p := fun j => ldB _ _ _ _
    have w := wrapN (show k < 2 ^ 63 - 1 by omega)
    obtain ⟨H',k1,k2⟩ := ih (k + 1) (g || decide (y.1 = 12)) (H ++ [.box ((enc_TIns y).map .p)]) (by omega) (by omega) (hD.push _)
    refine ⟨H',k1,?_⟩
    rw [List.drop_eq_getElem_cons hj,List.any_cons,hy,← Bool.or_assoc,← k2,L69_42_eq]
    cases g with
    | true => simp only [hlt,x2,x3,r4,r5,fldA_ptr,Nat.zero_add,w,Bool.true_or,core]
    | false => simp only [hlt,x2,x3,r4,r5,fldA_ptr,Nat.zero_add,gy,ti0,w,Bool.false_or,core]
noncomputable def B69 (v2 v3 v5 v9 v12 v111 v112:AV) (lo:List Nat) (H:Heap):Res := (
(fldA 3 v2).bind fun x12 =>
(ld false 1 x12 H).bind fun x13 =>
(idxA 8 x13 v112).bind fun x14 =>
(ld true 8 x14 H).bind fun x15 =>
(boxO [] [(I 0),(I 0),(I 0),(I 0),(I 0),(I 0),(I 0),(I 0)] H).bind fun r16 =>
((stA 8 r16.1 x15 lo r16.2).map fun H' => (undefA,H')).bind fun r17 =>
(fldA 0 r16.1).bind fun x18 =>
(ld false 1 x18 r17.2).bind fun x19 =>
(bin .eql .int x19 (I 9)).bind fun x20 =>
(gd x20 true (fldA 4 r16.1)).bind fun x21 =>
(gd x20 true (ld false 1 x21 r17.2)).bind fun x22 =>
(gd x20 true (bin .eql .int x22 (I 1))).bind fun x23 =>
(pickA x20 x23 (B false)).bind fun x24 =>
(gd x24 true (fldA 1 r16.1)).bind fun x25 =>
(gd x24 true (ld false 1 x25 r17.2)).bind fun x26 =>
(gd x24 true (fldA 1 v5)).bind fun x27 =>
(gd x24 true (ld false 1 x27 r17.2)).bind fun x28 =>
(gd x24 true (bin .eql .int x26 x28)).bind fun x29 =>
(pickA x24 x29 (B false)).bind fun x30 =>
cond x30 (
(fldA 2 r16.1).bind fun x31 =>
(ld false 1 x31 r17.2).bind fun x32 =>
(fldA 2 v5).bind fun x33 =>
(ld false 1 x33 r17.2).bind fun x34 =>
(bin .eql .int x32 x34).bind fun x35 =>
L69_75 [v2,v3,v5,v9,x35,v111,v112] lo r17.2) (
(fldA 0 r16.1).bind fun x36 =>
(ld false 1 x36 r17.2).bind fun x37 =>
(bin .eql .int x37 (I 16)).bind fun x38 =>
(gd x38 true (fldA 4 r16.1)).bind fun x39 =>
(gd x38 true (ld false 1 x39 r17.2)).bind fun x40 =>
(gd x38 true (bin .eql .int x40 (I 1))).bind fun x41 =>
(pickA x38 x41 (B false)).bind fun x42 =>
(gd x42 true (some v112)).bind fun x43 =>
(gd x42 true (fldA 1 v5)).bind fun x44 =>
(gd x42 true (ld false 1 x44 r17.2)).bind fun x45 =>
(gd x42 true (bin .eql .int x43 x45)).bind fun x46 =>
(pickA x42 x46 (B false)).bind fun x47 =>
cond x47 (
(fldA 2 v5).bind fun x48 =>
(ld false 1 x48 r17.2).bind fun x49 =>
(bin .eql .int x49 (I 0)).bind fun x50 =>
L69_75 [v2,v3,v5,v9,x50,v111,v112] lo r17.2) (
(fldA 0 r16.1).bind fun x51 =>
(ld false 1 x51 r17.2).bind fun x52 =>
(bin .eql .int x52 (I 12)).bind fun x53 =>
cond x53 (
(fldA 1 r16.1).bind fun x54 =>
(ld false 1 x54 r17.2).bind fun x55 =>
(fldA 1 v5).bind fun x56 =>
(ld false 1 x56 r17.2).bind fun x57 =>
(bin .eql .int x55 x57).bind fun x58 =>
(gd x58 true (fldA 4 r16.1)).bind fun x59 =>
(gd x58 true (ld false 1 x59 r17.2)).bind fun x60 =>
(gd x58 true (fldA 2 v5)).bind fun x61 =>
(gd x58 true (ld false 1 x61 r17.2)).bind fun x62 =>
(gd x58 true (bin .eql .int x60 x62)).bind fun x63 =>
(pickA x58 x63 (B false)).bind fun x64 =>
L69_75 [v2,v3,v5,v9,x64,v111,v112] lo r17.2) (
L69_75 [v2,v3,v5,v9,v12,v111,v112] lo r17.2))))
omit hx hn hL hl in
theorem L69_54_B (v2 v3 v5 v9 v12 v111 v112:AV)(lo:List Nat)(H:Heap):L69_54 [v2,v3,v5,v9,v12,v111,v112] lo H = (
(bin .lss .int v112 v111).bind fun x1 =>
cond x1 (
(gd v9 true (ld false 1 v3 H)).bind fun x2 =>
(gd v9 true (fldA 2 v2)).bind fun x3 =>
(gd v9 true (ld false 1 x3 H)).bind fun x4 =>
(gd v9 true (bin .geq .int x2 x4)).bind fun x5 =>
(pickA v9 x5 (B false)).bind fun x6 =>
(gd x6 true (some v112)).bind fun x7 =>
(gd x6 true (fldA 2 v2)).bind fun x8 =>
(gd x6 true (ld false 1 x8 H)).bind fun x9 =>
(gd x6 true (bin .lss .int x7 x9)).bind fun x10 =>
(pickA x6 x10 (B false)).bind fun x11 =>
cond x11 (
L69_75 [v2,v3,v5,v9,v12,v111,v112] lo H) (B69 v2 v3 v5 v9 v12 v111 v112 lo H)) (
leave 0 lo [v12] H)) := L69_54_eq lo v2 v3 v5 v9 v12 v111 v112 H
theorem B69_eq {k:Nat}{H:Heap}{g b0:Bool}(hk:k < i)(hD:D3 t i x H){y:A_TIns} (hy?:(iT t)[k]? = some y){r:Res}
    (nx:∀ b,b = (shv x k y).getD b0 → L69_75 [.ptr 0 0,.ptr 1 0,.ptr 2 0,B g,B b,I i,I k] [] (H ++ [.box ((enc_TIns y).map .p)]) = r) :
    B69 (.ptr 0 0) (.ptr 1 0) (.ptr 2 0) (B g) (B b0) (I i) (I k) [] H = r := by
  have hi:i < (iT t).length := getElem?_lt hx
  have hj:k < (iT t).length := by omega
  have hy:(iT t)[k] = y := by rw [List.getElem?_eq_getElem hj] at hy?; exact Option.some.inj hy?
  have x13:ld false 1 (.ptr 0 3) H = some (RwT t) := by rw [ld_box hD.h0]; rfl
  have x14 := idxR (enc := enc_TIns) (k := 8) (nl := t.2.2.2.1.1) (tg := false) hj
  have x15:ld true 8 (.fp ((iT t).flatMap enc_TIns) (k * 8)) H = some (tiV y) := by rw [ldR len_TIns8 hj,hy]
  have r16 := box8 H
  have r17 := st8 y [] H
  have hD' := hD.push [.box ((enc_TIns y).map .p)]
  have gy:∀ j,ld false 1 (.ptr H.length j) (H ++ [.box ((enc_TIns y).map .p)]) = ((enc_TIns y)[j]?).map .p := fun j => ldB _ _ _ _
  have gx := fun j => ldBx hD'.h2 1 j
  revert nx
  unfold B69
  simp only [shv]
  by_cases a9:y.1 = 9
  · have d16:decide (y.1 = 16) = false := decide_eq_false (by omega)
    have d12:decide (y.1 = 12) = false := decide_eq_false (by omega)
    have n16:¬ (y.1 = 16 ∧ (k:Int) = x.2.1 ∧ y.2.2.2.2.1 = 1) := fun h => by omega
    have n12:¬ y.1 = 12 := by omega
    by_cases aN:y.2.2.2.2.1 = 1
    · by_cases aA:y.2.1 = x.2.1
      · rw [if_pos ⟨a9,aA,aN⟩]
        intro nx
        simp only [fldA_ptr,Nat.zero_add,x13,x14,x15,r16,r17,gx,gy,ti0,ti1,ti2,ti4,decide_eq_true a9,decide_eq_true aA,decide_eq_true aN,core]
        exact nx _ rfl
      · rw [if_neg (fun h => aA h.2.1),if_neg n16,if_neg n12]
        intro nx
        simp only [fldA_ptr,Nat.zero_add,x13,x14,x15,r16,r17,gx,gy,ti0,ti1,ti2,ti4,decide_eq_true a9,decide_eq_false aA,decide_eq_true aN,d16,d12,core]
        exact nx _ rfl
    · rw [if_neg (fun h => aN h.2.2),if_neg n16,if_neg n12]
      intro nx
      simp only [fldA_ptr,Nat.zero_add,x13,x14,x15,r16,r17,gx,gy,ti0,ti1,ti2,ti4,decide_eq_true a9,decide_eq_false aN,d16,d12,core]
      exact nx _ rfl
  rw [if_neg (fun h => a9 h.1)]
  by_cases a16:y.1 = 16
  · have d12:decide (y.1 = 12) = false := decide_eq_false (by omega)
    have n12:¬ y.1 = 12 := by omega
    by_cases aN:y.2.2.2.2.1 = 1
    · by_cases aA:(k:Int) = x.2.1
      · rw [if_pos ⟨a16,aA,aN⟩]
        intro nx
        simp only [fldA_ptr,Nat.zero_add,x13,x14,x15,r16,r17,gx,gy,ti0,ti1,ti2,ti4,decide_eq_false a9,decide_eq_true a16,decide_eq_true aA,decide_eq_true aN,core]
        exact nx _ rfl
      · rw [if_neg (fun h => aA h.2.1),if_neg n12]
        intro nx
        simp only [fldA_ptr,Nat.zero_add,x13,x14,x15,r16,r17,gx,gy,ti0,ti1,ti2,ti4,decide_eq_false a9,decide_eq_true a16,decide_eq_false aA,decide_eq_true aN,d12,core]
        exact nx _ rfl
    · rw [if_neg (fun h => aN h.2.2),if_neg n12]
      intro nx
      simp only [fldA_ptr,Nat.zero_add,x13,x14,x15,r16,r17,gx,gy,ti0,ti1,ti2,ti4,decide_eq_false a9,decide_eq_true a16,decide_eq_false aN,d12,core]
      exact nx _ rfl
  rw [if_neg (fun h => a16 h.1)]
  by_cases a12:y.1 = 12
  · rw [if_pos a12]
    by_cases aA:y.2.1 = x.2.1
    · intro nx
      simp only [fldA_ptr,Nat.zero_add,x13,x14,x15,r16,r17,gx,gy,ti0,ti1,ti2,ti4,decide_eq_false a9,decide_eq_false a16,decide_eq_true a12,decide_eq_true aA,core]
      exact nx _ (by rw [decide_eq_true aA]; rfl)
    · intro nx
      simp only [fldA_ptr,Nat.zero_add,x13,x14,x15,r16,r17,gx,gy,ti0,ti1,ti2,ti4,decide_eq_false a9,decide_eq_false a16,decide_eq_true a12,decide_eq_false aA,core]
      exact nx _ (by rw [decide_eq_false aA]; rfl)
  · rw [if_neg a12]
    intro nx
    simp only [fldA_ptr,Nat.zero_add,x13,x14,x15,r16,r17,gx,gy,ti0,ti1,ti2,ti4,decide_eq_false a9,decide_eq_false a16,decide_eq_false a12,core]
    exact nx _ rfl
theorem L69s:∀ (c k:Nat)(H:Heap),i - k = c → k ≤ i → D3 t i x H →
    L69_54 [.ptr 0 0,.ptr 1 0,.ptr 2 0,B (grows (iT t) L),B (lastV (iT t) x (frm (iT t) L i) k),I i,I k] [] H = some ([B (lastV (iT t) x (frm (iT t) L i) i)],[]) := by
  have hi:i < (iT t).length := getElem?_lt hx
  intro c
  induction c with
  | zero =>
    intro k H hc hk hD
    have:k = i := by omega
    subst this
    rw [L69_54_B]
    simp only [Int.lt_irrefl,leave0_B,core]
  | succ c ih =>
    intro k H hc hk hD
    have hki:k < i := by omega
    have hlt:(k:Int) < i := by omega
    have hj:k < (iT t).length := by omega
    have w := wrapN (show k < 2 ^ 63 - 1 by omega)
    have nx:∀ (b:Bool) (H':Heap),D3 t i x H' → b = lastV (iT t) x (frm (iT t) L i) (k + 1) → L69_75 [.ptr 0 0,.ptr 1 0,.ptr 2 0,B (grows (iT t) L),B b,I i,I k] [] H' = some ([B (lastV (iT t) x (frm (iT t) L i) i)],[]) := by
      intro b H' hD' hb
      subst hb
      rw [L69_75_eq]
      simp only [w,core]
      exact ih (k + 1) H' (by omega) (by omega) hD'
    have xi:ld false 1 (.ptr 1 0) H = some (I i) := by rw [ld_box hD.h1]; rfl
    have xL:ld false 1 (.ptr 0 2) H = some (I L) := by rw [ld_box hD.h0,← hL]; rfl
    obtain ⟨y,hy⟩:∃ y,(iT t)[k] = y := ⟨_,rfl⟩
    have hy?:(iT t)[k]? = some y := by rw [List.getElem?_eq_getElem hj,hy]
    by_cases cf:k < frm (iT t) L i
    · have hg:L ≤ i ∧ grows (iT t) L = true := by
        unfold frm at cf
        split at cf
        · assumption
        · omega
      have hkL:(k:Int) < L := by rw [frm,if_pos hg] at cf; omega
      have hiL:(L:Int) ≤ i := by omega
      have this := nx false H hD (lastV_low (k + 1) (by omega)).symm
      rw [L69_54_B,lastV_low k (by omega)]
      generalize lastV (iT t) x (frm (iT t) L i) i = r at this ⊢
      rw [hg.2] at this ⊢
      simp only [hlt,xi,xL,fldA_ptr,Nat.zero_add,hiL,hkL,core]
      exact this
    · have hstep:lastV (iT t) x (frm (iT t) L i) (k + 1) = (shv x k y).getD (lastV (iT t) x (frm (iT t) L i) k) := by
        rw [lastV,if_neg cf,hy?]
        simp only
        cases shv x k y <;> rfl
      have hB := B69_eq hx hn hL hl (g := grows (iT t) L) (b0 := lastV (iT t) x (frm (iT t) L i) k) hki hD hy? (fun b hb => nx b _ (hD.push _) (by rw [hstep]; exact hb))
      have hsk:grows (iT t) L = true → (L:Int) ≤ i → ¬ (k:Int) < L := fun hg hiL hkL => cf (by rw [frm,if_pos ⟨by omega,hg⟩]; omega)
      rw [L69_54_B]
      generalize lastV (iT t) x (frm (iT t) L i) i = r at hB ⊢
      cases hgr:grows (iT t) L with
      | false =>
        rw [hgr] at hB
        simp only [hlt,hB,core]
      | true =>
        rw [hgr] at hB
        by_cases hiL:(L:Int) ≤ i
        · have := hsk hgr hiL
          simp only [hlt,xi,xL,fldA_ptr,Nat.zero_add,hiL,this,hB,core]
        · simp only [hlt,xi,xL,fldA_ptr,Nat.zero_add,hiL,hB,core]
theorem L69e (hA:∀ j,j < (vals x.1).toNat → 0 ≤ argI x j ∧ argI x j < i){kd:Int}(hkd:kd ≤ 6):L69_17 [.ptr 0 0,.ptr 1 0,.ptr 2 0,B (tw (iT t) i x),I kd] [] (Hd t i x) = some ([B (sd (iT t) L kd i x)],[]) := by
  have hi:i < (iT t).length := getElem?_lt hx
  have hD:D3 t i x (Hd t i x) := ⟨rfl,rfl,rfl⟩
  have gx:∀ j,ld false 1 (.ptr 2 j) (Hd t i x) = ((enc_TIns x)[j]?).map .p := fun j => ldBx hD.h2 1 j
  have g0:∀ j,ld false 1 (.ptr 0 j) (Hd t i x) = ((enc_TTrace t)[j]?).map .p := fun j => ldBx hD.h0 1 j
  have e2:(enc_TTrace t)[2]? = some (Ia L) := by rw [← hL]; rfl
  obtain ⟨nl',tg',c54⟩ := cutR_lo (iT t) (nl := t.2.2.2.1.1) (tg := false) hl (Hd t i x)
  rw [L69_17_eq,sd]
  by_cases c4:x.1 = 4
  · rw [if_pos c4]
    simp only [fldA_ptr,Nat.zero_add,gx,ti0,ti4,decide_eq_true c4,leave0_B,core]
  rw [if_neg c4]
  by_cases c5:x.1 = 5
  · rw [if_pos c5,trF_doc hkd]
    cases tw (iT t) i x with
    | true => simp only [fldA_ptr,Nat.zero_add,gx,ti0,ti4,decide_eq_false c4,decide_eq_true c5,Bool.true_or,leave0_B,core]
    | false =>
      by_cases k0:kd = 0
      · by_cases n0:x.2.2.2.2.1 = 0
        · simp only [fldA_ptr,Nat.zero_add,gx,ti0,ti4,decide_eq_false c4,decide_eq_true c5,decide_eq_true k0,decide_eq_true n0,Bool.false_or,Bool.true_or,Bool.true_and,leave0_B,core]
        · have k2:¬ 2 ≤ kd := by omega
          simp only [fldA_ptr,Nat.zero_add,gx,ti0,ti4,decide_eq_false c4,decide_eq_true c5,decide_eq_true k0,decide_eq_false n0,decide_eq_false k2,Bool.false_or,Bool.true_and,Bool.false_and,leave0_B,core]
      · by_cases k2:2 ≤ kd
        · simp only [fldA_ptr,Nat.zero_add,gx,ti0,ti4,decide_eq_false c4,decide_eq_true c5,decide_eq_false k0,decide_eq_true k2,Bool.false_or,Bool.true_and,Bool.false_and,leave0_B,core]
        · simp only [fldA_ptr,Nat.zero_add,gx,ti0,ti4,decide_eq_false c4,decide_eq_true c5,decide_eq_false k0,decide_eq_false k2,Bool.false_or,Bool.false_and,leave0_B,core]
  rw [if_neg c5]
  by_cases c6:x.1 = 6
  · rw [if_pos (.inl c6)]
    simp only [fldA_ptr,Nat.zero_add,gx,ti0,decide_eq_false c4,decide_eq_false c5,decide_eq_true c6,leave0_B,core]
  by_cases c19:x.1 = 19
  · rw [if_pos (.inr c19)]
    simp only [fldA_ptr,Nat.zero_add,gx,ti0,decide_eq_false c4,decide_eq_false c5,decide_eq_false c6,decide_eq_true c19,leave0_B,core]
  rw [if_neg (fun h => by omega)]
  by_cases c9:x.1 = 9
  · rw [if_pos c9]
    by_cases n1:x.2.2.2.2.1 = 1
    · rw [if_pos n1]
      obtain ⟨H',k1,k2⟩ := L69g hx hn hL hl (nl := nl') (tg := tg') ((iT t).drop L).length 0 false (Hd t i x) rfl (Nat.zero_le _) hD
      have k3 := L69s hx hn hL hl i 0 H' rfl (Nat.zero_le _) k1
      simp only [fldA_ptr,Nat.zero_add,gx,g0,ti0,ti4,tr3,e2,decide_eq_false c4,decide_eq_false c5,decide_eq_false c6,decide_eq_false c19,decide_eq_true c9,decide_eq_true n1,c54,core]
      refine k2.trans ?_
      rw [List.drop_zero,Bool.false_or]
      exact k3
    · rw [if_neg n1]
      have hv:(vals x.1).toNat = 1 := by rw [c9]; rfl
      obtain ⟨a0,a1⟩ := hA 0 (by omega)
      have a0':0 ≤ x.2.1 := a0
      have a1':x.2.1 < i := a1
      obtain ⟨j,hj⟩:∃ j:Nat,x.2.1 = j := ⟨x.2.1.toNat,by omega⟩
      have hjl:j < (iT t).length := by omega
      obtain ⟨y,hy⟩:∃ y,(iT t)[j] = y := ⟨_,rfl⟩
      rw [show x.2.1.toNat = j by omega,show (iT t)[j]? = some y by rw [List.getElem?_eq_getElem hjl,hy]]
      have x34 := idxR (enc := enc_TIns) (k := 8) (nl := t.2.2.2.1.1) (tg := false) hjl
      have x35:∀ f,f < 8 → ld false 1 (.fp ((iT t).flatMap enc_TIns) (j * 8 + f)) (Hd t i x) = ((enc_TIns y)[f]?).map .p := fun f hf => by rw [fldR len_TIns8 hjl hf,hy]
      have x350 := x35 0 (by decide)
      have x354 := x35 4 (by decide)
      rw [Nat.add_zero] at x350
      simp only
      cases tw (iT t) i x with
      | true => simp only [fldA_ptr,Nat.zero_add,gx,ti0,ti4,decide_eq_false c4,decide_eq_false c5,decide_eq_false c6,decide_eq_false c19,decide_eq_true c9,decide_eq_false n1,Bool.true_or,leave0_B,core]
      | false =>
        by_cases y16:y.1 = 16
        · simp only [fldA_ptr,fldA_fp,Nat.zero_add,Nat.add_zero,gx,g0,tr3,ti0,ti1,ti4,hj,x34,x350,x354,decide_eq_false c4,decide_eq_false c5,decide_eq_false c6,decide_eq_false c19,decide_eq_true c9,decide_eq_false n1,decide_eq_true y16,Bool.false_or,Bool.true_and,leave0_B,core]
        · simp only [fldA_ptr,fldA_fp,Nat.zero_add,Nat.add_zero,gx,g0,tr3,ti0,ti1,ti4,hj,x34,x350,x354,decide_eq_false c4,decide_eq_false c5,decide_eq_false c6,decide_eq_false c19,decide_eq_true c9,decide_eq_false n1,decide_eq_false y16,Bool.false_or,Bool.false_and,leave0_B,core]
  · rw [if_neg c9]
    simp only [fldA_ptr,Nat.zero_add,gx,ti0,decide_eq_false c4,decide_eq_false c5,decide_eq_false c6,decide_eq_false c19,decide_eq_false c9,leave0_B,core]
theorem sd_kd (kd kd':Int)(h:vals x.1 ≤ 0):sd (iT t) L kd i x = sd (iT t) L kd' i x := by
  have n4:¬ x.1 = 4 := fun e => by rw [e] at h; exact absurd h (by decide)
  have n5:¬ x.1 = 5 := fun e => by rw [e] at h; exact absurd h (by decide)
  simp only [sd,n4,n5,if_false]
theorem call69 (ht:TOk t)(hk:∀ x ∈ t.2.2.2.1.2,x.1 = 2 → 0 ≤ x.2.2.2.2.2.2.1)(hK:Kinds (iT t))(hA:∀ j,j < (vals x.1).toNat → 0 ≤ argI x j ∧ argI x j < i)(lo:List Nat)(H:Heap) :
    callA cfg O 69 [trV t,I i] lo H = some (B (sd (iT t) L (kN (iT t) i x.2.1 i) i x),H) := by
  refine callA_args (H' := []) (rs := [B _]) rfl (pureArgsC (pureAgg _ _) (pureArgs1 (pureP _ _))) ?_ rfl
  have hi:i < (iT t).length := getElem?_lt hx
  have hxi:(iT t)[i] = x := by rw [List.getElem?_eq_getElem hi] at hx; exact Option.some.inj hx
  have hD:D3 t i x (Hd t i x) := ⟨rfl,rfl,rfl⟩
  have r2:boxO [] (AV.cells (I i)) [.box ((enc_TTrace t).map .p)] = some (.ptr 1 0,[.box ((enc_TTrace t).map .p),.box [I i]]) := boxO_p [Ia i] [_]
  have g0:∀ (o:AObj) j,ld false 1 (.ptr 0 j) [.box ((enc_TTrace t).map .p),o] = ((enc_TTrace t)[j]?).map .p := fun o j => ldB02 _ _ _ _
  have x5:∀ o:AObj,ld false 1 (.ptr 1 0) [o,.box [I i]] = some (I i) := fun o => rfl
  have x6 := idxR (enc := enc_TIns) (k := 8) (nl := t.2.2.2.1.1) (tg := false) hi
  have x7:∀ H,ld true 8 (.fp ((iT t).flatMap enc_TIns) (i * 8)) H = some (tiV x) := fun H => by rw [ldR len_TIns8 hi,hxi]
  have r8 := box8 [.box ((enc_TTrace t).map .p),.box [I i]]
  have r9 := st8 x [] [.box ((enc_TTrace t).map .p),.box [I i]]
  simp only [List.length_cons,List.length_nil,Nat.zero_add,Nat.reduceAdd,List.cons_append,List.nil_append] at r8 r9
  have r9':stA 8 (.ptr 2 0) (tiV x) [] [.box ((enc_TTrace t).map .p),.box [I i],.box ([Ia 0,Ia 0,Ia 0,Ia 0,Ia 0,Ia 0,Ia 0,Ia 0].map .p)] = some (Hd t i x) := r9
  have c10 := call117 hx hn hD []
  have gx:∀ j,ld false 1 (.ptr 2 j) (Hd t i x) = ((enc_TIns x)[j]?).map .p := fun j => ldBx hD.h2 1 j
  have gT:ld true 13 (.ptr 0 0) (Hd t i x) = some (trV t) := ldT13 hD.h0
  have gi:ld false 1 (.ptr 1 0) (Hd t i x) = some (I i) := rfl
  have c41 := call41 x.1 [] (Hd t i x)
  have c23 := call23 t ht hk i x.2.1 i (Int.le_refl _) [] (Hd t i x)
  rw [f69_eq]
  by_cases hv:0 < vals x.1
  · have fin := L69e hx hn hL hl hA (kN_le hK i x.2.1 i)
    simp only [boxAgg0,r2,g0,tr3,fldA_ptr,Nat.zero_add,x5,x6,x7,r8,r9',c10,gx,ti0,ti1,c41,hv,gT,gi,c23,core]
    exact fin
  · have fin := L69e hx hn hL hl hA (kd := -1) (by decide)
    rw [sd_kd hx hn hL hl (-1) (kN (iT t) i x.2.1 i) (by omega)] at fin
    simp only [boxAgg0,r2,g0,tr3,fldA_ptr,Nat.zero_add,x5,x6,x7,r8,r9',c10,gx,ti0,c41,hv,core]
    exact fin
end
end Ir
end Go.Proofs.YtnjfpnoamgipjaaDoor
set_option linter.unusedVariables false
set_option linter.unusedSimpArgs false
set_option linter.unusedSectionVars false
set_option maxRecDepth 100000
namespace Go.Proofs.YtnjfpnoamgipjaaDoor
open Go Go.AM
namespace Ir
variable {t:A_TTrace}
def Qv (ins:List A_TIns)(v:Int):Prop := 0 ≤ v ∧ v < ins.length ∧ ∃ y,ins[v.toNat]? = some y ∧ tells y.1 = true
structure QX (Q:Int → Prop)(x:ExD):Prop where
  sets:∀ s ∈ x.sets,Q s.2
  cells:∀ m ∈ x.makes,Q m.cell
  vals:∀ m ∈ x.makes,∀ v ∈ m.vals,Q v
theorem valR_Q {ins:List A_TIns}{v at':Int}(h:valR ins v at' = true):Qv ins v := by
  simp only [valR,Bool.and_eq_true,decide_eq_true_eq] at h
  obtain ⟨⟨⟨h1,_⟩,h3⟩,h4⟩ := h
  refine ⟨h1,h3,?_⟩
  split at h4
  · rename_i y hy; exact ⟨y,hy,h4⟩
  · cases h4
theorem setsR_Q {ins:List A_TIns}{regs at':Int}:∀ (l:List A_TSet)(q:Option Int),setsR ins regs at' q l = true → ∀ s ∈ l,Qv ins s.2
  | [],_,_,s,hs => by cases hs
  | s0 :: r,q,h,s,hs => by
    simp only [setsR,set1,Bool.and_eq_true] at h
    rcases List.mem_cons.mp hs with e | e
    · subst e; exact valR_Q h.1.1.2
    · exact setsR_Q r _ h.2 s e
theorem makesR_Q {ins:List A_TIns}{at':Int}:∀ (l:List A_TMake)(q:Option Int),makesR ins at' q l = true → ∀ m ∈ l,Qv ins m.1 ∧ ∀ v ∈ m.2.2.2.2,Qv ins v
  | [],_,_,m,hm => by cases hm
  | m0 :: r,q,h,m,hm => by
    simp only [makesR,make1,Bool.and_eq_true,List.all_eq_true] at h
    rcases List.mem_cons.mp hm with e | e
    · subst e; exact ⟨valR_Q h.1.1.1.1.1.1.1.1,fun v hv => valR_Q (h.1.2 v hv)⟩
    · exact makesR_Q r _ h.2 m e
theorem exitR_Q {ins:List A_TIns}{regs clen at':Int}{x:A_TExit}(h:exitR ins regs clen at' x = true):QX (Qv ins) (exD x) := by
  simp only [exitR,Bool.and_eq_true] at h
  obtain ⟨⟨_,hs⟩,hm⟩ := h
  refine ⟨setsR_Q _ _ hs,fun m hm' => ?_,fun m hm' => ?_⟩
  · obtain ⟨m0,h0,rfl⟩ := List.mem_map.mp hm'
    exact (makesR_Q _ _ hm m0 h0).1
  · obtain ⟨m0,h0,rfl⟩ := List.mem_map.mp hm'
    exact (makesR_Q _ _ hm m0 h0).2
theorem noExit_Q {x:A_TExit}{Q:Int → Prop}(h:noExit x = true):QX Q (exD x) := by
  simp only [noExit,Bool.and_eq_true,decide_eq_true_eq] at h
  have h1:(exD x).sets = [] := List.length_eq_zero_iff.mp h.1.2
  have h2:(exD x).makes = [] := by
    rw [show (exD x).makes = x.2.2.2.2.map mkD from rfl,List.length_eq_zero_iff.mp h.2]; rfl
  exact ⟨fun s hs => (by rw [h1] at hs; cases hs),fun m hm => (by rw [h2] at hm; cases hm),fun m hm => (by rw [h2] at hm; cases hm)⟩
theorem formR_tail {ins:List A_TIns}{exits:List A_TExit}{regs clen at':Int}{x:A_TIns}(h:formR ins exits regs clen at' x = true):numR x regs = true ∧ kOk x = true := by
  unfold formR at h
  repeat' split at h
  all_goals first | (cases h; done) | (simp only [tailR,Bool.and_eq_true] at h; exact h.1)
theorem rightR_le {v:A_Val}(h:rightR v = true):v.1 ≤ 6 := by
  refine Classical.byContradiction fun hn => ?_
  have h0:¬ v.1 = 0 := by omega
  have h1:¬ v.1 = 1 := by omega
  have h2:¬ v.1 = 2 := by omega
  have h3:¬ v.1 = 3 := by omega
  have h4:¬ v.1 = 4 := by omega
  have h5:¬ v.1 = 5 := by omega
  have h6:¬ v.1 = 6 := by omega
  simp only [rightR,h0,h1,h2,h3,h4,h5,h6,or_self,if_false] at h
  cases h
structure May3 (t:A_TTrace):Prop extends May2 t where
  loop:0 ≤ t.2.2.1 ∧ t.2.2.1 ≤ (iT t).length
  kinds:Kinds (iT t)
  kind0:∀ x ∈ t.2.2.2.1.2,x.1 = 2 → 0 ≤ x.2.2.2.2.2.2.1
  asksQ:∀ (i:Nat) x,(iT t)[i]? = some x → ∀ j,j < (vals x.1).toNat → Qv (iT t) (argI x j)
  exitsQ:∀ x ∈ (trD t).exits,QX (Qv (iT t)) x
  turnQ:QX (Qv (iT t)) (trD t).turn
  backQ:QX (Qv (iT t)) (trD t).back
theorem may3_of {p:A_Prog}{t:A_TTrace}(h:chkR p t = 0)(hr:∀ g ∈ p.1.2,g.2.1 ≤ 60):May3 t := by
  refine { may2_of h hr with loop := ?_,kinds := ?_,kind0 := chk_kinds h,asksQ := ?_,exitsQ := ?_,turnQ := ?_,backQ := ?_ }
  all_goals
    unfold chkR at h
    split at h
    · cases h
    split at h
    · cases h
    split at h
    · cases h
    rename_i hlim
    obtain ⟨he,hform⟩ := insE_form _ _ h
    unfold endE at he
    split at he
    case isFalse => cases he
    rename_i hE
    simp only [Bool.and_eq_true,List.all_eq_true] at hE
    obtain ⟨⟨⟨_,hb⟩,ht⟩,hx⟩ := hE
  · show 0 ≤ t.2.2.1 ∧ t.2.2.1 ≤ (t.2.2.2.1.2.length:Int)
    omega
  · intro y hy
    obtain ⟨i,hi⟩ := List.mem_iff_getElem?.mp hy
    obtain ⟨h1,h2⟩ := formR_tail (hform i y hi)
    refine ⟨fun h26 => ?_,fun h4 => ?_⟩
    · rw [kOk,if_pos h26,Bool.and_eq_true] at h2
      exact rightR_le h2.1
    · rw [numR,h4] at h1
      exact (wi_iff.mp h1).2
  · intro i x hx' j hj
    exact valR_Q (formR_ask (hform i x hx') hj)
  · intro x hx'
    obtain ⟨x0,h0,rfl⟩ := List.mem_map.mp hx'
    exact exitR_Q (hx x0 h0)
  · unfold turnOk at ht
    split at ht
    · rw [Bool.and_eq_true] at ht
      exact exitR_Q ht.2
    · exact noExit_Q ht
  · exact exitR_Q hb
theorem callCk3 {p:A_Prog}{t:A_TTrace}(hp:POk2 p)(ht:TOk t):∃ e:Int,(e = 0 → May3 t) ∧ ∀ lo H,callA cfg O 19 [pgV p,trV t] lo H = some (I e,H) := by
  obtain ⟨e,h1,h2⟩ := callChk p hp
  refine ⟨_,fun he => ?_,call19 ht h2 (fun h => (h1 h).2)⟩
  split at he
  · rename_i h0
    exact may3_of he fun g hg => ((h1 h0).2 g hg).2
  · rename_i h0; exact (h0 he).elim
theorem cut_okQ {t:TrD}{to:List Int}{Q:Int → Prop}(hv:∀ v:Int,Q v → okV (plT t to) v = true)(hA:∀ (i:Nat) x,t.ins[i]? = some x → ∀ j,j < (vals x.1).toNat → Q (argI x j))(hx:∀ x ∈ t.exits,QX Q x)(ht:QX Q t.turn)(hb:QX Q t.back):cutOk t to = true := by
  have hX:∀ x,QX Q x → okX (plT t to) x = true := by
    intro x h
    simp only [okX,okM,Bool.and_eq_true,List.all_eq_true]
    exact ⟨fun s hs => hv _ (h.sets s hs),fun m hm => ⟨hv _ (h.cells m hm),fun v hv' => hv _ (h.vals m hm v hv')⟩⟩
  have hL : ∀ i, i ≤ t.ins.length → okL (plT t to) to t.ins i = true := by
    intro i
    induction i with
    | zero => intro _; rfl
    | succ i ih =>
      intro hi
      have hx?:t.ins[i]? = some t.ins[i] := List.getElem?_eq_getElem (by omega)
      rw [okL,ih (by omega),hx?]
      have:okI (plT t to) t.ins[i] = true := by
        unfold okI
        have go:∀ k,k ≤ (vals t.ins[i].1).toNat → okK (plT t to) t.ins[i] k = true := by
          intro k
          induction k with
          | zero => intro _; rfl
          | succ k ihk =>
            intro hk
            rw [okK,ihk (by omega),hv _ (hA i _ hx? k (by omega))]; rfl
        exact go _ (Nat.le_refl _)
      simp [this]
  simp only [cutOk,Bool.and_eq_true,List.all_eq_true]
  exact ⟨⟨⟨hL _ (Nat.le_refl _),fun x h => hX x (hx x h)⟩,hX _ ht⟩,hX _ hb⟩
def sdv (t:A_TTrace)(i:Nat):Bool := match (iT t)[i]? with | some x => sd (iT t) t.2.2.1.toNat (kN (iT t) i x.2.1 i) i x | none => false
def fV (t:A_TTrace)(i:Nat):Int := if sdv t i = true then -1 else i
def fT (t:A_TTrace)(n:Nat):List Int := (List.range n).map (fV t)
theorem fT_len (n:Nat):(fT t n).length = n := by simp [fT]
theorem fT_succ (n:Nat):fT t (n + 1) = fT t n ++ [fV t n] := by simp [fT,List.range_succ]
theorem fT_get {n i:Nat}{v:Int}(h:(fT t n)[i]? = some v):v = fV t i := by
  unfold fT at h
  rw [List.getElem?_map] at h
  obtain ⟨a,h1,h2⟩ := Option.map_eq_some_iff.mp h
  rw [List.getElem?_range (by have := getElem?_lt h1; simpa using this)] at h1
  cases h1
  exact h2.symm
theorem sd_tells {ins:List A_TIns}{L:Nat}{kd:Int}{i:Nat}{x:A_TIns}(h:tells x.1 = true):sd ins L kd i x = false := by
  simp only [tells,hs,decide_eq_true_eq,List.mem_cons,List.not_mem_nil,or_false] at h
  have n4:¬ x.1 = 4 := by omega
  have n5:¬ x.1 = 5 := by omega
  have n6:¬ (x.1 = 6 ∨ x.1 = 19) := by omega
  have n9:¬ x.1 = 9 := by omega
  simp only [sd,n4,n5,n6,n9,if_false]
theorem fT_ok:okTo (fT t (iT t).length) := fun i v h => by
  have := fT_get h
  unfold fV at this
  split at this <;> omega
theorem facts_ok (hM:May3 t):cutOk (T t) (fT t (iT t).length) = true := by
  refine cut_okQ (Q := Qv (iT t)) (fun v hv => ?_) hM.asksQ hM.exitsQ hM.turnQ hM.backQ
  obtain ⟨h0,h1,y,hy,ht⟩ := hv
  have hs:sdv t v.toNat = false := by
    unfold sdv
    rw [hy]
    exact sd_tells ht
  have hto:(fT t (iT t).length)[v.toNat]? = some ((v.toNat:Nat):Int) := by
    have hl:v.toNat < (fT t (iT t).length).length := by rw [fT_len]; omega
    have e := List.getElem?_eq_getElem hl
    rw [e,fT_get e,fV,hs]; rfl
  have := on_keep (to := fT t (iT t).length) (n := (T t).ins.length) (v := v.toNat) (by show v.toNat < (iT t).length; omega) hto
  rw [show ((v.toNat:Nat):Int) = v by omega] at this
  refine decide_eq_true ?_
  show 0 ≤ on (atN (fT t (iT t).length) (T t).ins.length) v
  rw [this]; omega
section
variable (ht:TOk t) (hM:May3 t)
include ht hM
theorem fbase:(iT t).length < 2 ^ 30 ∧ t.2.2.1 = (t.2.2.1.toNat:Nat) ∧ t.2.2.1.toNat ≤ (iT t).length := by
  have h1:(iT t).length < 2 ^ 30 := hM.small.ins
  have h2 := hM.loop
  omega
theorem fc68 {i:Nat}(hi:i < (iT t).length)(lo:List Nat)(H:Heap):callA cfg O 68 [trV t,I i] lo H = some (B (sdv t i),H) ∧ callA cfg O 69 [trV t,I i] lo H = some (B (sdv t i),H) := by
  obtain ⟨hn,hL,hl⟩ := fbase ht hM
  have hx:(iT t)[i]? = some (iT t)[i] := List.getElem?_eq_getElem hi
  have hA := fun j hj => hM.asks i _ hx j hj
  have e1 := call68 hx hn hL hl ht hA lo H
  have e2 := call69 hx hn hL hl ht hM.kind0 hM.kinds hA lo H
  unfold sdv
  rw [hx]
  exact ⟨e1,e2⟩
def curF (t:A_TTrace)(i:Nat)(z:Nat → Int):List Int := fT t i ++ (List.range' i ((iT t).length - i)).map z
omit ht hM in
theorem curF_len {i:Nat}{z:Nat → Int}(h:i ≤ (iT t).length):(curF t i z).length = (iT t).length := by
  rw [curF,List.length_append,fT_len,List.length_map,List.length_range']; omega
omit ht hM in
theorem curF_set {i:Nat}{z:Nat → Int}(h:i < (iT t).length):(curF t i z).set i (fV t i) = curF t (i + 1) z := by
  rw [curF,List.set_append_right _ _ (by rw [fT_len]; exact Nat.le_refl _),fT_len,Nat.sub_self,show (iT t).length - i = ((iT t).length - (i + 1)) + 1 by omega,List.range'_succ,List.map_cons,List.set_cons_zero,curF,fT_succ]
  simp
omit ht hM in
theorem curF_all {z:Nat → Int}:curF t (iT t).length z = fT t (iT t).length := by
  rw [curF,Nat.sub_self]; simp
abbrev fxF (t:A_TTrace)(a b:Nat):List (Nat × AObj) := [(a,.box ((enc_TTrace t).map .p)),(b,.box (z13.map .p))]
theorem G32 {i g:Nat}{H:Heap}(hC:Cx H (fxF t 1 2) [(.row 3 g 0 (iT t).length,1,(iT t).length,(curF t i (fun _ => 0)).map Ia)])(hi:i < (iT t).length) :
    ∃ H',Cx H' (fxF t 1 2) [(.row 3 g 0 (iT t).length,1,(iT t).length,(curF t (i + 1) (fun _ => 0)).map Ia)] ∧
      L32_14 [.ptr 1 0,.ptr 2 0,.row 3 g 0 (iT t).length,I (iT t).length,I i] [] H = L32_14 [.ptr 1 0,.ptr 2 0,.row 3 g 0 (iT t).length,I (iT t).length,I ((i + 1:Nat):Int)] [] H' := by
  obtain ⟨hn,hL,hl⟩ := fbase ht hM
  have hlt:(i:Int) < (iT t).length := by omega
  have x2:idxA 1 (.row 3 g 0 (iT t).length) (I i) = some (.rptr 3 g i) := by
    simp only [idxA]
    rw [if_pos ⟨by omega,hlt⟩]
    simp
  have w := wrapN (show i < 2 ^ 63 - 1 by omega)
  obtain ⟨H1,s3,hC1,l1⟩ := Cx.setAt hC (curF_len (by omega)) hi (i:Int) []
  have ht1 := hC1.at (id := 1) (o := .box ((enc_TTrace t).map .p)) (by simp)
  have x4:ld true 13 (.ptr 1 0) H1 = some (trV t) := ldT13 ht1
  have c68 := (fc68 ht hM hi [] H1).1
  cases hs:sdv t i with
  | true =>
    rw [hs] at c68
    obtain ⟨H2,s7,hC2,l2⟩ := Cx.setAt hC1 (by rw [List.length_set]; exact curF_len (by omega)) hi (-1:Int) []
    refine ⟨H2,?_,?_⟩
    · rw [← curF_set hi,fV,hs]
      rw [List.set_set] at hC2
      exact hC2
    · rw [L32_14_eq]
      simp only [hlt,x2,s3,x4,c68,s7,core]
      rw [L32_25_eq]
      simp only [w,core]
  | false =>
    rw [hs] at c68
    refine ⟨H1,?_,?_⟩
    · rw [← curF_set hi,fV,hs]
      exact hC1
    · rw [L32_14_eq]
      simp only [hlt,x2,s3,x4,c68,core]
      rw [L32_25_eq]
      simp only [w,core]
theorem G33 {i:Nat}{H:Heap}{th:AV}(hcan:Can th (iT t).length)(hC:Cx H (fxF t 0 1) [(th,1,(iT t).length,(curF t i (fun j => (j:Int))).map Ia)])(hi:i < (iT t).length) :
    ∃ H',Cx H' (fxF t 0 1) [(th,1,(iT t).length,(curF t (i + 1) (fun j => (j:Int))).map Ia)] ∧
      L33_8 [.ptr 0 0,.ptr 1 0,th,I (iT t).length,I i] [] H = L33_8 [.ptr 0 0,.ptr 1 0,th,I (iT t).length,I ((i + 1:Nat):Int)] [] H' := by
  obtain ⟨hn,hL,hl⟩ := fbase ht hM
  have hlt:(i:Int) < (iT t).length := by omega
  obtain ⟨_,id,g,rfl⟩:0 < (iT t).length ∧ ∃ id g,th = .row id g 0 (iT t).length := by
    rcases hcan with ⟨e,_⟩ | h
    · omega
    · exact h
  have w := wrapN (show i < 2 ^ 63 - 1 by omega)
  have ht1 := hC.at (id := 0) (o := .box ((enc_TTrace t).map .p)) (by simp)
  have x2:ld true 13 (.ptr 0 0) H = some (trV t) := ldT13 ht1
  have c69 := (fc68 ht hM hi [] H).2
  have x4:idxA 1 (.row id g 0 (iT t).length) (I i) = some (.rptr id g i) := by
    simp only [idxA]
    rw [if_pos ⟨by omega,hlt⟩]
    simp
  cases hs:sdv t i with
  | true =>
    rw [hs] at c69
    obtain ⟨H2,s7,hC2,l2⟩ := Cx.setAt hC (curF_len (by omega)) hi (-1:Int) []
    refine ⟨H2,?_,?_⟩
    · rw [← curF_set hi,fV,hs]
      exact hC2
    · rw [L33_8_eq]
      simp only [hlt,x2,c69,x4,s7,core]
      rw [L33_17_eq]
      simp only [w,core]
  | false =>
    rw [hs] at c69
    refine ⟨H,?_,?_⟩
    · rw [← curF_set hi,fV,hs]
      have:(curF t i (fun j => (j:Int))).set i (if false = true then -1 else (i:Int)) = curF t i (fun j => (j:Int)) := by
        refine set_same ?_
        rw [curF,List.getElem?_append_right (by rw [fT_len]; exact Nat.le_refl _),fT_len,Nat.sub_self,List.getElem?_map,List.getElem?_range' (by omega)]
        simp
      rw [this]
      exact hC
    · rw [L33_8_eq]
      simp only [hlt,x2,c69,core]
      rw [L33_17_eq]
      simp only [w,core]
theorem ent33:O.ent 33 [trV t] [] [] = some ([aG (eTc (cutC (T t) (fT t (iT t).length)))],[]) := by
  obtain ⟨hn,hL,hl⟩ := fbase ht hM
  have htr := trV_eq t
  obtain ⟨H2,hH2⟩:∃ H2:Heap,H2 = [.box ((enc_TTrace t).map .p),.box (z13.map .p)] := ⟨_,rfl⟩
  have r2:boxO [] [(I 0),(I 0),(I 0),(.p nilS),(.p nilS),(I 0),(I 0),(.p nilS),(.p nilS),(I 0),(I 0),(.p nilS),(.p nilS)] [.box ((enc_TTrace t).map .p)] = some (.ptr 1 0,H2) := by rw [hH2]; exact boxO_p z13 [_]
  have hC0:Cx H2 (fxF t 0 1) [] := by
    rw [hH2]
    refine ⟨fun q hq => ?_,fun q hq => (by cases hq),.nil⟩
    simp only [List.mem_cons,List.not_mem_nil,or_false] at hq
    rcases hq with h | h <;> subst h <;> exact ⟨rfl,rfl⟩
  have x3:ld true 13 (.ptr 0 0) H2 = some (trV t) := ldT13 (hC0.at (id := 0) (o := .box ((enc_TTrace t).map .p)) (by simp))
  obtain ⟨H3,th,e65,hC3,hcan⟩:∃ H3 th,callA cfg O 65 [trV t] [] H2 = some (th,H3) ∧ Cx H3 (fxF t 0 1) [(th,1,(iT t).length,(idL (iT t).length).map Ia)] ∧ Can th (iT t).length := by
    have hC1 := ((hC0.newBox ((enc_TTrace t).map .p)).bt).newNil 1
    obtain ⟨H',th',k1,k2,k3⟩ := L65 hn (iT t).length 0 (H2 ++ [.box ((enc_TTrace t).map .p)]) (.p nilS) rfl (Nat.zero_le _) hC1 Can.nil
    refine ⟨H',th',callA_keep (rs := [th']) rfl ?_,k2,k3⟩
    have b1:boxO [] (AV.cells (trV t)) H2 = some (.ptr H2.length 0,H2 ++ [.box ((enc_TTrace t).map .p)]) := boxAgg _ H2
    have g:ld false 1 (.ptr H2.length 3) (H2 ++ [.box ((enc_TTrace t).map .p)]) = some (RwT t) := by rw [ldB]; rfl
    rw [f65_eq]
    simp only [b1,fldA_ptr,Nat.zero_add,g,lenA_sl,core]
    exact k1
  have run:∀ m,m ≤ (iT t).length → ∃ H',Cx H' (fxF t 0 1) [(th,1,(iT t).length,(curF t m (fun j => (j:Int))).map Ia)] ∧ L33_8 [.ptr 0 0,.ptr 1 0,th,I (iT t).length,I ((0:Nat):Int)] [] H3 = L33_8 [.ptr 0 0,.ptr 1 0,th,I (iT t).length,I (m:Int)] [] H' := by
    intro m
    induction m with
    | zero =>
      intro _
      refine ⟨H3,?_,rfl⟩
      have:curF t 0 (fun j => (j:Int)) = idL (iT t).length := by rw [curF,Nat.sub_zero,idL,List.range_eq_range']; rfl
      rw [this]; exact hC3
    | succ m ih =>
      intro hmm
      obtain ⟨H1,k1,k2⟩ := ih (by omega)
      obtain ⟨H2,k3,k4⟩ := G33 ht hM hcan k1 hmm
      exact ⟨H2,k3,k2.trans k4⟩
  obtain ⟨H4,hC4,e4⟩ := run _ (Nat.le_refl _)
  rw [curF_all] at hC4
  have htb := hC3.at (id := 0) (o := .box ((enc_TTrace t).map .p)) (by simp)
  have x6:ld false 1 (.ptr 0 3) H3 = some (RwT t) := by rw [ld_box htb]; rfl
  have ht4 := hC4.at (id := 0) (o := .box ((enc_TTrace t).map .p)) (by simp)
  have hz4 := hC4.at (id := 1) (o := .box (z13.map .p)) (by simp)
  have x9:ld true 13 (.ptr 0 0) H4 = some (trV t) := ldT13 ht4
  have o1 := fT_len (t := t) (iT t).length
  have hl4:Lst 1 th H4 (fT t (iT t).length).length ((fT t (iT t).length).map Ia) := by rw [o1]; exact hC4.hd
  obtain ⟨nl,tg,H5,hf,hk5,hlen5⟩ := frz2L (xs := eTr (T t)) hl4
  have c25 := call25g (t := T t) hM.small o1 fT_ok [] (nl := nl) (tg := tg) hf
  rw [facts_ok hM] at c25
  obtain ⟨cc,hcc⟩:∃ cc,cc = cutC (T t) (fT t (iT t).length) := ⟨_,rfl⟩
  have c25':callA cfg O 25 [trV t,th] [] H4 = some (.tup [aG (eTc cc),B true],H5) := by
    rw [htr,c25,hcc]; rfl
  rw [← hcc]
  have hz5:H5[1]? = some (.box (z13.map .p)) := hk5.2 1 _ hz4 (fun g n e => by
    obtain ⟨_,⟨nl,e',_⟩ | ⟨id',g',e',h1⟩⟩ := hl4
    · rw [e'] at e; cases e
    · rw [e'] at e; cases e; rw [hz4] at h1; cases h1)
  have r13 := box13 H5
  have s14 := st13 cc [] H5
  have x15:ld true 13 (.ptr H5.length 0) (H5 ++ [.box ((eTc cc).map .p)]) = some (aG (eTc cc)) := ldA (by rw [eTc]; rfl) (by decide) H5
  have hz6:(H5 ++ [AObj.box ((eTc cc).map .p)])[1]? = some (.box (z13.map .p)) := push_get? hz5 _
  have s16 := stEx (n0 := 0) (lo := []) (by simp) (Nat.zero_le _) hz6 rfl (ys := (eTc cc).map .p) (n := 13) (by rw [List.length_map,eTc]; rfl) (by decide) (leaves_p _)
  have hz7:((H5 ++ [AObj.box ((eTc cc).map .p)]).set 1 (.box ((eTc cc).map .p)))[1]? = some (.box ((eTc cc).map .p)) := List.getElem?_set_self (getElem?_lt hz6)
  have x18:ld true 13 (.ptr 1 0) ((H5 ++ [AObj.box ((eTc cc).map .p)]).set 1 (.box ((eTc cc).map .p))) = some (aG (eTc cc)) := by rw [ldAgg_box hz7 (by simp [eTc,eTr13]) (by simp [eTc,eTr13])]; rfl
  have lv:∀ H,leave 0 [] [aG (eTc cc)] H = some ([aG (eTc cc)],[]) := by
    intro H
    have h1 := frz_agg (eTc cc) H
    have hl:AV.ltd 0 (aG (eTc cc)) = true := by
      show ((eTc cc).map AV.p).all (AV.lt 0 5) = true
      simp only [List.all_eq_true,List.mem_map]
      rintro _ ⟨x,_,rfl⟩
      rfl
    simp only [leave,frzAll,h1,obs,oms,List.all_cons,List.all_nil,hl,Bool.and_true,if_true]
  rw [f33_eq]
  simp only [boxAgg0,r2,x3,e65,fldA_ptr,Nat.zero_add,x6,lenA_sl,core]
  refine e4.trans ?_
  rw [L33_8_eq]
  simp only [Int.lt_irrefl,x9,c25',r13,s14,x15,s16,x18,lv,core]
end
section
variable {p:A_Prog}
theorem call32 (hp:POk2 p)(ht:TOk t){e:Int}(hm:e = 0 → May3 t)(he:∀ lo H,callA cfg O 19 [pgV p,trV t] lo H = some (I e,H))(lo:List Nat)(H:Heap) :
    callA cfg O 32 [pgV p,trV t] lo H = some (.tup [aG (eTc (if e = 0 then cutC (T t) (fT t (iT t).length) else zeroC)),I e],H) := by
  have key:O.ent 32 [pgV p,trV t] [] [] = some ([aG (eTc (if e = 0 then cutC (T t) (fT t (iT t).length) else zeroC)),I e],[]) := by
    have x3:∀ l:List AObj,ld true 3 (.ptr 0 0) (.box ((enc_Prog p).map .p) :: l) = some (pgV p) := fun l => by rw [ldAgg_box (H := _ :: l) rfl (by simp [len_Prog3]) (by simp [len_Prog3])]; rfl
    have x5:∀ (o0:AObj) (l:List AObj),ld true 13 (.ptr 1 0) (o0 :: .box ((enc_TTrace t).map .p) :: l) = some (trV t) := fun o0 l => ldT13 rfl
    have b3 := box13 [.box ((enc_Prog p).map .p),.box ((enc_TTrace t).map .p)]
    simp only [List.length_cons,List.length_nil,Nat.zero_add,Nat.reduceAdd,List.cons_append,List.nil_append] at b3
    have bu:buildA [(I 0),(I 0),(I 0),(.p nilS),(.p nilS),(I 0),(I 0),(.p nilS),(.p nilS),(I 0),(I 0),(.p nilS),(.p nilS)] [] = some (aG (eTc zeroC)) := rfl
    have l3:∀ (c:TrC) (o0 o1:AObj),ld true 13 (.ptr 2 0) [o0,o1,.box ((eTc c).map .p)] = some (aG (eTc c)) := fun c o0 o1 => ldA (by rw [eTc]; rfl) (by decide) [o0,o1]
    rw [f32_eq]
    by_cases h0:e = 0
    case neg =>
      rw [if_neg h0]
      simp only [boxAgg0,box12,b3,x3,x5,he,decide_eq_false h0,bu,box13',l3,lvC,core]
    have hM := hm h0
    obtain ⟨hn,hL,hl⟩ := fbase ht hM
    rw [if_pos h0]
    have f3:∀ (o0:AObj) (l:List AObj),ld false 1 (.ptr 1 3) (o0 :: .box ((enc_TTrace t).map .p) :: l) = some (RwT t) := fun o0 l => by rw [ld_box (H := o0 :: _ :: l) rfl]; rfl
    have mr:∀ o0 o1 o2:AObj,mkRow 1 8 [(.v (.int .i64 0))] (I (iT t).length) (I (iT t).length) [o0,o1,o2] = some (.row 3 0 0 (iT t).length,[o0,o1,o2,.row 0 1 ((curF t 0 (fun _ => 0)).map Ia)]) := by
      intro o0 o1 o2
      have e1:zerosA (iT t).length [(.v (.int .i64 0))] = (curF t 0 (fun _ => 0)).map Ia := by
        rw [zeros1,curF,Nat.sub_zero]
        show _ = ((List.range' 0 (iT t).length).map fun _ => (0:Int)).map Ia
        rw [List.map_map]
        show _ = (List.range' 0 (iT t).length).map fun _ => Ia 0
        rw [List.map_const',List.length_range']
      simp only [mkRow,asI,obs,Int.toNat_natCast,e1]
      rw [if_pos ⟨by omega,by omega,by unfold room; omega⟩]
      rfl
    have hC0:Cx [.box ((enc_Prog p).map .p),.box ((enc_TTrace t).map .p),.box (z13.map .p),.row 0 1 ((curF t 0 (fun _ => 0)).map Ia)] (fxF t 1 2) [(.row 3 0 0 (iT t).length,1,(iT t).length,(curF t 0 (fun _ => 0)).map Ia)] := by
      refine ⟨fun q hq => ?_,fun q hq => ?_,.cons (fun b hb => (by cases hb)) .nil⟩
      · simp only [List.mem_cons,List.not_mem_nil,or_false] at hq
        rcases hq with h | h <;> subst h <;> exact ⟨rfl,rfl⟩
      · simp only [List.mem_cons,List.not_mem_nil,or_false] at hq
        subst hq
        exact Lst.row (by simp only [List.length_map,Nat.mul_one]; exact curF_len (Nat.zero_le _)) rfl
    have run:∀ m,m ≤ (iT t).length → ∃ H',Cx H' (fxF t 1 2) [(.row 3 0 0 (iT t).length,1,(iT t).length,(curF t m (fun _ => 0)).map Ia)] ∧
        L32_14 [.ptr 1 0,.ptr 2 0,.row 3 0 0 (iT t).length,I (iT t).length,I ((0:Nat):Int)] [] [.box ((enc_Prog p).map .p),.box ((enc_TTrace t).map .p),.box (z13.map .p),.row 0 1 ((curF t 0 (fun _ => 0)).map Ia)] =
        L32_14 [.ptr 1 0,.ptr 2 0,.row 3 0 0 (iT t).length,I (iT t).length,I (m:Int)] [] H' := by
      intro m
      induction m with
      | zero => intro _; exact ⟨_,hC0,rfl⟩
      | succ m ih =>
        intro hmm
        obtain ⟨H1,s1,e1⟩ := ih (by omega)
        obtain ⟨H2,s2,e2⟩ := G32 ht hM s1 hmm
        exact ⟨H2,s2,e1.trans e2⟩
    obtain ⟨H',hC,e'⟩ := run _ (Nat.le_refl _)
    have o1 := fT_len (t := t) (iT t).length
    rw [curF_all] at hC
    have ht1 := hC.at (id := 1) (o := .box ((enc_TTrace t).map .p)) (by simp)
    have hz1 := hC.at (id := 2) (o := .box (z13.map .p)) (by simp)
    have y15:ld true 13 (.ptr 1 0) H' = some (trV t) := ldT13 ht1
    have hl:Lst 1 (.row 3 0 0 (iT t).length) H' (fT t (iT t).length).length ((fT t (iT t).length).map Ia) := by rw [o1]; exact hC.hd
    obtain ⟨nl,tg,H5,hf,hk5,hlen5⟩ := frz2L (xs := eTr (T t)) hl
    have c24 := call24g (t := T t) hM.small hM.ahead o1 fT_ok [] (nl := nl) (tg := tg) hf
    rw [facts_ok hM] at c24
    have c24':callA cfg O 24 [trV t,.row 3 0 0 (iT t).length] [] H' = some (.tup [aG (eTc (cutC (T t) (fT t (iT t).length))),I 0],H5) := by rw [trV_eq t]; exact c24
    have hz5:H5[2]? = some (.box (z13.map .p)) := hk5.2 2 _ hz1 (fun g n e => by cases e)
    have s19 := stEx (n0 := 0) (lo := []) (by simp) (Nat.zero_le _) hz5 rfl (ys := (eTc (cutC (T t) (fT t (iT t).length))).map .p) (n := 13) (by rw [List.length_map,eTc]; rfl) (by decide) (leaves_p _)
    have hz6:(H5.set 2 (.box ((eTc (cutC (T t) (fT t (iT t).length))).map .p)))[2]? = some (.box ((eTc (cutC (T t) (fT t (iT t).length))).map .p)) := List.getElem?_set_self (getElem?_lt hz5)
    have x21:ld true 13 (.ptr 2 0) (H5.set 2 (.box ((eTc (cutC (T t) (fT t (iT t).length))).map .p))) = some (aG (eTc (cutC (T t) (fT t (iT t).length)))) := by rw [ldAgg_box hz6 (by simp [eTc,eTr13]) (by simp [eTc,eTr13])]; rfl
    simp only [boxAgg0,box12,b3,x3,x5,he,decide_eq_true h0,fldA_ptr,Nat.zero_add,f3,lenA_sl,mr,core]
    refine e'.trans ?_
    rw [L32_14_eq,h0]
    simp only [Int.lt_irrefl,y15,c24',s19,x21,lvC,core]
  exact callA_args (rs := [aG (eTc (if e = 0 then cutC (T t) (fT t (iT t).length) else zeroC)),I e]) rfl (pureArgsC (pureAgg _ _) (pureArgs1 (pureAgg _ _))) key (by rw [eTc_eq]; rfl)
theorem ent8 (hp':ok_Prog p)(ht':ok_TTrace t):O.ent 8 [pgV p,trV t] [] [] = some ([B true],[]) := by
  have ht := tok_of ht'
  have hp := pok_of hp'
  obtain ⟨e,hm,he⟩ := callCk3 hp ht
  have c32 := call32 hp ht hm he []
  obtain ⟨c,hc⟩:∃ c,c = if e = 0 then cutC (T t) (fT t (iT t).length) else zeroC := ⟨_,rfl⟩
  rw [← hc] at c32
  have hcS:(kT c).Sm := by
    by_cases h0:e = 0
    · rw [hc,if_pos h0]; exact cut_small (hm h0).small _
    · rw [hc,if_neg h0]; exact zero_small
  have c30 := call30 (g := 33) (c := c) hp ht he rfl (fun h => by rw [hc,if_neg h]) hcS (fun h => by
    rw [ent33 ht (hm h),hc,if_pos h]) []
  have x3:∀ l:List AObj,ld true 3 (.ptr 0 0) (.box ((enc_Prog p).map .p) :: l) = some (pgV p) := fun l => by rw [ldAgg_box (H := _ :: l) rfl (by simp [len_Prog3]) (by simp [len_Prog3])]; rfl
  have x5:∀ (o0:AObj) (l:List AObj),ld true 13 (.ptr 1 0) (o0 :: .box ((enc_TTrace t).map .p) :: l) = some (trV t) := fun o0 l => ldT13 rfl
  have b3 := box13 [.box ((enc_Prog p).map .p),.box ((enc_TTrace t).map .p)]
  simp only [List.length_cons,List.length_nil,Nat.zero_add,Nat.reduceAdd,List.cons_append,List.nil_append] at b3
  have l3:∀ (o0 o1:AObj),ld true 13 (.ptr 2 0) [o0,o1,.box ((eTc c).map .p)] = some (aG (eTc c)) := fun o0 o1 => ldA (by rw [eTc]; rfl) (by decide) [o0,o1]
  rw [f8_eq]
  simp only [boxAgg0,box12,x3,x5,c32,b3,box13',l3,c30,leave0_B,core]
end
end Ir
end Go.Proofs.YtnjfpnoamgipjaaDoor

