import Derived.Test.YtnjfpnoamgipjaaDoorKnA
set_option linter.unusedVariables false
set_option linter.unusedSimpArgs false
set_option maxRecDepth 100000
namespace Go.Proofs.YtnjfpnoamgipjaaDoor
open Go Go.AM
namespace Ir

/-! ### The document's small questions -/
def hs (l : List Int) (x : Int) : Bool := decide (x ∈ l)
theorem ent42 {nl : Option Bool} {tg : Bool} (l : List Int) (x : Int) (hl : l.length < 2 ^ 63) : O.ent 42 [V nl tg l, I x] [] [] = some ([B (hs l x)], []) := by
  have go : ∀ (c i : Nat), l.length - i = c → i ≤ l.length → L42_6 [I x, V nl tg l, I l.length, I i] [] [] = some ([B (decide (x ∈ l.drop i))], []) := by
    intro c
    induction c with
    | zero =>
      intro i hc hi
      have : i = l.length := by omega
      subst this
      rw [L42_6_eq]
      simp only [Int.lt_irrefl, List.drop_length, List.not_mem_nil, core, leave0_B]
    | succ c ih =>
      intro i hc hi
      have h1 : i < l.length := by omega
      have hlt : (i : Int) < l.length := by omega
      have w : IntKind.i64.wrap ((i : Int) + 1) = ((i + 1 : Nat) : Int) := by rw [wrap_id (by omega), nxt]
      rw [L42_6_eq, List.drop_eq_getElem_cons h1]
      by_cases he : x = l[i]
      · simp only [hlt, idxV h1, ldV h1, he, List.mem_cons, true_or, core, leave0_B]
      · simp only [hlt, idxV h1, ldV h1, he, w, List.mem_cons, false_or, core]
        exact ih (i + 1) (by omega) (by omega)
  have := go l.length 0 (by omega) (by omega)
  rw [f42_eq]
  simp only [core]
  exact this
theorem call42 {nl : Option Bool} {tg : Bool} (l : List Int) (hl : l.length < 2 ^ 63 := by decide) (x : Int) (lo : List Nat) (H : Heap) : callA cfg O 42 [V nl tg l, I x] lo H = some (B (hs l x), H) :=
  callA_pure (xs := [.sl nl tg l.length (l.map Ia), Ia x]) (rs := [B (hs l x)]) (H' := []) rfl (ent42 l x hl) rfl
def tells (op : Int) : Bool := hs [1, 2, 3, 7, 8, 10, 13, 15, 16, 18] op
def vals (op : Int) : Int := if hs [4, 5, 6, 8, 9, 10, 15] op = true then 1 else if hs [7, 11, 12, 13, 17] op = true then 2 else if op = 14 then 3 else 0
def mst (op : Int) : Bool := hs [4, 5, 6, 9, 12, 13, 14, 16, 18, 19] op
def myR (op : Int) : Bool := hs [7, 8, 17] op
theorem lit10 (a b c d e f g h i j : Int) (H : Heap) : litA false 1 [I a, I b, I c, I d, I e, I f, I g, I h, I i, I j] H = some (V (some false) true [a, b, c, d, e, f, g, h, i, j], H) := rfl
theorem lit7 (a b c d e f g : Int) (H : Heap) : litA false 1 [I a, I b, I c, I d, I e, I f, I g] H = some (V (some false) true [a, b, c, d, e, f, g], H) := rfl
theorem lit5 (a b c d e : Int) (H : Heap) : litA false 1 [I a, I b, I c, I d, I e] H = some (V (some false) true [a, b, c, d, e], H) := rfl
theorem lit3 (a b c : Int) (H : Heap) : litA false 1 [I a, I b, I c] H = some (V (some false) true [a, b, c], H) := rfl
theorem call1 {g : FuncId} {x y : PV} (hm : cfg.mode g = 0) (h : O.ent g [.p x] [] [] = some ([.p y], [])) (lo : List Nat) (H : Heap) : callA cfg O g [.p x] lo H = some (.p y, H) :=
  callA_pure (xs := [x]) (rs := [.p y]) hm h rfl
theorem call16 (op : Int) (lo : List Nat) (H : Heap) : callA cfg O 16 [I op] lo H = some (B (tells op), H) := by
  refine call1 rfl ?_ lo H
  rw [f16_eq]
  simp only [lit10, obs, call42 [1, 2, 3, 7, 8, 10, 13, 15, 16, 18]]
  rfl
theorem call106 (op : Int) (lo : List Nat) (H : Heap) : callA cfg O 106 [I op] lo H = some (B (mst op), H) := by
  refine call1 rfl ?_ lo H
  rw [f106_eq]
  simp only [lit10, obs, call42 [4, 5, 6, 9, 12, 13, 14, 16, 18, 19]]
  rfl
theorem call107 (op : Int) (lo : List Nat) (H : Heap) : callA cfg O 107 [I op] lo H = some (B (myR op), H) := by
  refine call1 rfl ?_ lo H
  rw [f107_eq]
  simp only [lit3, obs, call42 [7, 8, 17]]
  rfl
theorem call41 (op : Int) (lo : List Nat) (H : Heap) : callA cfg O 41 [I op] lo H = some (I (vals op), H) := by
  refine call1 rfl ?_ lo H
  rw [f41_eq, vals]
  simp only [lit7, lit5, obs, call42 [4, 5, 6, 8, 9, 10, 15], call42 [7, 11, 12, 13, 17]]
  by_cases h1 : hs [4, 5, 6, 8, 9, 10, 15] op = true
  · simp only [h1, core, leave0_I]
  by_cases h2 : hs [7, 11, 12, 13, 17] op = true
  · simp only [h1, h2, core, leave0_I]
  by_cases h3 : op = 14
  · subst h3; rfl
  · simp only [h1, h2, h3, core, leave0_I]

/-! ### A trace's parts -/
abbrev trV (t : A_TTrace) : AV := .agg ((enc_TTrace t).map .p)
abbrev tiV (x : A_TIns) : AV := .agg ((enc_TIns x).map .p)
abbrev exV (x : A_TExit) : AV := .agg ((enc_TExit x).map .p)
theorem len_TTrace13 (t : A_TTrace) : (enc_TTrace t).length = 13 := rfl
theorem len_TIns8 (x : A_TIns) : (enc_TIns x).length = 8 := rfl
theorem len_TExit4 (x : A_TExit) : (enc_TExit x).length = 4 := rfl
theorem len_TSet2 (x : A_TSet) : (enc_TSet x).length = 2 := rfl
theorem len_TMake4 (x : A_TMake) : (enc_TMake x).length = 4 := rfl
section
variable (t : A_TTrace) (x : A_TIns) (e : A_TExit) (m : A_TMake) (s : A_TSet)
theorem tr0 : (enc_TTrace t)[0]? = some (Ia t.1) := _root_.id rfl
theorem tr1 : (enc_TTrace t)[1]? = some (Ia t.2.1) := _root_.id rfl
theorem tr2 : (enc_TTrace t)[2]? = some (Ia t.2.2.1) := _root_.id rfl
theorem tr3 : (enc_TTrace t)[3]? = some (.sl t.2.2.2.1.1 false t.2.2.2.1.2.length (t.2.2.2.1.2.flatMap enc_TIns)) := _root_.id rfl
theorem tr4 : (enc_TTrace t)[4]? = some (.sl t.2.2.2.2.1.1 false t.2.2.2.2.1.2.length (t.2.2.2.2.1.2.flatMap enc_TExit)) := _root_.id rfl
theorem tr5 : (enc_TTrace t)[5]? = some (Ia t.2.2.2.2.2.1.1) := _root_.id rfl
theorem tr9 : (enc_TTrace t)[9]? = some (Ia t.2.2.2.2.2.2.1) := _root_.id rfl
theorem ti0 : (enc_TIns x)[0]? = some (Ia x.1) := _root_.id rfl
theorem ti1 : (enc_TIns x)[1]? = some (Ia x.2.1) := _root_.id rfl
theorem ti2 : (enc_TIns x)[2]? = some (Ia x.2.2.1) := _root_.id rfl
theorem ti3 : (enc_TIns x)[3]? = some (Ia x.2.2.2.1) := _root_.id rfl
theorem ti4 : (enc_TIns x)[4]? = some (Ia x.2.2.2.2.1) := _root_.id rfl
theorem ti5 : (enc_TIns x)[5]? = some (Ia x.2.2.2.2.2.1) := _root_.id rfl
theorem ti6 : (enc_TIns x)[6]? = some (Ia x.2.2.2.2.2.2.1) := _root_.id rfl
theorem ti7 : (enc_TIns x)[7]? = some (Ia x.2.2.2.2.2.2.2) := _root_.id rfl
theorem te0 : (enc_TExit e)[0]? = some (Ia e.1) := _root_.id rfl
theorem te1 : (enc_TExit e)[1]? = some (Ia e.2.1) := _root_.id rfl
theorem te2 : (enc_TExit e)[2]? = some (.sl e.2.2.1.1 false e.2.2.1.2.length (e.2.2.1.2.flatMap enc_TSet)) := _root_.id rfl
theorem te3 : (enc_TExit e)[3]? = some (.sl e.2.2.2.1 false e.2.2.2.2.length (e.2.2.2.2.flatMap enc_TMake)) := _root_.id rfl
theorem tm0 : (enc_TMake m)[0]? = some (Ia m.1) := _root_.id rfl
theorem tm1 : (enc_TMake m)[1]? = some (Ia m.2.1) := _root_.id rfl
theorem tm2 : (enc_TMake m)[2]? = some (Ia m.2.2.1) := _root_.id rfl
theorem tm3 : (enc_TMake m)[3]? = some (.sl m.2.2.2.1 false m.2.2.2.2.length (m.2.2.2.2.map Ia)) := _root_.id rfl
theorem ts0 : (enc_TSet s)[0]? = some (Ia s.1) := _root_.id rfl
theorem ts1 : (enc_TSet s)[1]? = some (Ia s.2) := _root_.id rfl
end

/-- An element of a list, by a number that is in its bounds. -/
theorem idxI {sz : Nat} {nl : Option Bool} {t : Bool} {n : Nat} {xs : List PV} {i : Nat} (h : i < n) : idxA sz (.p (.sl nl t n xs)) (I i) = some (.fp xs (i * sz)) := by
  rw [idxL ⟨by omega, by omega⟩, Int.toNat_natCast]
theorem ldCell {α : Type} {enc : α → List PV} {k : Nat} (he : ∀ x, (enc x).length = k) {l : List α} {i j : Nat} (h : i < l.length) (hj : j < k) (n : Nat) (H : Heap) : ld false n (.fp (l.flatMap enc) (i * k + j)) H = ((enc l[i])[j]?).map .p := by
  rw [ld_fp, rows_get he (List.getElem?_eq_getElem h) hj]
theorem ldCell0 {α : Type} {enc : α → List PV} {k : Nat} (he : ∀ x, (enc x).length = k) (hk : 0 < k) {l : List α} {i : Nat} (h : i < l.length) (n : Nat) (H : Heap) : ld false n (.fp (l.flatMap enc) (i * k)) H = ((enc l[i])[0]?).map .p := ldCell he h hk n H

/-- Is it a value, ahead of a place? -/
def valR (ins : List A_TIns) (v at' : Int) : Bool := decide (0 ≤ v) && decide (v < at') && decide (v < ins.length) && (match ins[v.toNat]? with | some x => tells x.1 | none => false)
theorem valR_of {ins : List A_TIns} {v at' : Int} (h1 : 0 ≤ v) (h2 : v < at') (h3 : v.toNat < ins.length) : valR ins v at' = tells ins[v.toNat].1 := by
  have h4 : v < ins.length := by omega
  simp only [valR, h1, h2, h4, List.getElem?_eq_getElem h3, decide_true, Bool.true_and]
theorem call103 (t : A_TTrace) (v at' : Int) (lo : List Nat) (H : Heap) : callA cfg O 103 [trV t, I v, I at'] lo H = some (B (valR t.2.2.2.1.2 v at'), H) := by
  refine callA_args (H' := []) (rs := [B _]) rfl (pureArgsC (pureAgg _ _) (pureArgsC (pureP _ _) (pureArgs1 (pureP _ _)))) ?_ rfl
  rw [f103_eq]
  by_cases h1 : 0 ≤ v
  case neg =>
    have : valR t.2.2.2.1.2 v at' = false := by simp [valR, h1]
    rw [this]
    simp only [boxAgg0, h1, core, leave0_B]
  by_cases h2 : v < at'
  case neg =>
    have : valR t.2.2.2.1.2 v at' = false := by simp [valR, h2]
    rw [this]
    simp only [boxAgg0, h1, h2, core, leave0_B]
  by_cases h3 : v < t.2.2.2.1.2.length
  case neg =>
    have : valR t.2.2.2.1.2 v at' = false := by simp [valR, h3]
    rw [this]
    simp only [boxAgg0, ldB0, tr3, Nat.zero_add, h1, h2, h3, core, leave0_B]
  have hj : v.toNat < t.2.2.2.1.2.length := by omega
  rw [valR_of h1 h2 hj]
  simp only [boxAgg0, ldB0, tr3, Nat.zero_add, Nat.add_zero, h1, h2, h3, idxL (sz := 8) (xs := t.2.2.2.1.2.flatMap enc_TIns) (n := t.2.2.2.1.2.length) (i := v) ⟨h1, h3⟩, ldCell0 len_TIns8 (by decide) hj, ti0, call16, core, leave0_B]

/-! ### Numbers -/
def lims (op regs : Int) : Int × Int :=
  if op = 1 then (0, wr (regs - 1)) else if op = 4 then (0, 6) else if op = 5 then (0, 1) else if op = 7 then (3, 10) else if op = 8 then (11, 12) else if op = 9 then (1, 7)
  else if op = 10 ∨ op = 11 then (0, 99) else if op = 12 ∨ op = 19 then (1, 1073741824) else if op = 16 then (1, 3) else (0, 0)
def numR (x : A_TIns) (regs : Int) : Bool := wi x.2.2.2.2.1 (lims x.1 regs).1 (lims x.1 regs).2
theorem L49 (x : A_TIns) (a b : Int) : L104_49 [.ptr 0 0, I a, I b] [] [.box ((enc_TIns x).map .p)] = some ([B (wi x.2.2.2.2.1 a b)], []) := by
  rw [L104_49_eq, wi]
  by_cases h1 : a ≤ x.2.2.2.2.1
  · simp only [ldB0, ti4, Nat.zero_add, h1, Bool.true_and, core, leave0_B]
  · simp only [ldB0, ti4, Nat.zero_add, h1, Bool.false_and, core, leave0_B]
theorem call104 (x : A_TIns) (regs : Int) (lo : List Nat) (H : Heap) : callA cfg O 104 [tiV x, I regs] lo H = some (B (numR x regs), H) := by
  refine callA_args (H' := []) (rs := [B _]) rfl (pureArgsC (pureAgg _ _) (pureArgs1 (pureP _ _))) ?_ rfl
  rw [f104_eq, numR, lims]
  simp only [boxAgg0, ldB0, ti0, Nat.zero_add, L49, core, decide_eq_true_eq]
  by_cases h1 : x.1 = 1
  · simp only [h1, if_true]
  by_cases h2 : x.1 = 4
  · simp only [h1, h2, if_true, if_false, Int.reduceEq]
  by_cases h3 : x.1 = 5
  · simp only [h1, h2, h3, if_true, if_false, Int.reduceEq]
  by_cases h4 : x.1 = 7
  · simp only [h1, h2, h3, h4, if_true, if_false, Int.reduceEq]
  by_cases h5 : x.1 = 8
  · simp only [h1, h2, h3, h4, h5, if_true, if_false, Int.reduceEq]
  by_cases h6 : x.1 = 9
  · simp only [h1, h2, h3, h4, h5, h6, if_true, if_false, Int.reduceEq]
  by_cases h7 : x.1 = 10
  · simp only [h7, if_true, if_false, Int.reduceEq, true_or]
  by_cases h8 : x.1 = 11
  · simp only [h8, if_true, if_false, Int.reduceEq, or_true]
  by_cases h9 : x.1 = 12
  · simp only [h9, if_true, if_false, Int.reduceEq, true_or, or_self]
  by_cases h10 : x.1 = 19
  · simp only [h10, if_true, if_false, Int.reduceEq, or_true, or_self]
  by_cases h11 : x.1 = 16
  · simp only [h11, if_true, if_false, Int.reduceEq, or_self]
  simp only [h1, h2, h3, h4, h5, h6, h7, h8, h9, h10, h11, if_true, if_false, or_self]

def andZ (a b : Int) : Int := wr (BitVec.ofInt 64 a &&& BitVec.ofInt 64 b).toNat
theorem bin_and (a b : Int) : bin .and .int (I a) (I b) = some (I (andZ a b)) := rfl
def fltR (n : Int) : Bool := !decide (andZ n 9218868437227405312 = 9218868437227405312) || (decide (andZ n 4503599627370495 = 0) || decide (n = 9221120237041090561))
def rightR (v : A_Val) : Bool :=
  if v.1 = 0 then decide (v.2 = 0) else if v.1 = 1 then (decide (v.2 = 0) || decide (v.2 = 1)) else if v.1 = 2 then (decide (-2147483648 ≤ v.2) && decide (v.2 < 2147483648))
  else if v.1 = 3 then fltR v.2 else if v.1 = 4 ∨ v.1 = 5 then decide (0 ≤ v.2) else if v.1 = 6 then (decide (0 ≤ v.2) && decide (v.2 < 16)) else false
theorem call105 (v : A_Val) (lo : List Nat) (H : Heap) : callA cfg O 105 [vlV v] lo H = some (B (rightR v), H) := by
  refine callA_args (rs := [B (rightR v)]) rfl (pureArgs1 (pureAgg _ _)) (H' := []) ?_ rfl
  rw [f105_eq, rightR]
  simp only [boxAgg0, ldB0, va0, va1, Nat.zero_add, bin_and, core, leave0_B, decide_eq_true_eq]
  by_cases h0 : v.1 = 0
  · simp only [h0, if_true]
  by_cases h1 : v.1 = 1
  · simp only [h1, Int.reduceEq, if_true, if_false]
    by_cases q : v.2 = 0 <;> simp only [q, ldB0, va1, bin_and, core, leave0_B, Bool.true_or, Bool.false_or]
  by_cases h2 : v.1 = 2
  · simp only [h2, Int.reduceEq, if_true, if_false]
    by_cases q : -2147483648 ≤ v.2 <;> simp only [q, ldB0, va1, bin_and, core, leave0_B, Bool.true_and, Bool.false_and]
  by_cases h3 : v.1 = 3
  · simp only [h3, Int.reduceEq, if_true, if_false, fltR]
    by_cases q : andZ v.2 9218868437227405312 = 9218868437227405312
    · by_cases q2 : andZ v.2 4503599627370495 = 0 <;> simp only [q, q2, ldB0, va1, bin_and, core, leave0_B, Bool.true_or, Bool.false_or, Bool.not_true, Bool.not_false]
    · simp only [q, ldB0, va1, bin_and, core, leave0_B, Bool.true_or, Bool.false_or, Bool.not_true, Bool.not_false]
  by_cases h4 : v.1 = 4
  · simp only [h4, Int.reduceEq, if_true, if_false, true_or]
  by_cases h5 : v.1 = 5
  · simp only [h5, Int.reduceEq, if_true, if_false, or_true]
  by_cases h6 : v.1 = 6
  · simp only [h6, Int.reduceEq, if_true, if_false, or_self]
    by_cases q : 0 ≤ v.2 <;> simp only [q, ldB0, va1, bin_and, core, leave0_B, Bool.true_and, Bool.false_and]
  simp only [h0, h1, h2, h3, h4, h5, h6, or_self, if_true, if_false, core, leave0_B]
end Ir
end Go.Proofs.YtnjfpnoamgipjaaDoor

set_option linter.unusedVariables false
set_option linter.unusedSimpArgs false
set_option maxRecDepth 100000
namespace Go.Proofs.YtnjfpnoamgipjaaDoor
open Go Go.AM
namespace Ir
/-! ### A right exit -/
def btw (q : Option Int) (x : Int) : Bool := match q with | none => true | some y => decide (y < x)
def opAt (ins : List A_TIns) (v : Int) : Int := match ins[v.toNat]? with | some x => x.1 | none => 0
def set1 (ins : List A_TIns) (regs at' : Int) (q : Option Int) (s : A_TSet) : Bool := ((decide (0 ≤ s.1) && decide (s.1 < regs)) && valR ins s.2 at') && btw q s.1
def setsR (ins : List A_TIns) (regs at' : Int) : Option Int → List A_TSet → Bool
  | _, [] => true
  | q, s :: r => set1 ins regs at' q s && setsR ins regs at' (some s.1) r
def make1 (ins : List A_TIns) (at' : Int) (q : Option Int) (m : A_TMake) : Bool :=
  ((((((valR ins m.1 at' && decide (opAt ins m.1 = 18)) && btw q m.1) && hs [1, 2, 3] m.2.1) && decide (0 ≤ m.2.2.1)) && (decide (m.2.1 = 1) || decide (m.2.2.1 = 0))) && decide (m.2.2.2.2.length ≤ 100))
def makesR (ins : List A_TIns) (at' : Int) : Option Int → List A_TMake → Bool
  | _, [] => true
  | q, m :: r => (make1 ins at' q m && m.2.2.2.2.all fun v => valR ins v at') && makesR ins at' (some m.1) r
def exitR (ins : List A_TIns) (regs clen at' : Int) (x : A_TExit) : Bool :=
  (((((decide (0 ≤ x.1) && decide (x.1 < clen)) && decide (0 ≤ x.2.1)) && decide (x.2.1 ≤ 200)) && setsR ins regs at' none x.2.2.1.2) && makesR ins at' none x.2.2.2.2)
def prv {α : Type} (f : α → Int) (l : List α) : Nat → Option Int
  | 0 => none
  | j + 1 => (l[j]?).map f
theorem valR_idx {ins : List A_TIns} {v at' : Int} (h : valR ins v at' = true) : 0 ≤ v ∧ v < ins.length := by
  simp only [valR, Bool.and_eq_true, decide_eq_true_eq] at h
  exact ⟨h.1.1.1, h.1.2⟩
theorem ldT13 {t : A_TTrace} {H : Heap} {id : Nat} (h : H[id]? = some (.box ((enc_TTrace t).map .p))) : ld true 13 (.ptr id 0) H = some (trV t) := by
  rw [ldAgg_box h (by rw [List.length_map, len_TTrace13]; decide) (by rw [List.length_map, len_TTrace13]; decide)]; rfl
theorem ldBx {xs : List PV} {H : Heap} {id : Nat} (h : H[id]? = some (.box (xs.map .p))) (n j : Nat) : ld false n (.ptr id j) H = (xs[j]?).map .p := by rw [ld_box h, List.getElem?_map]
theorem wrapN {n : Nat} (h : n < 2 ^ 63 - 1) : IntKind.i64.wrap ((n : Int) + 1) = ((n + 1 : Nat) : Int) := by rw [wrap_id (by omega), nxt]
theorem wrapP {n : Nat} (h : n < 2 ^ 63 - 1) : IntKind.i64.wrap (((n + 1 : Nat) : Int) - 1) = (n : Int) := by rw [wrap_id (by omega)]; omega

theorem L30 (t : A_TTrace) (at' : Int) (mk : AV) (n : Int) {i : Nat} (hi : i < 2 ^ 63 - 1) {nl : Option Bool} {vs : List Int} (hv : vs.length < 2 ^ 63) {H : Heap} (h1 : H[1]? = some (.box ((enc_TTrace t).map .p))) : ∀ (c j : Nat) (ok : Bool), vs.length - j = c → j ≤ vs.length →
    L52_30 [I at', .ptr 1 0, .ptr 2 0, B ok, mk, I n, I i, V nl false vs, I vs.length, I j] [] H = L52_20 [I at', .ptr 1 0, .ptr 2 0, B (ok && (vs.drop j).all fun v => valR t.2.2.2.1.2 v at'), mk, I n, I ((i + 1 : Nat) : Int)] [] H := by
  intro c
  induction c with
  | zero =>
    intro j ok hc hj
    have : j = vs.length := by omega
    subst this
    rw [L52_30_eq]
    simp only [Int.lt_irrefl, wrapN hi, List.drop_length, List.all_nil, Bool.and_true, core]
  | succ c ih =>
    intro j ok hc hj
    have h : j < vs.length := by omega
    have hlt : (j : Int) < vs.length := by omega
    rw [L52_30_eq, List.drop_eq_getElem_cons h, List.all_cons]
    cases ok with
    | true =>
      simp only [hlt, idxV h, ldV h, ldT13 h1, call103, wrapN (show j < 2 ^ 63 - 1 by omega), core]
      rw [ih (j + 1) _ (by omega) (by omega), Bool.true_and]
    | false =>
      simp only [hlt, idxV h, ldV h, ldT13 h1, call103, wrapN (show j < 2 ^ 63 - 1 by omega), core]
      rw [ih (j + 1) _ (by omega) (by omega), Bool.false_and, Bool.false_and]

theorem L20 (t : A_TTrace) (x : A_TExit) (at' : Int) (hn : x.2.2.2.2.length < 2 ^ 63) (hv : ∀ m ∈ x.2.2.2.2, m.2.2.2.2.length < 2 ^ 63) : ∀ (c i : Nat) (ok : Bool) (H : Heap), x.2.2.2.2.length - i = c → i ≤ x.2.2.2.2.length → H[1]? = some (.box ((enc_TTrace t).map .p)) → H[2]? = some (.box ((enc_TExit x).map .p)) →
    L52_20 [I at', .ptr 1 0, .ptr 2 0, B ok, .p (.sl x.2.2.2.1 false x.2.2.2.2.length (x.2.2.2.2.flatMap enc_TMake)), I x.2.2.2.2.length, I i] [] H = some ([B (ok && makesR t.2.2.2.1.2 at' (prv (fun m => m.1) x.2.2.2.2 i) (x.2.2.2.2.drop i))], []) := by
  intro c
  induction c with
  | zero =>
    intro i ok H hc hi h1 h2
    have : i = x.2.2.2.2.length := by omega
    subst this
    rw [L52_20_eq]
    simp only [Int.lt_irrefl, List.drop_length, makesR, Bool.and_true, core, leave0_B]
  | succ c ih =>
    intro i ok H hc hi h1 h2
    have h : i < x.2.2.2.2.length := by omega
    have hlt : (i : Int) < x.2.2.2.2.length := by omega
    obtain ⟨m, hm⟩ : ∃ m, x.2.2.2.2[i] = m := ⟨_, rfl⟩
    have hmv := hv m (hm ▸ List.getElem_mem h)
    have x3 : ld true 4 (.fp (x.2.2.2.2.flatMap enc_TMake) (i * 4)) H = some (.agg ((enc_TMake m).map .p)) := by rw [ldRow len_TMake4 (by decide) h, hm]
    have r4 : boxO [] [I 0, I 0, I 0, .p nilS] H = some (.ptr H.length 0, H ++ [.box ([Ia 0, Ia 0, Ia 0, nilS].map .p)]) := boxO_p [Ia 0, Ia 0, Ia 0, nilS] H
    have r5 : stA 4 (.ptr H.length 0) (.agg ((enc_TMake m).map .p)) [] (H ++ [.box ([Ia 0, Ia 0, Ia 0, nilS].map .p)]) = some (H ++ [.box ((enc_TMake m).map .p)]) := stA_new rfl rfl (by decide)
    have hc1 := idxI (sz := 4) (nl := x.2.2.2.1) (t := false) (xs := x.2.2.2.2.flatMap enc_TMake) h
    have b1 : (H ++ [AObj.box ((enc_TMake m).map .p)])[1]? = some (.box ((enc_TTrace t).map .p)) := push_get? h1 _
    have b2 : (H ++ [AObj.box ((enc_TMake m).map .p)])[2]? = some (.box ((enc_TExit x).map .p)) := push_get? h2 _
    have fm : ∀ n j, ld false n (.ptr H.length j) (H ++ [AObj.box ((enc_TMake m).map .p)]) = ((enc_TMake m)[j]?).map .p := fun n j => ldB _ _ _ _
    have t13 := ldT13 b1
    have ft := fun j => ldBx b1 1 j
    have fx := fun j => ldBx b2 1 j
    have step : L52_20 [I at', .ptr 1 0, .ptr 2 0, B ok, .p (.sl x.2.2.2.1 false x.2.2.2.2.length (x.2.2.2.2.flatMap enc_TMake)), I x.2.2.2.2.length, I i] [] H
        = L52_30 [I at', .ptr 1 0, .ptr 2 0, B (ok && make1 t.2.2.2.1.2 at' (prv (fun m => m.1) x.2.2.2.2 i) m), .p (.sl x.2.2.2.1 false x.2.2.2.2.length (x.2.2.2.2.flatMap enc_TMake)), I x.2.2.2.2.length, I i, V m.2.2.2.1 false m.2.2.2.2, I m.2.2.2.2.length, I ((0 : Nat) : Int)] [] (H ++ [.box ((enc_TMake m).map .p)]) := by
      rw [L52_20_eq, make1]
      cases ok with
      | false => simp only [hlt, hc1, x3, r4, r5, fm, ft, fx, t13, tm0, tm1, tm2, tm3, tr3, te3, Nat.zero_add, Nat.add_zero, call103, Bool.false_and, core]; rfl
      | true =>
      cases c1 : valR t.2.2.2.1.2 m.1 at' with
      | false => simp only [hlt, hc1, x3, r4, r5, fm, ft, fx, t13, tm0, tm1, tm2, tm3, tr3, te3, Nat.zero_add, Nat.add_zero, call103, c1, Bool.true_and, Bool.false_and, core]; rfl
      | true =>
      obtain ⟨v0, v1⟩ := valR_idx c1
      have hj : m.1.toNat < t.2.2.2.1.2.length := by omega
      have i16 := idxL (sz := 8) (nl := t.2.2.2.1.1) (t := false) (xs := t.2.2.2.1.2.flatMap enc_TIns) (n := t.2.2.2.1.2.length) (i := m.1) ⟨v0, v1⟩
      have f18 : ∀ H n, ld false n (.fp (t.2.2.2.1.2.flatMap enc_TIns) (m.1.toNat * 8)) H = some (I (opAt t.2.2.2.1.2 m.1)) := fun H n => by
        rw [ldCell0 len_TIns8 (by decide) hj, ti0, opAt, List.getElem?_eq_getElem hj]; rfl
      by_cases c2 : opAt t.2.2.2.1.2 m.1 = 18
      case neg => simp only [hlt, hc1, x3, r4, r5, fm, ft, fx, t13, tm0, tm1, tm2, tm3, tr3, te3, Nat.zero_add, Nat.add_zero, call103, c1, i16, f18, c2, Bool.true_and, Bool.false_and, core]; rfl
      cases i with
      | zero =>
        have c3 : btw (prv (fun m => m.1) x.2.2.2.2 0) m.1 = true := rfl
        have hzd : (((0 : Nat) : Int) = 0) = True := eq_true rfl
        cases c4 : hs [1, 2, 3] m.2.1 with
        | false => simp only [hlt, hc1, x3, r4, r5, fm, ft, fx, t13, tm0, tm1, tm2, tm3, tr3, te3, Nat.zero_add, Nat.add_zero, call103, c1, i16, f18, c2, c3, c4, hzd, lit3, call42 [1, 2, 3], Bool.true_and, Bool.false_and, core]; rfl
        | true =>
        by_cases c5 : 0 ≤ m.2.2.1
        case neg => simp only [hlt, hc1, x3, r4, r5, fm, ft, fx, t13, tm0, tm1, tm2, tm3, tr3, te3, Nat.zero_add, Nat.add_zero, call103, c1, i16, f18, c2, c3, c4, c5, hzd, lit3, call42 [1, 2, 3], Bool.true_and, Bool.false_and, core]; rfl
        by_cases c6 : m.2.1 = 1
        · by_cases c7 : (m.2.2.2.2.length : Int) ≤ 100
          · have c7' : m.2.2.2.2.length ≤ 100 := by omega
            simp only [hlt, hc1, x3, r4, r5, fm, ft, fx, t13, tm0, tm1, tm2, tm3, tr3, te3, Nat.zero_add, Nat.add_zero, call103, c1, i16, f18, c2, c3, c4, c5, hzd, lit3, call42 [1, 2, 3], Bool.true_and, Bool.false_and, core]
            simp only [c6, c7, c7', fm, tm0, tm1, tm2, tm3, Bool.true_and, Bool.false_and, Bool.true_or, core]; rfl
          · have c7' : ¬ m.2.2.2.2.length ≤ 100 := by omega
            simp only [hlt, hc1, x3, r4, r5, fm, ft, fx, t13, tm0, tm1, tm2, tm3, tr3, te3, Nat.zero_add, Nat.add_zero, call103, c1, i16, f18, c2, c3, c4, c5, hzd, lit3, call42 [1, 2, 3], Bool.true_and, Bool.false_and, core]
            simp only [c6, c7, c7', fm, tm0, tm1, tm2, tm3, Bool.true_and, Bool.false_and, Bool.true_or, core]; rfl
        · by_cases c8 : m.2.2.1 = 0
          case neg =>
            simp only [hlt, hc1, x3, r4, r5, fm, ft, fx, t13, tm0, tm1, tm2, tm3, tr3, te3, Nat.zero_add, Nat.add_zero, call103, c1, i16, f18, c2, c3, c4, c5, hzd, lit3, call42 [1, 2, 3], Bool.true_and, Bool.false_and, core]
            simp only [c6, c8, fm, tm0, tm1, tm2, tm3, Bool.true_and, Bool.false_and, Bool.false_or, core]; rfl
          by_cases c7 : (m.2.2.2.2.length : Int) ≤ 100
          · have c7' : m.2.2.2.2.length ≤ 100 := by omega
            simp only [hlt, hc1, x3, r4, r5, fm, ft, fx, t13, tm0, tm1, tm2, tm3, tr3, te3, Nat.zero_add, Nat.add_zero, call103, c1, i16, f18, c2, c3, c4, c5, hzd, lit3, call42 [1, 2, 3], Bool.true_and, Bool.false_and, core]
            simp only [c6, c8, c7, c7', fm, tm0, tm1, tm2, tm3, Bool.true_and, Bool.false_and, Bool.false_or, core]; rfl
          · have c7' : ¬ m.2.2.2.2.length ≤ 100 := by omega
            simp only [hlt, hc1, x3, r4, r5, fm, ft, fx, t13, tm0, tm1, tm2, tm3, tr3, te3, Nat.zero_add, Nat.add_zero, call103, c1, i16, f18, c2, c3, c4, c5, hzd, lit3, call42 [1, 2, 3], Bool.true_and, Bool.false_and, core]
            simp only [c6, c8, c7, c7', fm, tm0, tm1, tm2, tm3, Bool.true_and, Bool.false_and, Bool.false_or, core]; rfl
      | succ k =>
        have hk : k < x.2.2.2.2.length := by omega
        have hz : ¬ ((k + 1 : Nat) : Int) = 0 := by omega
        have ip := idxI (sz := 4) (nl := x.2.2.2.1) (t := false) (xs := x.2.2.2.2.flatMap enc_TMake) hk
        have fp : ∀ H n, ld false n (.fp (x.2.2.2.2.flatMap enc_TMake) (k * 4)) H = some (I x.2.2.2.2[k].1) := fun H n => by rw [ldCell0 len_TMake4 (by decide) hk, tm0]; rfl
        have pv : btw (prv (fun m => m.1) x.2.2.2.2 (k + 1)) m.1 = decide (x.2.2.2.2[k].1 < m.1) := by rw [prv, List.getElem?_eq_getElem hk]; rfl
        by_cases c3' : x.2.2.2.2[k].1 < m.1
        case neg =>
          rw [pv]
          simp only [hlt, hc1, x3, r4, r5, fm, ft, fx, t13, tm0, tm1, tm2, tm3, tr3, te3, Nat.zero_add, Nat.add_zero, call103, c1, i16, f18, c2, hz, wrapP (show k < 2 ^ 63 - 1 by omega), ip, fp, c3', Bool.true_and, Bool.false_and, core]; rfl
        have c3 : btw (prv (fun m => m.1) x.2.2.2.2 (k + 1)) m.1 = true := by rw [pv]; exact decide_eq_true c3'
        cases c4 : hs [1, 2, 3] m.2.1 with
        | false => simp only [hlt, hc1, x3, r4, r5, fm, ft, fx, t13, tm0, tm1, tm2, tm3, tr3, te3, Nat.zero_add, Nat.add_zero, call103, c1, i16, f18, c2, c3, c4, hz, wrapP (show k < 2 ^ 63 - 1 by omega), ip, fp, c3', lit3, call42 [1, 2, 3], Bool.true_and, Bool.false_and, core]; rfl
        | true =>
        by_cases c5 : 0 ≤ m.2.2.1
        case neg => simp only [hlt, hc1, x3, r4, r5, fm, ft, fx, t13, tm0, tm1, tm2, tm3, tr3, te3, Nat.zero_add, Nat.add_zero, call103, c1, i16, f18, c2, c3, c4, c5, hz, wrapP (show k < 2 ^ 63 - 1 by omega), ip, fp, c3', lit3, call42 [1, 2, 3], Bool.true_and, Bool.false_and, core]; rfl
        by_cases c6 : m.2.1 = 1
        · by_cases c7 : (m.2.2.2.2.length : Int) ≤ 100
          · have c7' : m.2.2.2.2.length ≤ 100 := by omega
            simp only [hlt, hc1, x3, r4, r5, fm, ft, fx, t13, tm0, tm1, tm2, tm3, tr3, te3, Nat.zero_add, Nat.add_zero, call103, c1, i16, f18, c2, c3, c4, c5, hz, wrapP (show k < 2 ^ 63 - 1 by omega), ip, fp, c3', lit3, call42 [1, 2, 3], Bool.true_and, Bool.false_and, core]
            simp only [c6, c7, c7', fm, tm0, tm1, tm2, tm3, Bool.true_and, Bool.false_and, Bool.true_or, core]; rfl
          · have c7' : ¬ m.2.2.2.2.length ≤ 100 := by omega
            simp only [hlt, hc1, x3, r4, r5, fm, ft, fx, t13, tm0, tm1, tm2, tm3, tr3, te3, Nat.zero_add, Nat.add_zero, call103, c1, i16, f18, c2, c3, c4, c5, hz, wrapP (show k < 2 ^ 63 - 1 by omega), ip, fp, c3', lit3, call42 [1, 2, 3], Bool.true_and, Bool.false_and, core]
            simp only [c6, c7, c7', fm, tm0, tm1, tm2, tm3, Bool.true_and, Bool.false_and, Bool.true_or, core]; rfl
        · by_cases c8 : m.2.2.1 = 0
          case neg =>
            simp only [hlt, hc1, x3, r4, r5, fm, ft, fx, t13, tm0, tm1, tm2, tm3, tr3, te3, Nat.zero_add, Nat.add_zero, call103, c1, i16, f18, c2, c3, c4, c5, hz, wrapP (show k < 2 ^ 63 - 1 by omega), ip, fp, c3', lit3, call42 [1, 2, 3], Bool.true_and, Bool.false_and, core]
            simp only [c6, c8, fm, tm0, tm1, tm2, tm3, Bool.true_and, Bool.false_and, Bool.false_or, core]; rfl
          by_cases c7 : (m.2.2.2.2.length : Int) ≤ 100
          · have c7' : m.2.2.2.2.length ≤ 100 := by omega
            simp only [hlt, hc1, x3, r4, r5, fm, ft, fx, t13, tm0, tm1, tm2, tm3, tr3, te3, Nat.zero_add, Nat.add_zero, call103, c1, i16, f18, c2, c3, c4, c5, hz, wrapP (show k < 2 ^ 63 - 1 by omega), ip, fp, c3', lit3, call42 [1, 2, 3], Bool.true_and, Bool.false_and, core]
            simp only [c6, c8, c7, c7', fm, tm0, tm1, tm2, tm3, Bool.true_and, Bool.false_and, Bool.false_or, core]; rfl
          · have c7' : ¬ m.2.2.2.2.length ≤ 100 := by omega
            simp only [hlt, hc1, x3, r4, r5, fm, ft, fx, t13, tm0, tm1, tm2, tm3, tr3, te3, Nat.zero_add, Nat.add_zero, call103, c1, i16, f18, c2, c3, c4, c5, hz, wrapP (show k < 2 ^ 63 - 1 by omega), ip, fp, c3', lit3, call42 [1, 2, 3], Bool.true_and, Bool.false_and, core]
            simp only [c6, c8, c7, c7', fm, tm0, tm1, tm2, tm3, Bool.true_and, Bool.false_and, Bool.false_or, core]; rfl
    rw [step, L30 t at' _ _ (by omega) (by omega) b1 m.2.2.2.2.length 0 _ (by omega) (by omega), ih (i + 1) _ _ (by omega) (by omega) b1 b2, List.drop_zero, List.drop_eq_getElem_cons h, hm, makesR]
    have : prv (fun m : A_TMake => m.1) x.2.2.2.2 (i + 1) = some m.1 := by rw [prv, List.getElem?_eq_getElem h, hm]; rfl
    rw [this]
    simp only [Bool.and_assoc]
end Ir
end Go.Proofs.YtnjfpnoamgipjaaDoor

set_option linter.unusedVariables false
set_option linter.unusedSimpArgs false
set_option maxRecDepth 100000
namespace Go.Proofs.YtnjfpnoamgipjaaDoor
open Go Go.AM
namespace Ir
theorem L10 (t : A_TTrace) (x : A_TExit) (f : A_Fn) (at' : Int) (hs0 : x.2.2.1.2.length < 2 ^ 63) (hn : x.2.2.2.2.length < 2 ^ 63) (hv : ∀ m ∈ x.2.2.2.2, m.2.2.2.2.length < 2 ^ 63) : ∀ (c i : Nat) (ok : Bool) (H : Heap), x.2.2.1.2.length - i = c → i ≤ x.2.2.1.2.length → H[1]? = some (.box ((enc_TTrace t).map .p)) → H[2]? = some (.box ((enc_TExit x).map .p)) → H[3]? = some (.box ((enc_Fn f).map .p)) →
    L52_10 [I at', .ptr 1 0, .ptr 2 0, .ptr 3 0, B ok, .p (.sl x.2.2.1.1 false x.2.2.1.2.length (x.2.2.1.2.flatMap enc_TSet)), I x.2.2.1.2.length, I i] [] H
      = some ([B ((ok && setsR t.2.2.2.1.2 f.2.1 at' (prv (fun s => s.1) x.2.2.1.2 i) (x.2.2.1.2.drop i)) && makesR t.2.2.2.1.2 at' none x.2.2.2.2)], []) := by
  intro c
  induction c with
  | zero =>
    intro i ok H hc hi h1 h2 h3
    have : i = x.2.2.1.2.length := by omega
    subst this
    have e := L20 t x at' hn hv x.2.2.2.2.length 0 ok H (by omega) (by omega) h1 h2
    rw [L52_10_eq]
    simp only [Int.lt_irrefl, List.drop_length, setsR, Bool.and_true, ldBx h2, te3, Nat.zero_add, core]
    exact e
  | succ c ih =>
    intro i ok H hc hi h1 h2 h3
    have h : i < x.2.2.1.2.length := by omega
    have hlt : (i : Int) < x.2.2.1.2.length := by omega
    obtain ⟨m, hm⟩ : ∃ m, x.2.2.1.2[i] = m := ⟨_, rfl⟩
    have x3 : ld true 2 (.fp (x.2.2.1.2.flatMap enc_TSet) (i * 2)) H = some (.agg ((enc_TSet m).map .p)) := by rw [ldRow len_TSet2 (by decide) h, hm]
    have r4 : boxO [] [I 0, I 0] H = some (.ptr H.length 0, H ++ [.box ([Ia 0, Ia 0].map .p)]) := boxO_p [Ia 0, Ia 0] H
    have r5 : stA 2 (.ptr H.length 0) (.agg ((enc_TSet m).map .p)) [] (H ++ [.box ([Ia 0, Ia 0].map .p)]) = some (H ++ [.box ((enc_TSet m).map .p)]) := stA_new rfl rfl (by decide)
    have hc1 := idxI (sz := 2) (nl := x.2.2.1.1) (t := false) (xs := x.2.2.1.2.flatMap enc_TSet) h
    have b1 : (H ++ [AObj.box ((enc_TSet m).map .p)])[1]? = some (.box ((enc_TTrace t).map .p)) := push_get? h1 _
    have b2 : (H ++ [AObj.box ((enc_TSet m).map .p)])[2]? = some (.box ((enc_TExit x).map .p)) := push_get? h2 _
    have b3 : (H ++ [AObj.box ((enc_TSet m).map .p)])[3]? = some (.box ((enc_Fn f).map .p)) := push_get? h3 _
    have fm : ∀ n j, ld false n (.ptr H.length j) (H ++ [AObj.box ((enc_TSet m).map .p)]) = ((enc_TSet m)[j]?).map .p := fun n j => ldB _ _ _ _
    have t13 := ldT13 b1
    have fx := fun j => ldBx b2 1 j
    have ff := fun j => ldBx b3 1 j
    have w := wrapN (show i < 2 ^ 63 - 1 by omega)
    have step : L52_10 [I at', .ptr 1 0, .ptr 2 0, .ptr 3 0, B ok, .p (.sl x.2.2.1.1 false x.2.2.1.2.length (x.2.2.1.2.flatMap enc_TSet)), I x.2.2.1.2.length, I i] [] H
        = L52_10 [I at', .ptr 1 0, .ptr 2 0, .ptr 3 0, B (ok && set1 t.2.2.2.1.2 f.2.1 at' (prv (fun s => s.1) x.2.2.1.2 i) m), .p (.sl x.2.2.1.1 false x.2.2.1.2.length (x.2.2.1.2.flatMap enc_TSet)), I x.2.2.1.2.length, I ((i + 1 : Nat) : Int)] [] (H ++ [.box ((enc_TSet m).map .p)]) := by
      conv => lhs; rw [L52_10_eq]
      rw [set1]
      cases ok with
      | false => simp only [hlt, hc1, x3, r4, r5, fm, fx, ff, t13, ts0, ts1, te2, fn1, w, Nat.zero_add, Nat.add_zero, call103, Bool.false_and, core]
      | true =>
      by_cases c1 : 0 ≤ m.1
      case neg => simp only [hlt, hc1, x3, r4, r5, fm, fx, ff, t13, ts0, ts1, te2, fn1, w, Nat.zero_add, Nat.add_zero, call103, c1, Bool.true_and, Bool.false_and, core]
      by_cases c2 : m.1 < f.2.1
      case neg => simp only [hlt, hc1, x3, r4, r5, fm, fx, ff, t13, ts0, ts1, te2, fn1, w, Nat.zero_add, Nat.add_zero, call103, c1, c2, Bool.true_and, Bool.false_and, core]
      cases c3 : valR t.2.2.2.1.2 m.2 at' with
      | false => simp only [hlt, hc1, x3, r4, r5, fm, fx, ff, t13, ts0, ts1, te2, fn1, w, Nat.zero_add, Nat.add_zero, call103, c1, c2, c3, Bool.true_and, Bool.false_and, core]
      | true =>
      cases i with
      | zero =>
        have c4 : btw (prv (fun s => s.1) x.2.2.1.2 0) m.1 = true := rfl
        have hzd : (((0 : Nat) : Int) = 0) = True := eq_true rfl
        simp only [hlt, hc1, x3, r4, r5, fm, fx, ff, t13, ts0, ts1, te2, fn1, w, Nat.zero_add, Nat.add_zero, call103, c1, c2, c3, c4, hzd, Bool.true_and, Bool.false_and, core]
      | succ k =>
        have hk : k < x.2.2.1.2.length := by omega
        have hz : ¬ ((k + 1 : Nat) : Int) = 0 := by omega
        have ip := idxI (sz := 2) (nl := x.2.2.1.1) (t := false) (xs := x.2.2.1.2.flatMap enc_TSet) hk
        have fp : ∀ H n, ld false n (.fp (x.2.2.1.2.flatMap enc_TSet) (k * 2)) H = some (I x.2.2.1.2[k].1) := fun H n => by rw [ldCell0 len_TSet2 (by decide) hk, ts0]; rfl
        have pv : btw (prv (fun s => s.1) x.2.2.1.2 (k + 1)) m.1 = decide (x.2.2.1.2[k].1 < m.1) := by rw [prv, List.getElem?_eq_getElem hk]; rfl
        rw [pv]
        simp only [hlt, hc1, x3, r4, r5, fm, fx, ff, t13, ts0, ts1, te2, fn1, w, Nat.zero_add, Nat.add_zero, call103, c1, c2, c3, hz, wrapP (show k < 2 ^ 63 - 1 by omega), ip, fp, Bool.true_and, Bool.false_and, core]
    have : prv (fun s : A_TSet => s.1) x.2.2.1.2 (i + 1) = some m.1 := by rw [prv, List.getElem?_eq_getElem h, hm]; rfl
    rw [step, ih (i + 1) _ _ (by omega) (by omega) b1 b2 b3, List.drop_eq_getElem_cons h, hm, setsR, this]
    simp only [Bool.and_assoc]

/-- The sizes of an exit's lists. -/
def EOk (x : A_TExit) : Prop := x.2.2.1.2.length < 2 ^ 63 ∧ x.2.2.2.2.length < 2 ^ 63 ∧ ∀ m ∈ x.2.2.2.2, m.2.2.2.2.length < 2 ^ 63
theorem call52 (p : A_Prog) (t : A_TTrace) (x : A_TExit) (at' : Int) (hx : EOk x) {f : A_Fn} (ht : 0 ≤ t.1) (hf : p.1.2[t.1.toNat]? = some f) (lo : List Nat) (H : Heap) : callA cfg O 52 [pgV p, trV t, exV x, I at'] lo H = some (B (exitR t.2.2.2.1.2 f.2.1 f.2.2.2.2.2.length at' x), H) := by
  refine callA_args (H' := []) (rs := [B _]) rfl (pureArgsC (pureAgg _ _) (pureArgsC (pureAgg _ _) (pureArgsC (pureAgg _ _) (pureArgs1 (pureP _ _))))) ?_ rfl
  obtain ⟨hj, he⟩ := List.getElem?_eq_some_iff.mp hf
  have hlt : t.1 < p.1.2.length := by omega
  have b3 : ∀ o1 o2 : AObj, boxO [] (AV.cells (exV x)) [o1, o2] = some (.ptr 2 0, [o1, o2, .box ((enc_TExit x).map .p)]) := fun o1 o2 => boxO_p _ [o1, o2]
  have f0 : ∀ (o2 o3 : AObj) j, ld false 1 (.ptr 0 j) [.box ((enc_Prog p).map .p), o2, o3] = ((enc_Prog p)[j]?).map .p := fun o2 o3 j => ldBx (H := [_, o2, o3]) rfl 1 j
  have f1 : ∀ (o1 o3 : AObj) j, ld false 1 (.ptr 1 j) [o1, .box ((enc_TTrace t).map .p), o3] = ((enc_TTrace t)[j]?).map .p := fun o1 o3 j => ldBx (H := [o1, _, o3]) rfl 1 j
  have i8 := idxL (sz := 5) (nl := p.1.1) (t := false) (xs := p.1.2.flatMap enc_Fn) (n := p.1.2.length) (i := t.1) ⟨ht, hlt⟩
  have x9 : ∀ H, ld true 5 (.fp (p.1.2.flatMap enc_Fn) (t.1.toNat * 5)) H = some (fnV f) := fun H => by rw [ldRow len_Fn5 (by decide) hj, he]
  have r10 : ∀ o1 o2 o3 : AObj, boxO [] [I 0, I 0, B false, .p nilS, .p nilS] [o1, o2, o3] = some (.ptr 3 0, [o1, o2, o3, .box ([Ia 0, Ia 0, .v (.bool false), nilS, nilS].map .p)]) := fun o1 o2 o3 => boxO_p [Ia 0, Ia 0, .v (.bool false), nilS, nilS] [o1, o2, o3]
  have r11 : ∀ o1 o2 o3 : AObj, stA 5 (.ptr 3 0) (fnV f) [] [o1, o2, o3, .box ([Ia 0, Ia 0, .v (.bool false), nilS, nilS].map .p)] = some [o1, o2, o3, .box ((enc_Fn f).map .p)] := fun o1 o2 o3 => stA_new (H := [o1, o2, o3]) rfl rfl (by decide)
  have g2 : ∀ (o1 o2 o4 : AObj) j, ld false 1 (.ptr 2 j) [o1, o2, .box ((enc_TExit x).map .p), o4] = ((enc_TExit x)[j]?).map .p := fun o1 o2 o4 j => ldBx (H := [o1, o2, _, o4]) rfl 1 j
  have g3 : ∀ (o1 o2 o3 : AObj) j, ld false 1 (.ptr 3 j) [o1, o2, o3, .box ((enc_Fn f).map .p)] = ((enc_Fn f)[j]?).map .p := fun o1 o2 o3 j => ldBx (H := [o1, o2, o3, _]) rfl 1 j
  have lp := fun ok => L10 t x f at' hx.1 hx.2.1 hx.2.2 x.2.2.1.2.length 0 ok [.box ((enc_Prog p).map .p), .box ((enc_TTrace t).map .p), .box ((enc_TExit x).map .p), .box ((enc_Fn f).map .p)] (by omega) (by omega) rfl rfl rfl
  rw [f52_eq, exitR]
  by_cases c1 : 0 ≤ x.1
  case neg =>
    simp only [boxAgg0, box12, b3, f0, f1, pg0, tr0, i8, x9, r10, r11, g2, g3, te0, te1, te2, fn4, Nat.zero_add, c1, Bool.false_and, core]
    exact lp false
  by_cases c2 : x.1 < f.2.2.2.2.2.length
  case neg =>
    simp only [boxAgg0, box12, b3, f0, f1, pg0, tr0, i8, x9, r10, r11, g2, g3, te0, te1, te2, fn4, Nat.zero_add, c1, c2, Bool.true_and, Bool.false_and, core]
    exact lp false
  by_cases c3 : 0 ≤ x.2.1
  case neg =>
    simp only [boxAgg0, box12, b3, f0, f1, pg0, tr0, i8, x9, r10, r11, g2, g3, te0, te1, te2, fn4, Nat.zero_add, c1, c2, c3, Bool.true_and, Bool.false_and, core]
    exact lp false
  simp only [boxAgg0, box12, b3, f0, f1, pg0, tr0, i8, x9, r10, r11, g2, g3, te0, te1, te2, fn4, Nat.zero_add, c1, c2, c3, Bool.true_and, Bool.false_and, core]
  exact lp (decide (x.2.1 ≤ 200))

/-! ### No exit -/
def noExit (x : A_TExit) : Bool := ((decide (x.1 = 0) && decide (x.2.1 = 0)) && decide (x.2.2.1.2.length = 0)) && decide (x.2.2.2.2.length = 0)
theorem call108 {nl : Option Bool} (l : List A_TSet) (lo : List Nat) (H : Heap) : callA cfg O 108 [.p (.sl nl false l.length (l.flatMap enc_TSet)), .p nilS] lo H = some (B (decide (l.length = 0)), H) := by
  refine callA_pure (xs := [.sl nl false l.length (l.flatMap enc_TSet), nilS]) (rs := [B _]) (H' := []) rfl ?_ rfl
  show O.ent 108 [.p (.sl nl false l.length (l.flatMap enc_TSet)), .p nilS] [] [] = _
  rw [f108_eq]
  by_cases h : l.length = 0
  · have e : L108_10 [.p nilS, .p (.sl nl false l.length (l.flatMap enc_TSet)), I l.length, I 0] [] [] = some ([B true], []) := by
      rw [L108_10_eq]
      simp only [h, Int.natCast_zero, Int.lt_irrefl, core, leave0_B]
    have hz : ((l.length : Int) = ((0 : Nat) : Int)) = True := eq_true (by omega)
    have hl : lenA .slice (.p nilS) [] = some (I ((0 : Nat) : Int)) := rfl
    simp only [hl, hz, e, h, lenA_sl, core]
    rw [h] at e
    exact e
  · have hz : ¬ ((l.length : Int) = ((0 : Nat) : Int)) := by omega
    have hl : lenA .slice (.p nilS) [] = some (I ((0 : Nat) : Int)) := rfl
    simp only [hl, hz, h, lenA_sl, core, leave0_B]
theorem call53 (x : A_TExit) (lo : List Nat) (H : Heap) : callA cfg O 53 [exV x, .agg [I 0, I 0, .p nilS, .p nilS]] lo H = some (B (noExit x), H) := by
  refine callA_args (H' := []) (rs := [B _]) rfl (pureArgsC (pureAgg _ _) (pureArgs1 (pureAgg [Ia 0, Ia 0, nilS, nilS] _))) ?_ rfl
  have b2 : ∀ o : AObj, boxO [] (AV.cells (.agg [I 0, I 0, .p nilS, .p nilS])) [o] = some (.ptr 1 0, [o, .box ([Ia 0, Ia 0, nilS, nilS].map .p)]) := fun o => boxO_p [Ia 0, Ia 0, nilS, nilS] [o]
  have g0 : ∀ (o : AObj) j, ld false 1 (.ptr 0 j) [.box ((enc_TExit x).map .p), o] = ((enc_TExit x)[j]?).map .p := fun o j => ldB02 _ _ _ _
  have z0 : ∀ o : AObj, ld false 1 (.ptr 1 0) [o, .box ([Ia 0, Ia 0, nilS, nilS].map .p)] = some (I 0) := fun o => ldB12 _ _ _ _
  have z1 : ∀ o : AObj, ld false 1 (.ptr 1 1) [o, .box ([Ia 0, Ia 0, nilS, nilS].map .p)] = some (I 0) := fun o => ldB12 _ _ _ _
  have z2 : ∀ o : AObj, ld false 1 (.ptr 1 2) [o, .box ([Ia 0, Ia 0, nilS, nilS].map .p)] = some (.p nilS) := fun o => ldB12 _ _ _ _
  have z3 : ∀ o : AObj, ld false 1 (.ptr 1 3) [o, .box ([Ia 0, Ia 0, nilS, nilS].map .p)] = some (.p nilS) := fun o => ldB12 _ _ _ _
  have hl : ∀ H, lenA .slice (.p nilS) H = some (I 0) := fun _ => rfl
  rw [f53_eq, noExit]
  by_cases c1 : x.1 = 0
  case neg => simp only [boxAgg0, b2, g0, z0, z1, z2, z3, te0, te1, te2, te3, call108, hl, Nat.zero_add, c1, Bool.false_and, core, leave0_B]
  by_cases c2 : x.2.1 = 0
  case neg => simp only [boxAgg0, b2, g0, z0, z1, z2, z3, te0, te1, te2, te3, call108, hl, Nat.zero_add, c1, c2, Bool.true_and, Bool.false_and, core, leave0_B]
  by_cases c3 : x.2.2.1.2.length = 0
  case neg => simp only [boxAgg0, b2, g0, z0, z1, z2, z3, te0, te1, te2, te3, call108, hl, Nat.zero_add, c1, c2, c3, Bool.true_and, Bool.false_and, core, leave0_B]
  have c3d := decide_eq_true c3
  by_cases c4 : x.2.2.2.2.length = 0
  case neg =>
    have c4d := decide_eq_false c4
    have c4' : ¬ (x.2.2.2.2.length : Int) = 0 := by omega
    simp only [boxAgg0, b2, g0, z0, z1, z2, z3, te0, te1, te2, te3, call108, hl, Nat.zero_add, c1, c2, c3d, c4d, c4', Bool.true_and, Bool.false_and, core, leave0_B]
  have c4d := decide_eq_true c4
  have c4' : (x.2.2.2.2.length : Int) = 0 := by omega
  have e : ∀ H, L53_10 [.ptr 0 0, .ptr 1 0, I 0, I 0] [] H = some ([B true], []) := fun H => by
    rw [L53_10_eq]
    simp only [Int.lt_irrefl, core, leave0_B]
  simp only [boxAgg0, b2, g0, z0, z1, z2, z3, te0, te1, te2, te3, call108, hl, Nat.zero_add, c1, c2, c3d, c4d, c4', e, Bool.true_and, Bool.false_and, core, leave0_B]
end Ir
end Go.Proofs.YtnjfpnoamgipjaaDoor

set_option linter.unusedVariables false
set_option linter.unusedSimpArgs false
set_option maxRecDepth 100000
namespace Go.Proofs.YtnjfpnoamgipjaaDoor
open Go Go.AM
namespace Ir
/-! ### An instruction that is formed -/
def shp (x : A_TIns) : Bool := decide (x.1 = 19) || (decide (x.1 = 9) && decide (x.2.2.2.2.1 = 1))
def argk (ins : List A_TIns) (x : A_TIns) (at' k v : Int) : Bool := if k < vals x.1 then valR ins v at' else if k = 1 ∧ shp x = true then decide (0 ≤ v) else decide (v = -1)
def kOk (x : A_TIns) : Bool := if x.1 = 2 ∨ x.1 = 6 then (rightR x.2.2.2.2.2.2 && !(decide (x.1 = 2) && decide (x.2.2.2.2.2.2.1 = 5))) else (x.2.2.2.2.2.2.1 == 0 && (x.2.2.2.2.2.2.2 == 0 && true))
def exOk (ins : List A_TIns) (exits : List A_TExit) (regs clen at' : Int) (x : A_TIns) : Bool :=
  if (!mst x.1 && (decide (x.2.2.2.2.2.1 = -1) || !myR x.1)) = true then decide (x.2.2.2.2.2.1 = -1)
  else (decide (0 ≤ x.2.2.2.2.2.1) && decide (x.2.2.2.2.2.1 < exits.length)) && (match exits[x.2.2.2.2.2.1.toNat]? with | some e => exitR ins regs clen at' e | none => false)
def tailR (ins : List A_TIns) (exits : List A_TExit) (regs clen at' : Int) (x : A_TIns) : Bool := (numR x regs && kOk x) && exOk ins exits regs clen at' x
def formR (ins : List A_TIns) (exits : List A_TExit) (regs clen at' : Int) (x : A_TIns) : Bool :=
  if argk ins x at' 0 x.2.1 = true then (if argk ins x at' 1 x.2.2.1 = true then (if argk ins x at' 2 x.2.2.2.1 = true then tailR ins exits regs clen at' x else false) else false) else false

variable (p : A_Prog) (t : A_TTrace) (x : A_TIns)
/-- The heap of 'formed'. -/
def Hf : Heap := [.box ((enc_Prog p).map .p), .box ((enc_TTrace t).map .p), .box ((enc_TIns x).map .p)]
theorem hf0 (n j : Nat) : ld false n (.ptr 0 j) (Hf p t x) = ((enc_Prog p)[j]?).map .p := ldBx (H := Hf p t x) rfl n j
theorem hf1 (n j : Nat) : ld false n (.ptr 1 j) (Hf p t x) = ((enc_TTrace t)[j]?).map .p := ldBx (H := Hf p t x) rfl n j
theorem hf2 (n j : Nat) : ld false n (.ptr 2 j) (Hf p t x) = ((enc_TIns x)[j]?).map .p := ldBx (H := Hf p t x) rfl n j
theorem hf13 : ld true 13 (.ptr 1 0) (Hf p t x) = some (trV t) := ldT13 (H := Hf p t x) rfl
theorem hf3 : ld true 3 (.ptr 0 0) (Hf p t x) = some (pgV p) := by
  rw [ldAgg_box (H := Hf p t x) (xs := (enc_Prog p).map .p) rfl (by rw [List.length_map, len_Prog3]; decide) (by rw [List.length_map, len_Prog3]; decide)]; rfl
theorem hf8 : ld true 8 (.ptr 2 0) (Hf p t x) = some (tiV x) := by
  rw [ldAgg_box (H := Hf p t x) (xs := (enc_TIns x).map .p) rfl (by rw [List.length_map, len_TIns8]; decide) (by rw [List.length_map, len_TIns8]; decide)]; rfl
theorem hfK : ld true 2 (.ptr 2 6) (Hf p t x) = some (vlV x.2.2.2.2.2.2) := by
  rw [ldAgg_box (H := Hf p t x) (xs := (enc_TIns x).map .p) rfl (by rw [List.length_map, len_TIns8]; decide) (by rw [List.length_map, len_TIns8]; decide)]; rfl

abbrev A3 : AV := V (some false) true [x.2.1, x.2.2.1, x.2.2.2.1]
theorem step51 (at' : Int) (i : Nat) (v : Int) (hi : i < 3) (hv : [x.2.1, x.2.2.1, x.2.2.2.1][i]? = some v) :
    L51_12 [I at', .ptr 0 0, .ptr 1 0, .ptr 2 0, I (vals x.1), B (shp x), A3 x, I 3, I i] [] (Hf p t x) = if argk t.2.2.2.1.2 x at' i v = true then L51_12 [I at', .ptr 0 0, .ptr 1 0, .ptr 2 0, I (vals x.1), B (shp x), A3 x, I 3, I ((i + 1 : Nat) : Int)] [] (Hf p t x) else some ([B false], []) := by
  have hlt : (i : Int) < 3 := by omega
  have hl : i < [x.2.1, x.2.2.1, x.2.2.2.1].length := by simpa using hi
  have he : [x.2.1, x.2.2.1, x.2.2.2.1][i] = v := by rw [List.getElem?_eq_getElem hl] at hv; exact Option.some.inj hv
  have e33 : L51_33 [I at', .ptr 0 0, .ptr 1 0, .ptr 2 0, I (vals x.1), B (shp x), A3 x, I 3, I i] [] (Hf p t x) = L51_12 [I at', .ptr 0 0, .ptr 1 0, .ptr 2 0, I (vals x.1), B (shp x), A3 x, I 3, I ((i + 1 : Nat) : Int)] [] (Hf p t x) := by
    rw [L51_33_eq]
    simp only [wrapN (show i < 2 ^ 63 - 1 by omega), core]
  rw [L51_12_eq, argk]
  by_cases c1 : (i : Int) < vals x.1
  · cases c2 : valR t.2.2.2.1.2 v at' with
    | true => simp only [hlt, idxV hl, ldV hl, he, c1, c2, hf13, call103, e33, core]
    | false => simp only [hlt, idxV hl, ldV hl, he, c1, c2, hf13, call103, e33, core, leave0_B]
  by_cases c3 : (i : Int) = 1
  · cases c4 : shp x with
    | true =>
      rw [c4] at e33
      by_cases c5 : v < 0
      · have c5' : ¬ 0 ≤ v := by omega
        simp only [hlt, idxV hl, ldV hl, he, c1, decide_eq_true c3, c5, c5', core, leave0_B]
        rw [if_pos (show (i : Int) = 1 ∧ True from ⟨c3, trivial⟩), if_neg (by decide)]
      · have c5' : 0 ≤ v := by omega
        simp only [hlt, idxV hl, ldV hl, he, c1, decide_eq_true c3, c5, c5', e33, core]
        rw [if_pos (show (i : Int) = 1 ∧ True from ⟨c3, trivial⟩), if_pos rfl]
    | false =>
      rw [c4] at e33
      by_cases c6 : v = -1
      · simp only [hlt, idxV hl, ldV hl, he, c1, decide_eq_true c3, c6, e33, and_false, core]
      · simp only [hlt, idxV hl, ldV hl, he, c1, decide_eq_true c3, c6, e33, and_false, core, leave0_B]
  · by_cases c6 : v = -1
    · simp only [hlt, idxV hl, ldV hl, he, c1, c3, c6, e33, false_and, core]
    · simp only [hlt, idxV hl, ldV hl, he, c1, c3, c6, e33, false_and, core, leave0_B]
/-- The sizes of a trace's lists. -/
structure TOk (t : A_TTrace) : Prop where
  ins : t.2.2.2.1.2.length < 2 ^ 63
  exits : t.2.2.2.2.1.2.length < 2 ^ 63
  each : ∀ e ∈ t.2.2.2.2.1.2, EOk e
  turn : EOk t.2.2.2.2.2.1
  back : EOk t.2.2.2.2.2.2
theorem L49x (ht : TOk t) {f : A_Fn} (h0 : 0 ≤ t.1) (hf : p.1.2[t.1.toNat]? = some f) (at' : Int) : L51_49 [I at', .ptr 0 0, .ptr 1 0, .ptr 2 0] [] (Hf p t x) = some ([B (exOk t.2.2.2.1.2 t.2.2.2.2.1.2 f.2.1 f.2.2.2.2.2.length at' x)], []) := by
  rw [L51_49_eq, exOk]
  cases c1 : mst x.1 with
  | true =>
    by_cases d1 : 0 ≤ x.2.2.2.2.2.1
    case neg => simp only [hf0, hf1, hf2, hf3, hf13, ti0, ti5, tr4, call106, call107, Nat.zero_add, Nat.add_zero, c1, d1, Bool.not_true, Bool.false_and, core, leave0_B]
    by_cases d2 : x.2.2.2.2.2.1 < t.2.2.2.2.1.2.length
    case neg => simp only [hf0, hf1, hf2, hf3, hf13, ti0, ti5, tr4, call106, call107, Nat.zero_add, Nat.add_zero, c1, d1, d2, Bool.not_true, Bool.true_and, Bool.false_and, core, leave0_B]
    have hj : x.2.2.2.2.2.1.toNat < t.2.2.2.2.1.2.length := by omega
    have i34 := idxL (sz := 4) (nl := t.2.2.2.2.1.1) (t := false) (xs := t.2.2.2.2.1.2.flatMap enc_TExit) (n := t.2.2.2.2.1.2.length) (i := x.2.2.2.2.2.1) ⟨d1, d2⟩
    simp only [hf0, hf1, hf2, hf3, hf13, ti0, ti5, tr4, call106, call107, Nat.zero_add, Nat.add_zero, c1, d1, d2, i34, ldRow len_TExit4 (by decide) hj, call52 p t _ at' (ht.each _ (List.getElem_mem hj)) h0 hf, List.getElem?_eq_getElem hj, Bool.not_true, Bool.true_and, Bool.false_and, core, leave0_B]
  | false =>
    by_cases c2 : x.2.2.2.2.2.1 = -1
    · simp only [hf0, hf1, hf2, hf3, hf13, ti0, ti5, tr4, call106, call107, Nat.zero_add, Nat.add_zero, c1, c2, Bool.not_false, Bool.true_and, Bool.true_or, core, leave0_B]
    cases c3 : myR x.1 with
    | false => simp only [hf0, hf1, hf2, hf3, hf13, ti0, ti5, tr4, call106, call107, Nat.zero_add, Nat.add_zero, c1, c2, c3, Bool.not_false, Bool.true_and, Bool.or_true, core, leave0_B]
    | true =>
    by_cases d1 : 0 ≤ x.2.2.2.2.2.1
    case neg => simp only [hf0, hf1, hf2, hf3, hf13, ti0, ti5, tr4, call106, call107, Nat.zero_add, Nat.add_zero, c1, c2, c3, d1, Bool.not_true, Bool.not_false, Bool.true_and, Bool.false_or, Bool.false_and, core, leave0_B]
    by_cases d2 : x.2.2.2.2.2.1 < t.2.2.2.2.1.2.length
    case neg => simp only [hf0, hf1, hf2, hf3, hf13, ti0, ti5, tr4, call106, call107, Nat.zero_add, Nat.add_zero, c1, c2, c3, d1, d2, Bool.not_true, Bool.not_false, Bool.true_and, Bool.false_or, Bool.false_and, core, leave0_B]
    have hj : x.2.2.2.2.2.1.toNat < t.2.2.2.2.1.2.length := by omega
    have i34 := idxL (sz := 4) (nl := t.2.2.2.2.1.1) (t := false) (xs := t.2.2.2.2.1.2.flatMap enc_TExit) (n := t.2.2.2.2.1.2.length) (i := x.2.2.2.2.2.1) ⟨d1, d2⟩
    simp only [hf0, hf1, hf2, hf3, hf13, ti0, ti5, tr4, call106, call107, Nat.zero_add, Nat.add_zero, c1, c2, c3, d1, d2, i34, ldRow len_TExit4 (by decide) hj, call52 p t _ at' (ht.each _ (List.getElem_mem hj)) h0 hf, List.getElem?_eq_getElem hj, Bool.not_true, Bool.not_false, Bool.true_and, Bool.false_or, Bool.false_and, core, leave0_B]
theorem neqV (a b c d : Int) : bin .neq (.agg 2 [(0, .int), (1, .int)]) (.agg [I a, I b]) (.agg [I c, I d]) = some (B !(a == c && (b == d && true))) := rfl
theorem tail51 (ht : TOk t) {f : A_Fn} (h0 : 0 ≤ t.1) (hf : p.1.2[t.1.toNat]? = some f) (at' : Int) : L51_12 [I at', .ptr 0 0, .ptr 1 0, .ptr 2 0, I (vals x.1), B (shp x), A3 x, I 3, I ((3 : Nat) : Int)] [] (Hf p t x) = some ([B (tailR t.2.2.2.1.2 t.2.2.2.2.1.2 f.2.1 f.2.2.2.2.2.length at' x)], []) := by
  obtain ⟨hj, he⟩ := List.getElem?_eq_some_iff.mp hf
  have hlt : t.1 < p.1.2.length := by omega
  have n3 : ¬ (((3 : Nat) : Int) < 3) := by omega
  have i8 := idxL (sz := 5) (nl := p.1.1) (t := false) (xs := p.1.2.flatMap enc_Fn) (n := p.1.2.length) (i := t.1) ⟨h0, hlt⟩
  have x20 : ∀ H n, ld false n (.fp (p.1.2.flatMap enc_Fn) (t.1.toNat * 5 + 1)) H = some (I f.2.1) := fun H n => by rw [ldCell len_Fn5 hj (by decide), he, fn1]; rfl
  have e := L49x p t x ht h0 hf at'
  have b2 : buildA [I 0, I 0] [] = some (.agg [I 0, I 0]) := rfl
  have vv : vlV x.2.2.2.2.2.2 = .agg [I x.2.2.2.2.2.2.1, I x.2.2.2.2.2.2.2] := rfl
  rw [L51_12_eq, tailR, kOk]
  cases c1 : numR x f.2.1 with
  | false => simp only [hf0, hf1, hf2, hf8, hfK, ti0, ti6, tr0, pg0, call104, call105, Nat.zero_add, Nat.add_zero, Nat.reduceAdd, n3, i8, x20, c1, Bool.false_and, core, leave0_B]
  | true =>
  by_cases c2 : x.1 = 2
  · cases c3 : rightR x.2.2.2.2.2.2 with
    | false => simp only [hf0, hf1, hf2, hf8, hfK, ti0, ti6, tr0, pg0, call104, call105, Nat.zero_add, Nat.add_zero, Nat.reduceAdd, n3, i8, x20, c1, c2, c3, true_or, Bool.true_and, Bool.false_and, core, leave0_B]
    | true =>
      by_cases c4 : x.2.2.2.2.2.2.1 = 5
      · simp only [hf0, hf1, hf2, hf8, hfK, ti0, ti6, tr0, pg0, call104, call105, Nat.zero_add, Nat.add_zero, Nat.reduceAdd, n3, i8, x20, c1, c2, c3, c4, true_or, Bool.true_and, Bool.false_and, core, leave0_B]
      · simp only [hf0, hf1, hf2, hf8, hfK, ti0, ti6, tr0, pg0, call104, call105, Nat.zero_add, Nat.add_zero, Nat.reduceAdd, n3, i8, x20, c1, c2, c3, c4, e, true_or, Bool.true_and, Bool.false_and, core, leave0_B]
  by_cases c5 : x.1 = 6
  · cases c3 : rightR x.2.2.2.2.2.2 with
    | false => simp only [hf0, hf1, hf2, hf8, hfK, ti0, ti6, tr0, pg0, call104, call105, Nat.zero_add, Nat.add_zero, Nat.reduceAdd, n3, i8, x20, c1, c5, c3, Int.reduceEq, or_true, Bool.true_and, Bool.false_and, core, leave0_B]
    | true => simp only [hf0, hf1, hf2, hf8, hfK, ti0, ti6, tr0, pg0, call104, call105, Nat.zero_add, Nat.add_zero, Nat.reduceAdd, n3, i8, x20, c1, c5, c3, Int.reduceEq, e, or_true, Bool.true_and, Bool.false_and, core, leave0_B]
  cases c6 : (x.2.2.2.2.2.2.1 == 0 && (x.2.2.2.2.2.2.2 == 0 && true)) with
  | false => simp only [hf0, hf1, hf2, hf8, hfK, ti0, ti6, tr0, pg0, call104, call105, Nat.zero_add, Nat.add_zero, Nat.reduceAdd, n3, i8, x20, c1, c2, c5, b2, vv, neqV, c6, or_self, Bool.true_and, Bool.false_and, core, leave0_B]
  | true => simp only [hf0, hf1, hf2, hf8, hfK, ti0, ti6, tr0, pg0, call104, call105, Nat.zero_add, Nat.add_zero, Nat.reduceAdd, n3, i8, x20, c1, c2, c5, b2, vv, neqV, c6, e, or_self, Bool.true_and, Bool.false_and, core, leave0_B]
theorem call51 (ht : TOk t) {f : A_Fn} (h0 : 0 ≤ t.1) (hf : p.1.2[t.1.toNat]? = some f) {i : Nat} (hi : i < t.2.2.2.1.2.length) (hx : t.2.2.2.1.2[i] = x) (lo : List Nat) (H : Heap) : callA cfg O 51 [pgV p, trV t, I i] lo H = some (B (formR t.2.2.2.1.2 t.2.2.2.2.1.2 f.2.1 f.2.2.2.2.2.length i x), H) := by
  refine callA_args (H' := []) (rs := [B _]) rfl (pureArgsC (pureAgg _ _) (pureArgsC (pureAgg _ _) (pureArgs1 (pureP _ _)))) ?_ rfl
  have s0 := step51 p t x i 0 x.2.1 (by decide) rfl
  have s1 := step51 p t x i 1 x.2.2.1 (by decide) rfl
  have s2 := step51 p t x i 2 x.2.2.2.1 (by decide) rfl
  have s3 := tail51 p t x ht h0 hf i
  have f1 : ∀ (o1 : AObj) j, ld false 1 (.ptr 1 j) [o1, .box ((enc_TTrace t).map .p)] = ((enc_TTrace t)[j]?).map .p := fun o1 j => ldB12 _ _ _ _
  have i5 := idxI (sz := 8) (nl := t.2.2.2.1.1) (t := false) (xs := t.2.2.2.1.2.flatMap enc_TIns) hi
  have x6 : ∀ H, ld true 8 (.fp (t.2.2.2.1.2.flatMap enc_TIns) (i * 8)) H = some (tiV x) := fun H => by rw [ldRow len_TIns8 (by decide) hi, hx]
  have r7 : ∀ o1 o2 : AObj, boxO [] [I 0, I 0, I 0, I 0, I 0, I 0, I 0, I 0] [o1, o2] = some (.ptr 2 0, [o1, o2, .box ([Ia 0, Ia 0, Ia 0, Ia 0, Ia 0, Ia 0, Ia 0, Ia 0].map .p)]) := fun o1 o2 => boxO_p [Ia 0, Ia 0, Ia 0, Ia 0, Ia 0, Ia 0, Ia 0, Ia 0] [o1, o2]
  have r8 : stA 8 (.ptr 2 0) (tiV x) [] [.box ((enc_Prog p).map .p), .box ((enc_TTrace t).map .p), .box ([Ia 0, Ia 0, Ia 0, Ia 0, Ia 0, Ia 0, Ia 0, Ia 0].map .p)] = some (Hf p t x) := stA_new (H := [_, _]) rfl rfl (by decide)
  have l3 : ∀ H, lenA .slice (A3 x) H = some (I 3) := fun _ => rfl
  have fin : L51_12 [I i, .ptr 0 0, .ptr 1 0, .ptr 2 0, I (vals x.1), B (shp x), A3 x, I 3, I 0] [] (Hf p t x) = some ([B (formR t.2.2.2.1.2 t.2.2.2.2.1.2 f.2.1 f.2.2.2.2.2.length i x)], []) := by
    rw [formR]
    refine s0.trans ?_
    split
    · rename_i q; rw [show ((0 : Nat) : Int) = 0 from rfl] at q; rw [if_pos q, s1]
      split
      · rename_i q; rw [show ((1 : Nat) : Int) = 1 from rfl] at q; rw [if_pos q, s2]
        split
        · rename_i q; rw [show ((2 : Nat) : Int) = 2 from rfl] at q; rw [if_pos q]; exact s3
        · rename_i q; rw [show ((2 : Nat) : Int) = 2 from rfl] at q; rw [if_neg q]
      · rename_i q; rw [show ((1 : Nat) : Int) = 1 from rfl] at q; rw [if_neg q]
    · rename_i q; rw [show ((0 : Nat) : Int) = 0 from rfl] at q; rw [if_neg q]
  rw [f51_eq]
  by_cases c1 : x.1 = 19
  · have hs : shp x = true := by simp [shp, c1]
    rw [hs] at fin
    simp only [boxAgg0, box12, f1, tr3, i5, x6, r7, r8, hf2, ti0, ti1, ti2, ti3, ti4, call41, Nat.zero_add, decide_eq_true c1, lit3, l3, core]
    exact fin
  have d1 : decide (x.1 = 19) = false := decide_eq_false c1
  by_cases c2 : x.1 = 9
  · have hs : shp x = decide (x.2.2.2.2.1 = 1) := by simp [shp, c1, c2]
    rw [hs] at fin
    simp only [boxAgg0, box12, f1, tr3, i5, x6, r7, r8, hf2, ti0, ti1, ti2, ti3, ti4, call41, Nat.zero_add, d1, decide_eq_true c2, lit3, l3, core]
    exact fin
  · have hs : shp x = false := by simp [shp, c1, c2]
    rw [hs] at fin
    simp only [boxAgg0, box12, f1, tr3, i5, x6, r7, r8, hf2, ti0, ti1, ti2, ti3, ti4, call41, Nat.zero_add, d1, decide_eq_false c2, lit3, l3, core]
    exact fin
end Ir
end Go.Proofs.YtnjfpnoamgipjaaDoor

set_option linter.unusedVariables false
set_option linter.unusedSimpArgs false
set_option maxRecDepth 100000
namespace Go.Proofs.YtnjfpnoamgipjaaDoor
open Go Go.AM
namespace Ir
/-! ### The document's Check -/
def insE (ins : List A_TIns) (exits : List A_TExit) (regs clen k : Int) : Nat → List A_TIns → Int
  | _, [] => k
  | i, x :: r => if x.1 < 1 ∨ 19 < x.1 then 7 else if formR ins exits regs clen i x = true then insE ins exits regs clen k (i + 1) r else 3
def turnOk (t : A_TTrace) (regs clen : Int) : Bool := if 0 < t.2.2.1 then (decide (t.2.2.2.2.2.1.1 = t.2.1) && exitR t.2.2.2.1.2 regs clen t.2.2.1 t.2.2.2.2.2.1) else noExit t.2.2.2.2.2.1
def endE (t : A_TTrace) (regs clen : Int) : Int :=
  if (((decide (t.2.2.2.2.2.2.1 = t.2.1) && exitR t.2.2.2.1.2 regs clen t.2.2.2.1.2.length t.2.2.2.2.2.2) && turnOk t regs clen) && t.2.2.2.2.1.2.all fun e => exitR t.2.2.2.1.2 regs clen t.2.2.2.1.2.length e) = true then 0 else 3
def chkR (p : A_Prog) (t : A_TTrace) : Int :=
  if 300 < t.2.2.2.1.2.length ∨ 200 < t.2.2.2.2.1.2.length then 2
  else match (if 0 ≤ t.1 then p.1.2[t.1.toNat]? else none) with
    | none => 3
    | some f => if t.2.1 < 0 ∨ (f.2.2.2.2.2.length : Int) ≤ t.2.1 ∨ t.2.2.1 < 0 ∨ (t.2.2.2.1.2.length : Int) < t.2.2.1 then 3
      else insE t.2.2.2.1.2 t.2.2.2.2.1.2 f.2.1 f.2.2.2.2.2.length (endE t f.2.1 f.2.2.2.2.2.length) 0 t.2.2.2.1.2

variable {p : A_Prog} {t : A_TTrace} {f : A_Fn} (ht : TOk t) (h0 : 0 ≤ t.1) (hf : p.1.2[t.1.toNat]? = some f)
theorem ldP3 {H : Heap} {id : Nat} (h : H[id]? = some (.box ((enc_Prog p).map .p))) : ld true 3 (.ptr id 0) H = some (pgV p) := by
  rw [ldAgg_box h (by rw [List.length_map, len_Prog3]; decide) (by rw [List.length_map, len_Prog3]; decide)]; rfl
theorem ldBack {H : Heap} {id : Nat} (h : H[id]? = some (.box ((enc_TTrace t).map .p))) : ld true 4 (.ptr id 9) H = some (exV t.2.2.2.2.2.2) := by
  rw [ldAgg_box h (by rw [List.length_map, len_TTrace13]; decide) (by rw [List.length_map, len_TTrace13]; decide)]; rfl
theorem ldTurn {H : Heap} {id : Nat} (h : H[id]? = some (.box ((enc_TTrace t).map .p))) : ld true 4 (.ptr id 5) H = some (exV t.2.2.2.2.2.1) := by
  rw [ldAgg_box h (by rw [List.length_map, len_TTrace13]; decide) (by rw [List.length_map, len_TTrace13]; decide)]; rfl
include ht h0 hf in
theorem L38 : ∀ (c i : Nat) (ok : Bool) (H : Heap), t.2.2.2.2.1.2.length - i = c → i ≤ t.2.2.2.2.1.2.length → H[0]? = some (.box ((enc_Prog p).map .p)) → H[1]? = some (.box ((enc_TTrace t).map .p)) →
    L20_38 [.ptr 0 0, .ptr 1 0, B ok, .p (.sl t.2.2.2.2.1.1 false t.2.2.2.2.1.2.length (t.2.2.2.2.1.2.flatMap enc_TExit)), I t.2.2.2.2.1.2.length, I i] [] H
      = some ([I (if (ok && (t.2.2.2.2.1.2.drop i).all fun e => exitR t.2.2.2.1.2 f.2.1 f.2.2.2.2.2.length t.2.2.2.1.2.length e) = true then 0 else 3)], []) := by
  intro c
  have hx := ht.exits
  induction c with
  | zero =>
    intro i ok H hc hi h1 h2
    have : i = t.2.2.2.2.1.2.length := by omega
    subst this
    rw [L20_38_eq]
    cases ok <;> simp only [Int.lt_irrefl, List.drop_length, List.all_nil, Bool.and_true, core, leave0_I]
  | succ c ih =>
    intro i ok H hc hi h1 h2
    have h : i < t.2.2.2.2.1.2.length := by omega
    have hlt : (i : Int) < t.2.2.2.2.1.2.length := by omega
    obtain ⟨m, hm⟩ : ∃ m, t.2.2.2.2.1.2[i] = m := ⟨_, rfl⟩
    have x3 : ld true 4 (.fp (t.2.2.2.2.1.2.flatMap enc_TExit) (i * 4)) H = some (exV m) := by rw [ldRow len_TExit4 (by decide) h, hm]
    have r4 : boxO [] [I 0, I 0, .p nilS, .p nilS] H = some (.ptr H.length 0, H ++ [.box ([Ia 0, Ia 0, nilS, nilS].map .p)]) := boxO_p [Ia 0, Ia 0, nilS, nilS] H
    have r5 : stA 4 (.ptr H.length 0) (exV m) [] (H ++ [.box ([Ia 0, Ia 0, nilS, nilS].map .p)]) = some (H ++ [.box ((enc_TExit m).map .p)]) := stA_new rfl rfl (by decide)
    have hc1 := idxI (sz := 4) (nl := t.2.2.2.2.1.1) (t := false) (xs := t.2.2.2.2.1.2.flatMap enc_TExit) h
    have b0 : (H ++ [AObj.box ((enc_TExit m).map .p)])[0]? = some (.box ((enc_Prog p).map .p)) := push_get? h1 _
    have b1 : (H ++ [AObj.box ((enc_TExit m).map .p)])[1]? = some (.box ((enc_TTrace t).map .p)) := push_get? h2 _
    have p3 := ldP3 b0
    have t13 := ldT13 b1
    have fx := fun j => ldBx b1 1 j
    have x8 : ld true 4 (.ptr H.length 0) (H ++ [AObj.box ((enc_TExit m).map .p)]) = some (exV m) := ldA (len_TExit4 m) (by decide) H
    have w := wrapN (show i < 2 ^ 63 - 1 by omega)
    have e52 := call52 p t m t.2.2.2.1.2.length (ht.each m (hm ▸ List.getElem_mem h)) h0 hf []
    rw [L20_38_eq, List.drop_eq_getElem_cons h, hm, List.all_cons]
    cases ok with
    | true =>
      simp only [hlt, hc1, x3, r4, r5, p3, t13, fx, tr3, x8, e52, w, Nat.zero_add, core]
      rw [ih (i + 1) _ _ (by omega) (by omega) b0 b1, Bool.true_and]
    | false =>
      simp only [hlt, hc1, x3, r4, r5, p3, t13, fx, tr3, x8, e52, w, Nat.zero_add, core]
      rw [ih (i + 1) _ _ (by omega) (by omega) b0 b1, Bool.false_and, Bool.false_and]
include ht h0 hf in
theorem end20 {H : Heap} (h1 : H[0]? = some (.box ((enc_Prog p).map .p))) (h2 : H[1]? = some (.box ((enc_TTrace t).map .p))) (ls : AV) (n : Nat) : L20_14 [.ptr 0 0, .ptr 1 0, ls, I n, I n] [] H = some ([I (endE t f.2.1 f.2.2.2.2.2.length)], []) := by
  have fx := fun j => ldBx h2 1 j
  have p3 := ldP3 h1
  have t13 := ldT13 h2
  have lb := ldBack h2
  have lt := ldTurn h2
  have e37 : ∀ ok : Bool, L20_37 [.ptr 0 0, .ptr 1 0, B ok] [] H = some ([I (if (ok && t.2.2.2.2.1.2.all fun e => exitR t.2.2.2.1.2 f.2.1 f.2.2.2.2.2.length t.2.2.2.1.2.length e) = true then 0 else 3)], []) := fun ok => by
    have := L38 ht h0 hf t.2.2.2.2.1.2.length 0 ok H (by omega) (by omega) h1 h2
    rw [List.drop_zero] at this
    rw [L20_37_eq]
    simp only [fx, tr4, Nat.zero_add, core]
    exact this
  have e52b := call52 p t t.2.2.2.2.2.2 t.2.2.2.1.2.length ht.back h0 hf []
  have e52t := call52 p t t.2.2.2.2.2.1 t.2.2.1 ht.turn h0 hf []
  have bz : buildA [I 0, I 0, .p nilS, .p nilS] [] = some (.agg [I 0, I 0, .p nilS, .p nilS]) := rfl
  rw [L20_14_eq, endE, turnOk]
  by_cases c1 : t.2.2.2.2.2.2.1 = t.2.1
  case neg =>
    by_cases c3 : 0 < t.2.2.1
    · simp only [Int.lt_irrefl, fx, p3, t13, lb, lt, tr1, tr2, tr3, tr5, tr9, Nat.zero_add, Nat.add_zero, c1, c3, e37, Bool.false_and, core]
    · simp only [Int.lt_irrefl, fx, p3, t13, lb, lt, tr1, tr2, tr3, tr5, tr9, Nat.zero_add, Nat.add_zero, c1, c3, e37, Bool.false_and, core]
  have d1 := decide_eq_true c1
  cases c2 : exitR t.2.2.2.1.2 f.2.1 f.2.2.2.2.2.length t.2.2.2.1.2.length t.2.2.2.2.2.2 with
  | false =>
    by_cases c3 : 0 < t.2.2.1
    · simp only [Int.lt_irrefl, fx, p3, t13, lb, lt, tr1, tr2, tr3, tr5, tr9, Nat.zero_add, Nat.add_zero, d1, c2, c3, e52b, e37, Bool.true_and, Bool.false_and, core]
    · simp only [Int.lt_irrefl, fx, p3, t13, lb, lt, tr1, tr2, tr3, tr5, tr9, Nat.zero_add, Nat.add_zero, d1, c2, c3, e52b, e37, Bool.true_and, Bool.false_and, core]
  | true =>
    by_cases c3 : 0 < t.2.2.1
    · by_cases c4 : t.2.2.2.2.2.1.1 = t.2.1
      · simp only [Int.lt_irrefl, fx, p3, t13, lb, lt, tr1, tr2, tr3, tr5, tr9, Nat.zero_add, Nat.add_zero, d1, c2, c3, decide_eq_true c4, e52b, e52t, e37, Bool.true_and, core]
      · simp only [Int.lt_irrefl, fx, p3, t13, lb, lt, tr1, tr2, tr3, tr5, tr9, Nat.zero_add, Nat.add_zero, d1, c2, c3, decide_eq_false c4, e52b, e52t, e37, Bool.true_and, Bool.false_and, core]
    · simp only [Int.lt_irrefl, fx, p3, t13, lb, lt, tr1, tr2, tr3, tr5, tr9, Nat.zero_add, Nat.add_zero, d1, c2, c3, e52b, bz, call53, e37, Bool.true_and, core]
include ht h0 hf in
theorem L14 : ∀ (c i : Nat) (H : Heap), t.2.2.2.1.2.length - i = c → i ≤ t.2.2.2.1.2.length → H[0]? = some (.box ((enc_Prog p).map .p)) → H[1]? = some (.box ((enc_TTrace t).map .p)) →
    L20_14 [.ptr 0 0, .ptr 1 0, .p (.sl t.2.2.2.1.1 false t.2.2.2.1.2.length (t.2.2.2.1.2.flatMap enc_TIns)), I t.2.2.2.1.2.length, I i] [] H
      = some ([I (insE t.2.2.2.1.2 t.2.2.2.2.1.2 f.2.1 f.2.2.2.2.2.length (endE t f.2.1 f.2.2.2.2.2.length) i (t.2.2.2.1.2.drop i))], []) := by
  intro c
  have hx := ht.ins
  induction c with
  | zero =>
    intro i H hc hi h1 h2
    have : i = t.2.2.2.1.2.length := by omega
    subst this
    rw [end20 ht h0 hf h1 h2, List.drop_length, insE]
  | succ c ih =>
    intro i H hc hi h1 h2
    have h : i < t.2.2.2.1.2.length := by omega
    have hlt : (i : Int) < t.2.2.2.1.2.length := by omega
    obtain ⟨x, hm⟩ : ∃ x, t.2.2.2.1.2[i] = x := ⟨_, rfl⟩
    have x3 : ld true 8 (.fp (t.2.2.2.1.2.flatMap enc_TIns) (i * 8)) H = some (tiV x) := by rw [ldRow len_TIns8 (by decide) h, hm]
    have r4 : boxO [] [I 0, I 0, I 0, I 0, I 0, I 0, I 0, I 0] H = some (.ptr H.length 0, H ++ [.box ([Ia 0, Ia 0, Ia 0, Ia 0, Ia 0, Ia 0, Ia 0, Ia 0].map .p)]) := boxO_p [Ia 0, Ia 0, Ia 0, Ia 0, Ia 0, Ia 0, Ia 0, Ia 0] H
    have r5 : stA 8 (.ptr H.length 0) (tiV x) [] (H ++ [.box ([Ia 0, Ia 0, Ia 0, Ia 0, Ia 0, Ia 0, Ia 0, Ia 0].map .p)]) = some (H ++ [.box ((enc_TIns x).map .p)]) := stA_new rfl rfl (by decide)
    have hc1 := idxI (sz := 8) (nl := t.2.2.2.1.1) (t := false) (xs := t.2.2.2.1.2.flatMap enc_TIns) h
    have b0 : (H ++ [AObj.box ((enc_TIns x).map .p)])[0]? = some (.box ((enc_Prog p).map .p)) := push_get? h1 _
    have b1 : (H ++ [AObj.box ((enc_TIns x).map .p)])[1]? = some (.box ((enc_TTrace t).map .p)) := push_get? h2 _
    have fm : ∀ n j, ld false n (.ptr H.length j) (H ++ [AObj.box ((enc_TIns x).map .p)]) = ((enc_TIns x)[j]?).map .p := fun n j => ldB _ _ _ _
    have p3 := ldP3 b0
    have t13 := ldT13 b1
    have w := wrapN (show i < 2 ^ 63 - 1 by omega)
    have e51 := call51 p t x ht h0 hf h hm []
    rw [L20_14_eq, List.drop_eq_getElem_cons h, hm, insE]
    by_cases c1 : x.1 < 1
    · simp only [hlt, hc1, x3, r4, r5, fm, ti0, c1, true_or, Nat.zero_add, core, leave0_I]
    by_cases c2 : 19 < x.1
    · simp only [hlt, hc1, x3, r4, r5, fm, ti0, c1, c2, or_true, Nat.zero_add, core, leave0_I]
    cases c3 : formR t.2.2.2.1.2 t.2.2.2.2.1.2 f.2.1 f.2.2.2.2.2.length i x with
    | false => simp only [hlt, hc1, x3, r4, r5, fm, ti0, p3, t13, c1, c2, c3, e51, or_self, Nat.zero_add, core, leave0_I]
    | true =>
      simp only [hlt, hc1, x3, r4, r5, fm, ti0, p3, t13, c1, c2, c3, e51, w, or_self, Nat.zero_add, core]
      exact ih (i + 1) _ (by omega) (by omega) b0 b1
omit h0 hf in
include ht in
theorem call20 (lo : List Nat) (H : Heap) : callA cfg O 20 [pgV p, trV t] lo H = some (I (chkR p t), H) := by
  refine callA_args (H' := []) (rs := [I _]) rfl (pureArgsC (pureAgg _ _) (pureArgs1 (pureAgg _ _))) ?_ rfl
  have f0 : ∀ (o2 : AObj) j, ld false 1 (.ptr 0 j) [.box ((enc_Prog p).map .p), o2] = ((enc_Prog p)[j]?).map .p := fun o2 j => ldB02 _ _ _ _
  have f1 : ∀ (o1 : AObj) j, ld false 1 (.ptr 1 j) [o1, .box ((enc_TTrace t).map .p)] = ((enc_TTrace t)[j]?).map .p := fun o1 j => ldB12 _ _ _ _
  rw [f20_eq, chkR]
  by_cases c1 : 300 < t.2.2.2.1.2.length
  · have c1' : (300 : Int) < t.2.2.2.1.2.length := by omega
    simp only [boxAgg0, box12, f0, f1, pg0, tr0, tr1, tr2, tr3, tr4, Nat.zero_add, c1, c1', true_or, core, leave0_I]
  have c1' : ¬ (300 : Int) < t.2.2.2.1.2.length := by omega
  by_cases c2 : 200 < t.2.2.2.2.1.2.length
  · have c2' : (200 : Int) < t.2.2.2.2.1.2.length := by omega
    simp only [boxAgg0, box12, f0, f1, pg0, tr0, tr1, tr2, tr3, tr4, Nat.zero_add, c1', c2, c2', or_true, core, leave0_I]
  have c2' : ¬ (200 : Int) < t.2.2.2.2.1.2.length := by omega
  by_cases c3 : 0 ≤ t.1
  case neg =>
    have c3' : t.1 < 0 := by omega
    simp only [boxAgg0, box12, f0, f1, pg0, tr0, tr1, tr2, tr3, tr4, Nat.zero_add, c1, c1', c2, c2', c3, c3', or_self, core, leave0_I]
  have c3' : ¬ t.1 < 0 := by omega
  cases c4 : p.1.2[t.1.toNat]? with
  | none =>
    have c4' : (p.1.2.length : Int) ≤ t.1 := by
      have := List.getElem?_eq_none_iff.mp c4
      omega
    simp only [boxAgg0, box12, f0, f1, pg0, tr0, tr1, tr2, tr3, tr4, Nat.zero_add, c1, c1', c2, c2', c3, c3', c4, c4', or_self, core, leave0_I]
  | some f =>
  obtain ⟨hj, he⟩ := List.getElem?_eq_some_iff.mp c4
  have c4' : ¬ (p.1.2.length : Int) ≤ t.1 := by omega
  have i8 := idxL (sz := 5) (nl := p.1.1) (t := false) (xs := p.1.2.flatMap enc_Fn) (n := p.1.2.length) (i := t.1) ⟨c3, by omega⟩
  have x34 : ∀ H n, ld false n (.fp (p.1.2.flatMap enc_Fn) (t.1.toNat * 5 + 4)) H = some (.p (.sl f.2.2.2.2.1 false f.2.2.2.2.2.length (f.2.2.2.2.2.flatMap enc_Ins))) := fun H n => by rw [ldCell len_Fn5 hj (by decide), he, fn4]; rfl
  by_cases c5 : t.2.1 < 0
  · simp only [boxAgg0, box12, f0, f1, pg0, tr0, tr1, tr2, tr3, tr4, Nat.zero_add, c1, c1', c2, c2', c3, c3', c4', c5, true_or, or_self, core, leave0_I]
  by_cases c6 : (f.2.2.2.2.2.length : Int) ≤ t.2.1
  · simp only [boxAgg0, box12, f0, f1, pg0, tr0, tr1, tr2, tr3, tr4, Nat.zero_add, c1, c1', c2, c2', c3, c3', c4', c5, c6, i8, x34, true_or, or_true, or_self, core, leave0_I]
  by_cases c7 : t.2.2.1 < 0
  · simp only [boxAgg0, box12, f0, f1, pg0, tr0, tr1, tr2, tr3, tr4, Nat.zero_add, c1, c1', c2, c2', c3, c3', c4', c5, c6, c7, i8, x34, true_or, or_true, or_self, core, leave0_I]
  by_cases c8 : (t.2.2.2.1.2.length : Int) < t.2.2.1
  · simp only [boxAgg0, box12, f0, f1, pg0, tr0, tr1, tr2, tr3, tr4, Nat.zero_add, c1, c1', c2, c2', c3, c3', c4', c5, c6, c7, c8, i8, x34, or_true, or_self, core, leave0_I]
  simp only [boxAgg0, box12, f0, f1, pg0, tr0, tr1, tr2, tr3, tr4, Nat.zero_add, c1, c1', c2, c2', c3, c3', c4', c5, c6, c7, c8, i8, x34, or_self, core]
  exact L14 ht c3 c4 t.2.2.2.1.2.length 0 [.box ((enc_Prog p).map .p), .box ((enc_TTrace t).map .p)] (by omega) (by omega) rfl rfl
end Ir
end Go.Proofs.YtnjfpnoamgipjaaDoor

set_option linter.unusedVariables false
set_option linter.unusedSimpArgs false
set_option maxRecDepth 100000
namespace Go.Proofs.YtnjfpnoamgipjaaDoor
open Go Go.AM
namespace Ir
/-! ### Forms of operations -/
abbrev Fm : Type := Int × Int × Int × Bool × Bool × Int
def formT : List Fm := [(0, 0, 1073741824, false, true, 0), (0, 0, 0, true, true, 0), (0, 0, 0, false, true, 0), (1, 0, 6, false, false, 2), (1, 0, 1, false, false, 2), (1, 0, 0, true, false, 2), (2, 3, 10, false, true, 1), (1, 11, 12, false, true, 1), (1, 1, 7, false, false, 2), (1, 0, 99, false, true, 0), (2, 0, 99, false, false, 0), (2, 1, 1073741824, false, false, 2), (2, 0, 0, false, true, 2), (3, 0, 0, false, false, 2), (1, 0, 0, false, true, 0), (0, 1, 3, false, true, 2), (2, 0, 0, false, false, 1), (0, 0, 0, false, true, 2), (0, 1, 1073741824, false, false, 2)]
def fm0 : Fm := (0, 0, 0, false, false, 0)
def fmOf (op : Int) : Fm := if 1 ≤ op ∧ op ≤ 19 then formT.getD (op.toNat - 1) fm0 else fm0
def isOp (op : Int) : Bool := decide (1 ≤ op ∧ op ≤ 19)
def eFm (f : Fm) : List PV := [Ia f.1, Ia f.2.1, Ia f.2.2.1, .v (.bool f.2.2.2.1), .v (.bool f.2.2.2.2.1), Ia f.2.2.2.2.2]
abbrev fmV (f : Fm) : AV := .agg ((eFm f).map .p)
theorem len_Fm6 (f : Fm) : (eFm f).length = 6 := rfl
theorem nat19 : ∀ k : Nat, 1 ≤ k → k ≤ 19 → O.ent 40 [I k] [] [] = some ([fmV (fmOf k), B true], [])
  | 0, h, _ => absurd h (by omega)
  | 1, _, _ => by rw [f40_eq]; kernel_rfl
  | 2, _, _ => by rw [f40_eq]; kernel_rfl
  | 3, _, _ => by rw [f40_eq]; kernel_rfl
  | 4, _, _ => by rw [f40_eq]; kernel_rfl
  | 5, _, _ => by rw [f40_eq]; kernel_rfl
  | 6, _, _ => by rw [f40_eq]; kernel_rfl
  | 7, _, _ => by rw [f40_eq]; kernel_rfl
  | 8, _, _ => by rw [f40_eq]; kernel_rfl
  | 9, _, _ => by rw [f40_eq]; kernel_rfl
  | 10, _, _ => by rw [f40_eq]; kernel_rfl
  | 11, _, _ => by rw [f40_eq]; kernel_rfl
  | 12, _, _ => by rw [f40_eq]; kernel_rfl
  | 13, _, _ => by rw [f40_eq]; kernel_rfl
  | 14, _, _ => by rw [f40_eq]; kernel_rfl
  | 15, _, _ => by rw [f40_eq]; kernel_rfl
  | 16, _, _ => by rw [f40_eq]; kernel_rfl
  | 17, _, _ => by rw [f40_eq]; kernel_rfl
  | 18, _, _ => by rw [f40_eq]; kernel_rfl
  | 19, _, _ => by rw [f40_eq]; kernel_rfl
  | n + 20, _, h => absurd h (by omega)
theorem ent40 (op : Int) : O.ent 40 [I op] [] [] = some ([fmV (fmOf op), B (isOp op)], []) := by
  by_cases h : 1 ≤ op ∧ op ≤ 19
  · have := nat19 op.toNat (by omega) (by omega)
    rw [show ((op.toNat : Nat) : Int) = op by omega] at this
    rw [this, isOp, decide_eq_true h]
  · rw [f40_eq, isOp, decide_eq_false h, fmOf, if_neg h]
    have n1 : ¬ op = 1 := by omega
    have n2 : ¬ op = 2 := by omega
    have n3 : ¬ op = 3 := by omega
    have n4 : ¬ op = 4 := by omega
    have n5 : ¬ op = 5 := by omega
    have n6 : ¬ op = 6 := by omega
    have n7 : ¬ op = 7 := by omega
    have n8 : ¬ op = 8 := by omega
    have n9 : ¬ op = 9 := by omega
    have n10 : ¬ op = 10 := by omega
    have n11 : ¬ op = 11 := by omega
    have n12 : ¬ op = 12 := by omega
    have n13 : ¬ op = 13 := by omega
    have n14 : ¬ op = 14 := by omega
    have n15 : ¬ op = 15 := by omega
    have n16 : ¬ op = 16 := by omega
    have n17 : ¬ op = 17 := by omega
    have n18 : ¬ op = 18 := by omega
    have n19 : ¬ op = 19 := by omega
    simp only [n1, n2, n3, n4, n5, n6, n7, n8, n9, n10, n11, n12, n13, n14, n15, n16, n17, n18, n19, core]
    rfl
theorem call40 (op : Int) (lo : List Nat) (H : Heap) : callA cfg O 40 [I op] lo H = some (.tup [fmV (fmOf op), B (isOp op)], H) :=
  callA_pure (xs := [Ia op]) (rs := [fmV (fmOf op), B (isOp op)]) (H' := []) rfl (ent40 op) rfl
theorem box6 (H : Heap) : boxO [] [I 0, I 0, I 0, B false, B false, I 0] H = some (.ptr H.length 0, H ++ [.box ([Ia 0, Ia 0, Ia 0, .v (.bool false), .v (.bool false), Ia 0].map .p)]) := boxO_p [Ia 0, Ia 0, Ia 0, .v (.bool false), .v (.bool false), Ia 0] H
theorem st6 (f : Fm) (lo : List Nat) (H : Heap) : stA 6 (.ptr H.length 0) (fmV f) lo (H ++ [.box ([Ia 0, Ia 0, Ia 0, .v (.bool false), .v (.bool false), Ia 0].map .p)]) = some (H ++ [.box ((eFm f).map .p)]) := stA_new rfl rfl (by decide)
def tellI (op : Int) : Bool := (fmOf op).2.2.2.2.1
theorem call15 (op : Int) (lo : List Nat) (H : Heap) : callA cfg O 15 [I op] lo H = some (B (tellI op), H) := by
  refine call1 rfl ?_ lo H
  rw [f15_eq]
  have b6 := box6 []
  have s6 := st6 (fmOf op) [] []
  have g4 : ld false 1 (.ptr 0 4) [.box ((eFm (fmOf op)).map .p)] = some (B (tellI op)) := by rw [ldB0]; rfl
  simp only [List.length_nil, List.nil_append] at b6 s6
  simp only [call40, b6, s6, g4, Nat.zero_add, core, leave0_B]
theorem tell19 : ∀ k : Nat, 1 ≤ k → k ≤ 19 → tellI k = tells k
  | 0, h, _ => absurd h (by omega)
  | 1, _, _ => rfl
  | 2, _, _ => rfl
  | 3, _, _ => rfl
  | 4, _, _ => rfl
  | 5, _, _ => rfl
  | 6, _, _ => rfl
  | 7, _, _ => rfl
  | 8, _, _ => rfl
  | 9, _, _ => rfl
  | 10, _, _ => rfl
  | 11, _, _ => rfl
  | 12, _, _ => rfl
  | 13, _, _ => rfl
  | 14, _, _ => rfl
  | 15, _, _ => rfl
  | 16, _, _ => rfl
  | 17, _, _ => rfl
  | 18, _, _ => rfl
  | 19, _, _ => rfl
  | n + 20, _, h => absurd h (by omega)
theorem tell_eq (op : Int) : tellI op = tells op := by
  by_cases h : 1 ≤ op ∧ op ≤ 19
  · have := tell19 op.toNat (by omega) (by omega)
    rwa [show ((op.toNat : Nat) : Int) = op by omega] at this
  · have e1 : tellI op = false := by rw [tellI, fmOf, if_neg h]; rfl
    have e2 : tells op = false := by
      refine decide_eq_false ?_
      simp only [List.mem_cons, List.not_mem_nil, or_false]
      omega
    rw [e1, e2]

/-! ### Asks -/
theorem asks_le : ∀ op : Int, 0 ≤ (fmOf op).1 ∧ (fmOf op).1 ≤ 3 := by
  intro op
  by_cases h : 1 ≤ op ∧ op ≤ 19
  · have go : ∀ k : Nat, k < 19 → 0 ≤ (formT.getD k fm0).1 ∧ (formT.getD k fm0).1 ≤ 3 := by decide
    rw [fmOf, if_pos h]
    exact go _ (by omega)
  · rw [fmOf, if_neg h]; decide
def asksL (x : A_TIns) : List Int := [x.2.1, x.2.2.1, x.2.2.2.1].take (fmOf x.1).1.toNat
theorem call13 (x : A_TIns) (lo : List Nat) (H : Heap) : ∃ nl tg, callA cfg O 13 [tiV x] lo H = some (V nl tg (asksL x), H) := by
  obtain ⟨a0, a3⟩ := asks_le x.1
  suffices h : ∃ nl tg, O.ent 13 [tiV x] [] [] = some ([V nl tg (asksL x)], []) by
    obtain ⟨nl, tg, h⟩ := h
    exact ⟨nl, tg, callA_args (rs := [V nl tg (asksL x)]) rfl (pureArgs1 (pureAgg _ _)) h rfl⟩
  have b6 := fun o : AObj => box6 [o]
  have s6 := fun o : AObj => st6 (fmOf x.1) [] [o]
  simp only [List.length_cons, List.length_nil, Nat.zero_add, List.cons_append, List.nil_append] at b6 s6
  cases hi : isOp x.1 with
  | false =>
    have e : fmOf x.1 = fm0 := by
      rw [fmOf, if_neg]
      intro h
      rw [isOp, decide_eq_true h] at hi; cases hi
    have el : asksL x = [] := by rw [asksL, e]; rfl
    refine ⟨some true, true, ?_⟩
    rw [f13_eq, el]
    simp only [boxAgg0, ldB0, ti0, Nat.zero_add, call40, b6, s6, hi, core]
    rfl
  | true =>
    rw [f13_eq]
    have g1 : ∀ (o : AObj) j, ld false 1 (.ptr 0 j) [.box ((enc_TIns x).map .p), o] = ((enc_TIns x)[j]?).map .p := fun o j => ldB02 _ _ _ _
    have bu : buildA [I 0, I 0, I 0] [(0, 1, I x.2.1), (1, 1, I x.2.2.1), (2, 1, I x.2.2.2.1)] = some (.agg [I x.2.1, I x.2.2.1, I x.2.2.2.1]) := rfl
    have ma : ∀ o1 o2 : AObj, mkArr 1 [(.v (.int .i64 0)), (.v (.int .i64 0)), (.v (.int .i64 0))] [o1, o2] = (.rptr 2 0 0, [o1, o2, .row 0 1 [Ia 0, Ia 0, Ia 0]]) := fun _ _ => rfl
    have sa : ∀ o1 o2 : AObj, stA 3 (.rptr 2 0 0) (.agg [I x.2.1, I x.2.2.1, I x.2.2.2.1]) [] [o1, o2, .row 0 1 [Ia 0, Ia 0, Ia 0]] = some [o1, o2, .row 0 1 [Ia x.2.1, Ia x.2.2.1, Ia x.2.2.2.1]] := fun _ _ => rfl
    have g2 : ∀ (o1 o3 : AObj), ld false 1 (.ptr 1 0) [o1, .box ((eFm (fmOf x.1)).map .p), o3] = some (I (fmOf x.1).1) := fun o1 o3 => ldBx (xs := eFm (fmOf x.1)) (H := [o1, .box ((eFm (fmOf x.1)).map .p), o3]) (id := 1) rfl 1 0
    have ca : ∀ o1 o2 : AObj, cutArr 1 3 (.rptr 2 0 0) none (some (I (fmOf x.1).1)) [o1, o2, .row 0 1 [Ia x.2.1, Ia x.2.2.1, Ia x.2.2.2.1]] = some (.row 2 0 0 (fmOf x.1).1.toNat) := fun o1 o2 => by
      show (if _ then _ else _) = _
      rw [if_pos ⟨rfl, rfl, by simp, by omega, a0, by omega, by decide⟩]
      simp
    have hc : ∀ o1 o2 : AObj, cellsA 1 (.row 2 0 0 (fmOf x.1).1.toNat) [o1, o2, .row 0 1 [Ia x.2.1, Ia x.2.2.1, Ia x.2.2.2.1]] = some ((fmOf x.1).1.toNat, (asksL x).map Ia) := fun o1 o2 => by
      show (if _ then _ else _) = _
      rw [if_pos ⟨rfl, rfl, by simp; omega⟩, asksL, List.map_take]
      simp
    have hl : (asksL x).length = (fmOf x.1).1.toNat := by rw [asksL, List.length_take]; simp; omega
    by_cases hz : (fmOf x.1).1.toNat = 0
    · have el : asksL x = [] := by rw [asksL, hz]; rfl
      have ap : ∀ o1 o2 : AObj, appA 1 8 (.p nilS) (.row 2 0 0 (fmOf x.1).1.toNat) [o1, o2, .row 0 1 [Ia x.2.1, Ia x.2.2.1, Ia x.2.2.2.1]] = some (.p nilS, [o1, o2, .row 0 1 [Ia x.2.1, Ia x.2.2.1, Ia x.2.2.2.1]]) := fun o1 o2 => by
        rw [appA, hc, obs, hz]; rfl
      refine ⟨some true, true, ?_⟩
      rw [el]
      simp only [boxAgg0, ldB0, g1, g2, ti0, ti1, ti2, ti3, Nat.zero_add, call40, b6, s6, hi, bu, ma, sa, ca, ap, core]
      rfl
    · have ap : ∀ o1 o2 : AObj, appA 1 8 (.p nilS) (.row 2 0 0 (fmOf x.1).1.toNat) [o1, o2, .row 0 1 [Ia x.2.1, Ia x.2.2.1, Ia x.2.2.2.1]] = some (.row 3 0 0 (fmOf x.1).1.toNat, [o1, o2, .row 0 1 [Ia x.2.1, Ia x.2.2.1, Ia x.2.2.2.1], .row 0 1 ((asksL x).map Ia)]) := fun o1 o2 => by
        rw [appA, hc, obs]
        show (if _ then _ else if _ then _ else _) = _
        rw [if_neg hz, if_pos (by unfold room; omega)]
        rfl
      have lv : ∀ o1 o2 o3 : AObj, leave 0 [] [.row 3 0 0 (fmOf x.1).1.toNat] [o1, o2, o3, .row 0 1 ((asksL x).map Ia)] = some ([V (some false) false (asksL x)], []) := fun o1 o2 o3 => by
        refine leave0_all (ps := [.sl (some false) false (asksL x).length ((asksL x).map Ia)]) (H' := [o1, o2, o3, .row 1 1 []]) ?_
        have : toPV [o1, o2, o3, .row 0 1 ((asksL x).map Ia)] (.row 3 0 0 (fmOf x.1).1.toNat) = some (.sl (some false) false (asksL x).length ((asksL x).map Ia), [o1, o2, o3, .row 1 1 []]) := by
          show (if _ then _ else _) = _
          rw [if_pos ⟨rfl, by rw [List.length_map, hl]; omega⟩, if_pos (by omega), hl, List.drop_zero, List.take_of_length_le (by rw [List.length_map, hl]; omega)]
          rfl
        show ((toPV _ _).map _).bind _ = _
        rw [this]; rfl
      refine ⟨some false, false, ?_⟩
      simp only [boxAgg0, ldB0, g1, g2, ti0, ti1, ti2, ti3, Nat.zero_add, call40, b6, s6, hi, bu, ma, sa, ca, ap, lv, core]

/-! ### Lists compared -/
theorem drop_iff {a b : List Int} {i : Nat} (ha : i < a.length) (hb : i < b.length) : a.drop i = b.drop i ↔ a[i] = b[i] ∧ a.drop (i + 1) = b.drop (i + 1) := by
  rw [List.drop_eq_getElem_cons ha, List.drop_eq_getElem_cons hb, List.cons.injEq]
theorem call12 {n1 n2 : Option Bool} {t1 t2 : Bool} (a b : List Int) (hl : a.length < 2 ^ 63) (lo : List Nat) (H : Heap) : callA cfg O 12 [V n1 t1 a, V n2 t2 b] lo H = some (B (decide (a = b)), H) := by
  refine callA_pure (xs := [.sl n1 t1 a.length (a.map Ia), .sl n2 t2 b.length (b.map Ia)]) (rs := [B _]) (H' := []) rfl ?_ rfl
  show O.ent 12 [V n1 t1 a, V n2 t2 b] [] [] = _
  rw [f12_eq]
  by_cases h : a.length = b.length
  · have h' : (a.length : Int) = b.length := by omega
    have go : ∀ (c i : Nat), a.length - i = c → i ≤ a.length → L12_10 [V n2 t2 b, V n1 t1 a, I a.length, I i] [] [] = some ([B (decide (a.drop i = b.drop i))], []) := by
      intro c
      induction c with
      | zero =>
        intro i hc hi
        have : i = a.length := by omega
        subst this
        rw [L12_10_eq, decide_eq_true (show a.drop a.length = b.drop a.length by rw [List.drop_length, h, List.drop_length])]
        simp only [Int.lt_irrefl, core, leave0_B]
      | succ c ih =>
        intro i hc hi
        have ha : i < a.length := by omega
        have hb : i < b.length := by omega
        have hlt : (i : Int) < a.length := by omega
        have w := wrapN (show i < 2 ^ 63 - 1 by omega)
        rw [L12_10_eq]
        by_cases he : a[i] = b[i]
        · have fin := ih (i + 1) (by omega) (by omega)
          rw [decide_eq_decide.mpr (show a.drop (i + 1) = b.drop (i + 1) ↔ a.drop i = b.drop i by rw [drop_iff ha hb]; simp [he])] at fin
          simp only [hlt, idxV ha, ldV ha, idxV hb, ldV hb, he, w, core]
          exact fin
        · rw [decide_eq_false fun h => he ((drop_iff ha hb).mp h).1]
          simp only [hlt, idxV ha, ldV ha, idxV hb, ldV hb, he, core, leave0_B]
    have := go a.length 0 rfl (by omega)
    rw [List.drop_zero, List.drop_zero] at this
    simp only [decide_eq_true h', core]
    exact this
  · have h' : ¬ (a.length : Int) = b.length := by omega
    rw [decide_eq_false fun e => h (by rw [e])]
    simp only [h', core, leave0_B]

/-! ### A closed fact -/
theorem call18 (lo : List Nat) (H : Heap) : callA cfg O 18 [] lo H = some (B true, H) := by
  refine callA_pure (xs := []) (rs := [B true]) (H' := []) rfl ?_ rfl
  show O.ent 18 [] [] [] = _
  rw [f18_eq]
  obtain ⟨nl, tg, h13⟩ := call13 (14, 4, 5, 6, 0, 0, 0, 0) [] []
  have bu : buildA [(I 0), (I 0), (I 0), (I 0), (I 0), (I 0), (I 0), (I 0)] [(0, 1, I 14), (1, 1, I 4), (2, 1, I 5), (3, 1, I 6)] = some (tiV (14, 4, 5, 6, 0, 0, 0, 0)) := rfl
  have ea : asksL (14, 4, 5, 6, 0, 0, 0, 0) = [4, 5, 6] := rfl
  rw [ea] at h13
  have e1 : tellI 13 = true := rfl
  have e2 : tellI 11 = false := rfl
  simp only [bu, h13, lit3, call12 [4, 5, 6] [4, 5, 6] (by decide), call15, e1, e2, core, leave0_B]
end Ir
end Go.Proofs.YtnjfpnoamgipjaaDoor

set_option linter.unusedVariables false
set_option linter.unusedSimpArgs false
set_option maxRecDepth 100000
namespace Go.Proofs.YtnjfpnoamgipjaaDoor
open Go Go.AM
namespace Ir
theorem box8 (H : Heap) : boxO [] [I 0, I 0, I 0, I 0, I 0, I 0, I 0, I 0] H = some (.ptr H.length 0, H ++ [.box ([Ia 0, Ia 0, Ia 0, Ia 0, Ia 0, Ia 0, Ia 0, Ia 0].map .p)]) := boxO_p [Ia 0, Ia 0, Ia 0, Ia 0, Ia 0, Ia 0, Ia 0, Ia 0] H
theorem st8 (x : A_TIns) (lo : List Nat) (H : Heap) : stA 8 (.ptr H.length 0) (tiV x) lo (H ++ [.box ([Ia 0, Ia 0, Ia 0, Ia 0, Ia 0, Ia 0, Ia 0, Ia 0].map .p)]) = some (H ++ [.box ((enc_TIns x).map .p)]) := stA_new rfl rfl (by decide)
/-! ### The tables are one -/
theorem tbl : ∀ k : Nat, 1 ≤ k → k ≤ 19 → (fmOf k).1 = vals k ∧ (fmOf k).2.2.2.1 = (decide ((k : Int) = 2) || decide ((k : Int) = 6)) ∧ (fmOf k).2.2.2.2.2 = (if mst k = true then 2 else if myR k = true then 1 else 0) ∧ (k ≠ 1 → ∀ r, lims k r = ((fmOf k).2.1, (fmOf k).2.2.1))
  | 0, h, _ => absurd h (by omega)
  | 1, _, _ => ⟨rfl, rfl, rfl, fun h => absurd rfl h⟩
  | 2, _, _ => ⟨rfl, rfl, rfl, fun _ _ => rfl⟩
  | 3, _, _ => ⟨rfl, rfl, rfl, fun _ _ => rfl⟩
  | 4, _, _ => ⟨rfl, rfl, rfl, fun _ _ => rfl⟩
  | 5, _, _ => ⟨rfl, rfl, rfl, fun _ _ => rfl⟩
  | 6, _, _ => ⟨rfl, rfl, rfl, fun _ _ => rfl⟩
  | 7, _, _ => ⟨rfl, rfl, rfl, fun _ _ => rfl⟩
  | 8, _, _ => ⟨rfl, rfl, rfl, fun _ _ => rfl⟩
  | 9, _, _ => ⟨rfl, rfl, rfl, fun _ _ => rfl⟩
  | 10, _, _ => ⟨rfl, rfl, rfl, fun _ _ => rfl⟩
  | 11, _, _ => ⟨rfl, rfl, rfl, fun _ _ => rfl⟩
  | 12, _, _ => ⟨rfl, rfl, rfl, fun _ _ => rfl⟩
  | 13, _, _ => ⟨rfl, rfl, rfl, fun _ _ => rfl⟩
  | 14, _, _ => ⟨rfl, rfl, rfl, fun _ _ => rfl⟩
  | 15, _, _ => ⟨rfl, rfl, rfl, fun _ _ => rfl⟩
  | 16, _, _ => ⟨rfl, rfl, rfl, fun _ _ => rfl⟩
  | 17, _, _ => ⟨rfl, rfl, rfl, fun _ _ => rfl⟩
  | 18, _, _ => ⟨rfl, rfl, rfl, fun _ _ => rfl⟩
  | 19, _, _ => ⟨rfl, rfl, rfl, fun _ _ => rfl⟩
  | n + 20, _, h => absurd h (by omega)
theorem tblI {op : Int} (h : isOp op = true) : (fmOf op).1 = vals op ∧ (fmOf op).2.2.2.1 = (decide (op = 2) || decide (op = 6)) ∧ (fmOf op).2.2.2.2.2 = (if mst op = true then 2 else if myR op = true then 1 else 0) ∧ (op ≠ 1 → ∀ r, lims op r = ((fmOf op).2.1, (fmOf op).2.2.1)) := by
  have h' := of_decide_eq_true h
  have := tbl op.toNat (by omega) (by omega)
  rw [show ((op.toNat : Nat) : Int) = op by omega] at this
  exact ⟨this.1, this.2.1, this.2.2.1, fun h1 => this.2.2.2 (by omega)⟩
theorem asks_vals (op : Int) : (fmOf op).1 = vals op := by
  cases h : isOp op with
  | true => exact (tblI h).1
  | false =>
    have h' := of_decide_eq_false h
    rw [fmOf, if_neg h']
    have e : vals op = 0 := by
      unfold vals
      have n1 : ¬ hs [4, 5, 6, 8, 9, 10, 15] op = true := by
        simp only [hs, decide_eq_true_eq, List.mem_cons, List.not_mem_nil, or_false]; omega
      have n2 : ¬ hs [7, 11, 12, 13, 17] op = true := by
        simp only [hs, decide_eq_true_eq, List.mem_cons, List.not_mem_nil, or_false]; omega
      rw [if_neg n1, if_neg n2, if_neg (by omega)]
    rw [e]; rfl
theorem pok_of {p : A_Prog} (h : ok_Prog p) : POk2 p := by
  obtain ⟨⟨h1, h2⟩, ⟨h3, _⟩, ⟨h4, _⟩⟩ := h
  unfold maxLen at *
  refine ⟨⟨by omega, fun g hg => ?_⟩, by omega, by omega⟩
  obtain ⟨_, _, _, ⟨h5, _⟩, ⟨h6, _⟩⟩ := h2 g hg
  unfold maxLen at *
  exact ⟨by omega, by omega⟩
theorem eok_of {x : A_TExit} (h : ok_TExit x) : EOk x := by
  obtain ⟨_, _, ⟨h1, _⟩, ⟨h2, h3⟩⟩ := h
  unfold maxLen at *
  refine ⟨by omega, by omega, fun m hm => ?_⟩
  obtain ⟨_, _, _, ⟨h4, _⟩⟩ := h3 m hm
  unfold maxLen at *
  omega
theorem tok_of {t : A_TTrace} (h : ok_TTrace t) : TOk t := by
  obtain ⟨_, _, _, ⟨h1, _⟩, ⟨h2, h3⟩, h4, h5⟩ := h
  unfold maxLen at *
  exact ⟨by omega, by omega, fun e he => eok_of (h3 e he), eok_of h4, eok_of h5⟩

theorem callMay {p : A_Prog} {t : A_TTrace} (hp : POk2 p) (ht : TOk t) : ∃ e : Int, (∀ lo H, callA cfg O 17 [pgV p] lo H = some (I e, H)) ∧ ∀ lo H, callA cfg O 21 [pgV p, trV t] lo H = some (B (decide (e = 0) && decide (chkR p t = 0)), H) := by
  obtain ⟨e, _, he⟩ := callChk p hp
  refine ⟨e, he, fun lo H => callA_args (rs := [B _]) rfl (pureArgsC (pureAgg _ _) (pureArgs1 (pureAgg _ _))) (H' := []) ?_ rfl⟩
  have x3 : ld true 3 (.ptr 0 0) [.box ((enc_Prog p).map .p), .box ((enc_TTrace t).map .p)] = some (pgV p) := ldA02 (len_Prog3 p) (by decide) _
  have x7 : ld true 13 (.ptr 1 0) [.box ((enc_Prog p).map .p), .box ((enc_TTrace t).map .p)] = some (trV t) := ldA (len_TTrace13 t) (by decide) [_]
  rw [f21_eq]
  by_cases h : e = 0
  · simp only [boxAgg0, box12, x3, x7, he, call20 ht, decide_eq_true h, Bool.true_and, core, leave0_B]
  · simp only [boxAgg0, box12, x3, he, h, Bool.false_and, core, leave0_B]

end Ir
end Go.Proofs.YtnjfpnoamgipjaaDoor
