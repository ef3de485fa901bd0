import Derived.Test.YtangmjeafnkfaaaESnapBacks
import Derived.Test.YtangmjeafnkfaaaTy
import Derived.Test.YtangmjeafnkfaaaAm27
set_option linter.unusedVariables false
set_option linter.unusedSimpArgs false
namespace Go.Proofs.Ytangmjeafnkfaaa
open Go Go.AM
namespace Snp

def LIM : Nat := 17592186044416

/-! ### States, and what their cells are -/
abbrev DL (α : Type) : Type := (Option Bool × Bool) × List α
abbrev A_Val : Type := Int × Int
abbrev A_Try : Type := Int × Int
abbrev A_Shape : Type := Int × Int
abbrev A_LVal : Type := DL A_Val
abbrev A_LTry : Type := DL A_Try
abbrev A_Frame : Type := Int × Int × Int × Int × A_Val × A_LVal × A_LTry
abbrev A_LFrame : Type := DL A_Frame
abbrev A_Cell : Type := Int × Int × A_LVal × A_LFrame
abbrev A_Thread : Type := A_LFrame × Int × Int × A_Val
abbrev A_End : Type := Int × A_Val
abbrev A_State : Type := DL A_Cell × DL A_Shape × DL ByteArray × DL A_Thread × DL A_End × A_LVal × Int × Int
abbrev dl {α : Type} (l : DL α) (e : α → List PV) : PV := .sl l.1.1 l.1.2 l.2.length (l.2.flatMap e)
def enc_Val (p : A_Val) : List PV := [Ia p.1, Ia p.2]
def enc_Try (p : A_Try) : List PV := [Ia p.1, Ia p.2]
def enc_Shape (p : A_Shape) : List PV := [Ia p.1, Ia p.2]
def enc_str (p : ByteArray) : List PV := [.v (.string p)]
def enc_Frame (p : A_Frame) : List PV := [Ia p.1, Ia p.2.1, Ia p.2.2.1, Ia p.2.2.2.1, Ia p.2.2.2.2.1.1, Ia p.2.2.2.2.1.2, dl p.2.2.2.2.2.1 enc_Val, dl p.2.2.2.2.2.2 enc_Try]
def enc_Cell (p : A_Cell) : List PV := [Ia p.1, Ia p.2.1, dl p.2.2.1 enc_Val, dl p.2.2.2 enc_Frame]
def enc_Thread (p : A_Thread) : List PV := [dl p.1 enc_Frame, Ia p.2.1, Ia p.2.2.1, Ia p.2.2.2.1, Ia p.2.2.2.2]
def enc_End (p : A_End) : List PV := [Ia p.1, Ia p.2.1, Ia p.2.2]
def enc_State (p : A_State) : List PV := [dl p.1 enc_Cell, dl p.2.1 enc_Shape, dl p.2.2.1 enc_str, dl p.2.2.2.1 enc_Thread, dl p.2.2.2.2.1 enc_End, dl p.2.2.2.2.2.1 enc_Val, Ia p.2.2.2.2.2.2.1, Ia p.2.2.2.2.2.2.2]
theorem len_Val (p : A_Val) : (enc_Val p).length = 2 := rfl
theorem len_Try (p : A_Try) : (enc_Try p).length = 2 := rfl
theorem len_Shape (p : A_Shape) : (enc_Shape p).length = 2 := rfl
theorem len_str (p : ByteArray) : (enc_str p).length = 1 := rfl
theorem len_Frame (p : A_Frame) : (enc_Frame p).length = 8 := rfl
theorem len_Cell (p : A_Cell) : (enc_Cell p).length = 4 := rfl
theorem len_Thread (p : A_Thread) : (enc_Thread p).length = 5 := rfl
theorem len_End (p : A_End) : (enc_End p).length = 3 := rfl
theorem len_State (p : A_State) : (enc_State p).length = 8 := rfl

/-- Every list in it is short. -/
def ok_L {α : Type} (l : DL α) : Prop := l.2.length < 2 ^ 63
def ok_Frame (p : A_Frame) : Prop := ok_L p.2.2.2.2.2.1 ∧ ok_L p.2.2.2.2.2.2
def ok_LFrame (l : A_LFrame) : Prop := ok_L l ∧ ∀ x ∈ l.2, ok_Frame x
def ok_Cell (p : A_Cell) : Prop := ok_L p.2.2.1 ∧ ok_LFrame p.2.2.2
def ok_Thread (p : A_Thread) : Prop := ok_LFrame p.1
def ok_State (p : A_State) : Prop := (ok_L p.1 ∧ ∀ x ∈ p.1.2, ok_Cell x) ∧ ok_L p.2.1 ∧ (ok_L p.2.2.1 ∧ ∀ x ∈ p.2.2.1.2, x.size < 2 ^ 63) ∧ (ok_L p.2.2.2.1 ∧ ∀ x ∈ p.2.2.2.1.2, ok_Thread x) ∧ ok_L p.2.2.2.2.1 ∧ ok_L p.2.2.2.2.2.1

/-! ### The flat one -/
def fv (p : A_Val) : List Int := [p.1, p.2]
def ft (p : A_Try) : List Int := [p.1, p.2]
def fsh (p : A_Shape) : List Int := [p.1, p.2]
def fl {α : Type} (l : DL α) (f : α → List Int) : List Int := (l.2.length : Int) :: l.2.flatMap f
def fvs (l : A_LVal) : List Int := fl l fv
def fts (l : A_LTry) : List Int := fl l ft
def ff (p : A_Frame) : List Int := [p.1, p.2.1, p.2.2.1, p.2.2.2.1] ++ fv p.2.2.2.2.1 ++ fvs p.2.2.2.2.2.1 ++ fts p.2.2.2.2.2.2
def ffs (l : A_LFrame) : List Int := fl l ff
def fc (p : A_Cell) : List Int := [p.1, p.2.1] ++ fvs p.2.2.1 ++ ffs p.2.2.2
def ftx (s : ByteArray) : List Int := (s.size : Int) :: s.data.toList.map fun b => (b.toNat : Int)
def fth (p : A_Thread) : List Int := ffs p.1 ++ [p.2.1, p.2.2.1] ++ fv p.2.2.2
def fe (p : A_End) : List Int := [p.1] ++ fv p.2
def flat (s : A_State) : List Int := fl s.1 fc ++ fl s.2.1 fsh ++ fl s.2.2.1 ftx ++ fl s.2.2.2.1 fth ++ fl s.2.2.2.2.1 fe ++ fvs s.2.2.2.2.2.1 ++ [s.2.2.2.2.2.2.1, s.2.2.2.2.2.2.2]

theorem st_new {n : Nat} {xs : List AV} {ys : List PV} {lo : List Nat} {H : Heap} (h1 : ys.length = n) (h2 : xs.length = n) (h0 : 0 < n := by omega) : stA n (.ptr H.length 0) (.agg (ys.map .p)) lo (H ++ [.box xs]) = some (H ++ [.box (ys.map .p)]) := by
  rw [stA_box (xs := xs) (by simp) (by simp [AV.cells, h1]) (by omega) (by simp [AV.cells, List.all_eq_true]; intro x _; rfl) (okLevels_p _ _ _) (by omega)]
  have hs : splice xs 0 (ys.map .p) = ys.map .p := by
    have gen : ∀ (ys xs : List AV) (pre : List AV), xs.length = ys.length → splice (pre ++ xs) pre.length ys = pre ++ ys := by
      intro ys
      induction ys with
      | nil => intro xs pre h; simp at h; subst h; rfl
      | cons y ys ih =>
        intro xs pre h
        match xs, h with
        | x :: xs, h =>
          have := ih xs (pre ++ [y]) (by simpa using h)
          simp only [List.append_assoc, List.singleton_append, List.length_append, List.length_singleton] at this
          rw [splice, ← this]
          simp
    simpa using gen (ys.map .p) xs [] (by simp [h1, h2])
  simp only [AV.cells, hs]
  rw [List.set_append_right _ _ (by omega)]
  simp

/-! ### What stays -/
def KN (N : Nat) (H H' : Heap) : Prop := H.length ≤ H'.length ∧ ∀ j, j < N → H'[j]? = H[j]?
theorem KN.refl (N : Nat) (H : Heap) : KN N H H := ⟨Nat.le_refl _, fun _ _ => rfl⟩
theorem KN.trans {N : Nat} {H H' H'' : Heap} (h : KN N H H') (k : KN N H' H'') : KN N H H'' := ⟨Nat.le_trans h.1 k.1, fun j hj => (k.2 j hj).trans (h.2 j hj)⟩
theorem KN.push {N : Nat} {H : Heap} (l : List AObj) (h : N ≤ H.length) : KN N H (H ++ l) := ⟨by simp, fun j hj => by rw [List.getElem?_append_left (by omega)]⟩

def New (N : Nat) (o : AV) : Prop := ∀ id g off n, o = .row id g off n → N ≤ id

/-- The list under way, its row a new one. -/
def Out (N : Nat) (o : AV) (H : Heap) (acc : List Int) : Prop := Lst 1 o H acc.length (acc.map Ia) ∧ New N o ∧ N ≤ H.length ∧ (2 ≤ acc.length → ∃ id g, o = .row id g 0 acc.length)
theorem Out.push {N : Nat} {o : AV} {H : Heap} {acc : List Int} (h : Out N o H acc) (l : List AObj) : Out N o (H ++ l) acc := ⟨h.1.push l, h.2.1, by rw [List.length_append]; have := h.2.2.1; omega, h.2.2.2⟩

theorem Out.lit (H : Heap) (zs : List Int) {N : Nat} (h : N ≤ H.length) (h1 : zs.length ≤ 1 := by simp) : Out N (.p (.sl (some false) true zs.length (zs.map Ia))) H zs := ⟨Lst.lit (by simp), fun _ _ _ _ e => (by cases e), h, fun _ => by omega⟩

theorem put {N : Nat} {o y : AV} {H : Heap} {acc new : List Int} (L : Out N o H acc) (hy : cellsA 1 y H = some (new.length, new.map Ia)) (h0 : 0 < new.length) (hb : acc.length + new.length ≤ LIM) :
    ∃ o' H', appA 1 8 o y H = some (o', H') ∧ Out N o' H' (acc ++ new) ∧ (∀ (j : Nat) xs, H[j]? = some (AObj.box xs) → H'[j]? = some (AObj.box xs)) ∧ KN N H H' := by
  have hlim : LIM = 17592186044416 := rfl
  obtain ⟨L, hN, hle, _⟩ := L
  obtain ⟨o', H', ea, hL', hK, _, h6, id, g, q1, q2⟩ := L.app (bytes := 8) (y := y) hy (by simp) h0 (by simp only [room]; omega)
  refine ⟨o', H', ea, ⟨by simpa using hL', fun id' g' off n e => ?_, Nat.le_trans hle hK.1, fun _ => ?_⟩, fun j xs hj => ?_, hK.1, fun j hj => ?_⟩
  · rcases Nat.lt_or_ge id' N with hlt | hge
    · rw [q1] at e
      cases e
      exact (h6 id (by omega) (fun g n e => by have := hN _ _ _ _ e; omega) _ _ q1).elim
    · exact hge
  · exact ⟨id, g, by rw [q1]; simp⟩
  · refine hK.2 j _ hj fun g' n e => ?_
    obtain ⟨_, ⟨nl, rfl, _⟩ | ⟨id', g'', rfl, ho⟩⟩ := L
    · cases e
    · cases e
      rw [hj] at ho
      cases ho
  · have hj' : j < H.length := by omega
    rw [List.getElem?_eq_getElem hj']
    exact hK.2 j _ (List.getElem?_eq_getElem hj') fun g n e => by have := hN _ _ _ _ e; omega

theorem ldP {H : Heap} {q off : Nat} {xs : List PV} {x : PV} (h : H[q]? = some (.box (xs.map .p))) (hx : xs[off]? = some x) : ld false 1 (.ptr q off) H = some (.p x) := by
  rw [ld_box h, List.getElem?_map, hx]; rfl

end Snp
end Go.Proofs.Ytangmjeafnkfaaa
