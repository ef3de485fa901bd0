import Derived.Test.YtfdnamedmjhcfaaAm25
import Derived.Test.YtfdnamedmjhcfaaAm30
set_option linter.unusedVariables false
set_option linter.unusedSimpArgs false
namespace Go.AM
namespace Ck

/-! ### A table of numbers: rows of its own in a list of variables -/
section
variable {L th : Nat} {f : Nat → Nat → Int} {H : Heap} {X : List (Nat × AObj)}

def psM (L th made : Nat) : List (AV × List Int) := (List.range L).map fun j => if j < made then (.row (j + 1) 0 0 th, (List.range th).map fun _ => 0) else (.p nilS, [])
def psF (L th : Nat) (f : Nat → Nat → Int) : List (AV × List Int) := (List.range L).map fun j => (.row (j + 1) 0 0 th, (List.range th).map (f j))
def SS (L th : Nat) (X : List (Nat × AObj)) (H : Heap) (f : Nat → Nat → Int) : Prop := Cx H ((0, .box ((psF L th f).map Prod.fst)) :: X) ((psF L th f).map gLl)
def upd (f : Nat → Nat → Int) (j t : Nat) (x : Int) : Nat → Nat → Int := fun a b => if a = j ∧ b = t then x else f a b

theorem psF_len : (psF L th f).length = L := by simp [psF]
theorem psF_at {j : Nat} (hj : j < L) : (psF L th f)[j]'(by rw [psF_len]; exact hj) = (.row (j + 1) 0 0 th, (List.range th).map (f j)) := by simp [psF]

theorem SS.ldRow (h : SS L th X H f) {j : Nat} (hj : j < L) : ld false 1 (.ptr 0 j) H = some (.row (j + 1) 0 0 th) := by
  rw [rr_ld h (by rw [psF_len]; exact hj), psF_at hj]
theorem SS.split (h : SS L th X H f) {j : Nat} (hj : j < L) : Cx H ((0, .box ((psF L th f).map Prod.fst)) :: X) (((psF L th f).take j).map gLl ++ (.row (j + 1) 0 0 th, 1, th, ((List.range th).map (f j)).map Ia) :: ((psF L th f).drop (j + 1)).map gLl) := by
  have hj' : j < (psF L th f).length := by rw [psF_len]; exact hj
  have e : psF L th f = (psF L th f).take j ++ (psF L th f)[j] :: (psF L th f).drop (j + 1) := by rw [← List.drop_eq_getElem_cons hj', List.take_append_drop]
  have e2 := congrArg (List.map gLl) e
  rw [List.map_append, List.map_cons, psF_at hj] at e2
  have e3 : gLl (.row (j + 1) 0 0 th, (List.range th).map (f j)) = (.row (j + 1) 0 0 th, 1, th, ((List.range th).map (f j)).map Ia) := by simp [gLl]
  rw [e3] at e2
  unfold SS at h
  rw [e2] at h
  exact h
theorem SS.cell (h : SS L th X H f) {j t : Nat} (hj : j < L) (ht : t < th) : idxA 1 (.row (j + 1) 0 0 th) (I t) = some (.rptr (j + 1) 0 t) ∧ ld false 1 (.rptr (j + 1) 0 t) H = some (I (f j t)) ∧
    ∀ x lo, ∃ H', stA 1 (.rptr (j + 1) 0 t) (I x) lo H = some H' ∧ SS L th X H' (upd f j t x) := by
  obtain ⟨e1, e2, e3, e4⟩ := Cx.cell (l1 := ((psF L th f).take j).map gLl) (h.split hj) ht
  refine ⟨e1, ?_, fun x lo => ?_⟩
  · rw [e2]; simp [ht]
  · obtain ⟨e5, e6⟩ := e4 (Ia x) lo
    refine ⟨_, e5, ?_⟩
    have k1 : (psF L th (upd f j t x)).map Prod.fst = (psF L th f).map Prod.fst := by simp [psF]
    have k2 : (psF L th (upd f j t x)).map gLl = ((psF L th f).take j).map gLl ++ (.row (j + 1) 0 0 th, 1, th, (((List.range th).map (f j)).map Ia).set t (Ia x)) :: ((psF L th f).drop (j + 1)).map gLl := by
      have hset : psF L th (upd f j t x) = (psF L th f).set j (.row (j + 1) 0 0 th, ((List.range th).map (f j)).set t x) := by
        refine List.ext_getElem (by simp [psF]) fun n h1 h2 => ?_
        simp only [psF, List.length_map, List.length_range] at h1
        rw [List.getElem_set]
        by_cases hn : j = n
        · subst hn
          rw [if_pos rfl, psF_at h1]
          congr 1
          refine List.ext_getElem (by simp) fun m h3 h4 => ?_
          simp only [List.getElem_map, List.getElem_range, List.getElem_set, upd, true_and]
          by_cases hm : t = m
          · subst hm; simp
          · rw [if_neg (fun e => hm e.symm), if_neg hm]
        · rw [if_neg hn, psF_at h1, psF_at h1]
          congr 1
          refine List.map_congr_left fun m hm => ?_
          simp only [upd]
          rw [if_neg (fun e => hn e.1.symm)]
      rw [hset, List.set_eq_take_append_cons_drop, if_pos (by rw [psF_len]; exact hj)]
      simp [gLl, List.map_set]
    unfold SS
    rw [k1, k2]
    exact e6
theorem SS.box (h : SS L th X H f) (xs : List AV) : SS L th ((H.length, .box xs) :: X) (H ++ [.box xs]) f := by
  have := Cx.newBox h xs
  exact this.mono (fun q hq => by simp only [List.mem_cons] at hq ⊢; rcases hq with e | e | e <;> simp [e]) (List.Sublist.refl _)
theorem SS.frz (h : SS L th X H f) (h0 : 0 < L) : ∃ ds H', frzA H (.bsl 0 L) = some (.p (.sl (some false) false L (ds.map us)), H') ∧ ints ds = (List.range L).map fun j => (List.range th).map (f j) := by
  obtain ⟨ds, H', e, e2⟩ := rr_frz (ps := psF L th f) h (by rw [psF_len]; exact h0)
  rw [psF_len] at e
  refine ⟨ds, H', e, ?_⟩
  rw [e2]
  simp [psF]

/-- One more list is put in. -/
theorem made_step {j : Nat} (hj : j < L) (hlen : H.length = j + 1) (h : Cx H ((0, .box ((psM L th j).map Prod.fst)) :: []) ((psM L th j).map gLl)) (hth : th < 2 ^ 40) :
    ∃ H1 H', mkRow 1 8 [(.v (.int .i64 0))] (I th) (I th) H = some (.row H.length 0 0 th, H1) ∧ stA 1 (.ptr 0 j) (.row H.length 0 0 th) [] H1 = some H' ∧ H'.length = j + 2 ∧ Cx H' ((0, .box ((psM L th (j + 1)).map Prod.fst)) :: []) ((psM L th (j + 1)).map gLl) := by
  have hz : zerosA th [(.v (.int .i64 0))] = ((List.range th).map fun _ => (0 : Int)).map Ia := by
    rw [zeros_one]
    refine List.ext_getElem (by simp) fun n h1 h2 => by simp
  have hmk : mkRow 1 8 [(.v (.int .i64 0))] (I th) (I th) H = some (.row H.length 0 0 th, H ++ [.row 0 1 (((List.range th).map fun _ => (0 : Int)).map Ia)]) := by
    simp only [mkRow, asI, obs]
    rw [if_pos ⟨by omega, by omega, by simp only [room]; omega⟩, Int.toNat_natCast, hz]
  have h1 := h.newRow (sz := 1) (m := th) (cs := ((List.range th).map fun _ => (0 : Int)).map Ia) (by simp)
  have hb : (H ++ [.row 0 1 (((List.range th).map fun _ => (0 : Int)).map Ia)])[0]? = some (.box ((psM L th j).map Prod.fst)) := h1.box (0, _) (by simp)
  have hML : (psM L th j).length = L := by simp [psM]
  have est := stA_box (n := 1) (off := j) (y := .row H.length 0 0 th) (lo := []) hb rfl (by simp [psM]; omega) rfl rfl (by simp [psM]; omega)
  have hM : psM L th (j + 1) = (psM L th j).take j ++ (.row (j + 1) 0 0 th, (List.range th).map fun _ => 0) :: (psM L th j).drop (j + 1) := by
    refine List.ext_getElem (by simp [psM]; omega) fun n a b => ?_
    simp only [psM, List.length_map, List.length_range] at a
    by_cases c1 : n < j
    · rw [List.getElem_append_left (by simp [psM]; omega)]
      simp [psM, c1, show n < j + 1 by omega]
    · rw [List.getElem_append_right (by simp [psM]; omega)]
      by_cases c2 : n = j
      · subst c2
        simp [psM, show min n L = n by omega]
      · obtain ⟨k, rfl⟩ : ∃ k, n = j + 1 + k := ⟨n - (j + 1), by omega⟩
        simp [psM, show min j L = j by omega, show ¬ j + 1 + k < j + 1 by omega, show j + 1 + k - j = k + 1 by omega, show ¬ j + 1 + k < j by omega]
  have hsplit : psM L th j = (psM L th j).take j ++ (.p nilS, []) :: (psM L th j).drop (j + 1) := by
    have hj' : j < (psM L th j).length := by rw [hML]; exact hj
    conv => lhs; rw [← List.take_append_drop j (psM L th j), List.drop_eq_getElem_cons hj']
    congr 2
    simp [psM]
  have hAl : ((psM L th j).take j).length = j := by simp [psM]; omega
  generalize (psM L th j).take j = A at hM hsplit hAl
  generalize (psM L th j).drop (j + 1) = B at hM hsplit
  rw [hsplit] at h1 est
  rw [hM]
  have h2 := h1.setBox (fun q hq => by cases hq) ((A ++ (.row (j + 1) 0 0 th, (List.range th).map fun _ => 0) :: B).map Prod.fst)
  have e1 : splice ((A ++ ((.p nilS : AV), ([] : List Int)) :: B).map Prod.fst) j (AV.row H.length 0 0 th).cells = (A ++ (.row (j + 1) 0 0 th, (List.range th).map fun _ => (0 : Int)) :: B).map Prod.fst := by
    rw [show (AV.row H.length 0 0 th).cells = [AV.row (j + 1) 0 0 th] by rw [hlen]; rfl, splice_take _ _ _ (by simp; omega)]
    simp only [List.map_append, List.map_cons, List.length_singleton]
    rw [List.take_append_of_le_length (by simp; omega), List.take_of_length_le (by simp; omega), List.append_assoc]
    congr 1
    rw [List.drop_append, List.drop_of_length_le (by simp; omega)]
    simp [hAl]
  rw [e1] at est
  refine ⟨_, _, hmk, est, by simp; omega, ?_⟩
  rw [hlen] at h2
  have hg : gLl (.row (j + 1) 0 0 th, (List.range th).map fun _ => 0) = (.row (j + 1) 0 0 th, 1, th, ((List.range th).map fun _ => (0 : Int)).map Ia) := by simp [gLl]
  have h3 := h2.mono (fun q hq => hq) (ls' := (.row (j + 1) 0 0 th, 1, th, ((List.range th).map fun _ => (0 : Int)).map Ia) :: (A.map gLl ++ B.map gLl)) (by
    simp only [List.map_append, List.map_cons]
    exact List.Sublist.cons_cons _ (List.Sublist.append (List.Sublist.refl _) (List.sublist_cons_self _ _)))
  rw [← hg] at h3
  refine h3.perm ?_
  simp only [List.map_append, List.map_cons]
  exact List.perm_middle.symm
theorem made0 (h0 : 0 < L) (hL : L < 2 ^ 40) (th : Nat) : ∃ H', mkBsl 1 24 [nilS] (I L) (I L) [] = some (.bsl 0 L, H') ∧ H'.length = 1 ∧ Cx H' ((0, .box ((psM L th 0).map Prod.fst)) :: []) ((psM L th 0).map gLl) := by
  obtain ⟨H', e, h⟩ := rr_make (n := L) (Cx.nil []) hL h0
  have e2 : psM L th 0 = List.replicate L ((.p nilS, []) : AV × List Int) := by
    refine List.ext_getElem (by simp [psM]) fun n a b => by simp [psM]
  refine ⟨H', e, ?_, ?_⟩
  · have hne : ¬ zerosA L [nilS] = [] := by rw [zeros_one]; intro e; have := congrArg List.length e; simp at this; omega
    simp only [mkBsl, asI, obs, Int.toNat_natCast] at e
    rw [if_neg hne, if_pos ⟨by omega, by trivial, by simp only [room]; omega⟩] at e
    injection e with e
    injection e with _ e
    rw [← e]
    rfl
  · rw [e2]
    simpa using h
theorem made_all : psM L th L = psF L th fun _ _ => 0 := by
  refine List.map_congr_left fun j hj => ?_
  rw [if_pos (List.mem_range.mp hj)]

/-- A table of natural numbers. -/
def SN (L th : Nat) (X : List (Nat × AObj)) (H : Heap) (g : Nat → Nat → Nat) : Prop := SS L th X H fun a b => (g a b : Int)
def updN (g : Nat → Nat → Nat) (j t : Nat) (x : Nat) : Nat → Nat → Nat := fun a b => if a = j ∧ b = t then x else g a b
theorem SN.cell {g : Nat → Nat → Nat} (h : SN L th X H g) {j t : Nat} (hj : j < L) (ht : t < th) : idxA 1 (.row (j + 1) 0 0 th) (I t) = some (.rptr (j + 1) 0 t) ∧ ld false 1 (.rptr (j + 1) 0 t) H = some (I (g j t)) ∧
    ∀ (x : Nat) lo, ∃ H', stA 1 (.rptr (j + 1) 0 t) (I x) lo H = some H' ∧ SN L th X H' (updN g j t x) := by
  obtain ⟨e1, e2, e3⟩ := SS.cell h hj ht
  refine ⟨e1, e2, fun x lo => ?_⟩
  obtain ⟨H', e4, e5⟩ := e3 x lo
  refine ⟨H', e4, ?_⟩
  have : (fun a b => ((updN g j t x a b : Nat) : Int)) = upd (fun a b => (g a b : Int)) j t x := by
    funext a b
    unfold updN upd
    split <;> rfl
  unfold SN
  rw [this]
  exact e5
theorem bests_max (x y : Int) : bests true (I x) [I y] = some (I (max x y)) := by
  simp only [bests, best, if_true, Option.bind_some]
  congr 4
  split <;> omega
end
end Ck
end Go.AM
