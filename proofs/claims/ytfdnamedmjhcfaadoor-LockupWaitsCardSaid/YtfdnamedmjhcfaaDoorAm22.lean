/-
A list in a row with room behind it: what slices.Grow hands over.
-/
import Derived.Test.YtfdnamedmjhcfaaDoorAm21
set_option linter.unusedVariables false
set_option linter.unusedSimpArgs false
namespace Go.AM

def LstG (sz : Nat) (out : AV) (H : Heap) (m : Nat) (cs : List PV) : Prop :=
  cs.length = m * sz ∧ ((m = 0 ∧ out = .p nilS) ∨ ∃ id g xs, out = .row id g 0 m ∧ H[id]? = some (.row g sz xs) ∧ m * sz ≤ xs.length ∧ xs.take (m * sz) = cs)

theorem LstG.app {sz bytes : Nat} {out y : AV} {H : Heap} {m k : Nat} {cs new : List PV} (h : LstG sz out H m cs) (hy : cellsA sz y H = some (k, new)) (hn : new.length = k * sz) (hr : (m + k) * bytes ≤ room) :
    ∃ out' H', appA sz bytes out y H = some (out', H') ∧ LstG sz out' H' (m + k) (cs ++ new) := by
  obtain ⟨hl, ⟨rfl, rfl⟩ | ⟨id, g, xs, rfl, ho, hle, ht⟩⟩ := h
  · have hc : cs = [] := List.length_eq_zero_iff.mp (by simpa using hl)
    subst hc
    by_cases hk : k = 0
    · subst hk
      have hnew : new = [] := List.length_eq_zero_iff.mp (by simpa using hn)
      subst hnew
      exact ⟨.p nilS, H, by simp only [appA, hy, Option.bind_some]; simp [appTo, nilS], by simp, .inl ⟨rfl, rfl⟩⟩
    · refine ⟨.row H.length 0 0 (0 + k), H ++ [.row 0 sz new], ?_, by simpa using hn, .inr ⟨H.length, 0, new, rfl, by simp, by simp [hn], ?_⟩⟩
      · simp only [appA, hy, Option.bind_some]
        simp only [Nat.zero_add] at hr
        simp [appTo, nilS, hr, hk]
      · simp [← hn]
  · have hlt := getElem?_lt ho
    refine ⟨.row id (g + 1) 0 (m + k), H.set id (.row (g + 1) sz (cs ++ new)), ?_, by rw [List.length_append, hl, hn, Nat.add_mul], .inr ⟨id, g + 1, cs ++ new, rfl, by rw [List.getElem?_set_self hlt], by rw [List.length_append, hl, hn, Nat.add_mul]; exact Nat.le_refl _, ?_⟩⟩
    · simp only [appA, hy, Option.bind_some, appTo, ho]
      rw [if_pos (by simp only [true_and]; exact ⟨by omega, hr⟩)]
      rw [List.drop_zero, ht]
    · rw [List.take_of_length_le]
      rw [List.length_append, hl, hn, Nat.add_mul]
      exact Nat.le_refl _

theorem LstG.leave1 {sz : Nat} {out : AV} {H : Heap} {m : Nat} {cs : List PV} (h : LstG sz out H m cs) (lo : List Nat) : ∃ nl tg H', leave 0 lo [out] H = some ([.p (.sl nl tg m cs)], H') := by
  obtain ⟨hl, ⟨rfl, rfl⟩ | ⟨id, g, xs, rfl, ho, hle, ht⟩⟩ := h
  · have hc : cs = [] := List.length_eq_zero_iff.mp (by simpa using hl)
    subst hc
    exact ⟨some true, true, [], rfl⟩
  · refine ⟨if 0 < m then some false else none, false, [], ?_⟩
    have e : frzA H (.row id g 0 m) = some (.p (.sl (if 0 < m then some false else none) false m cs), H.set id (.row (g + 1) sz [])) := by
      simp only [frzA, frzLeaf, toPV, ho, Nat.zero_add]
      rw [if_pos (by simp; omega)]
      simp only [Option.map_some]
      rw [List.drop_zero, ht]
    exact leave0_all (ps := [_]) (H' := H.set id (.row (g + 1) sz [])) (by simp only [frzAll, e, obs, oms, List.map_cons, List.map_nil])

end Go.AM
