import Derived.Test.YtfdkacaocngfkaaEHuntTells
import Derived.Test.YtfdkacaocngfkaaAm27
set_option linter.unusedVariables false
set_option linter.unusedSimpArgs false
namespace Go.Proofs.Ytfdkacaocngfkaa
open Go Go.AM

theorem between_ent (a b c : Int) : O.ent 45 [I a, I b, I c] [] [] = some ([B (decide (b ≤ a) && decide (a ≤ c))], []) := by
  rw [f45_eq]
  by_cases h : b ≤ a <;> simp only [obs, oms, bin_add, bin_sub, bin_lss, bin_leq, bin_gtr, bin_geq, bin_eql, bin_neq, bin_eqlB, bin_neqB, un_not, cond_B, gd_B, gd_undef, gdH_B, gdH_undef, pickA_B, extractA_tup, lenA_sl, lenA_row, fldA_fp, fldA_ptr, fldA_rptr, List.getElem?_cons_zero, List.getElem?_cons_succ, decide_true, decide_false, if_true, if_false, Bool.true_eq_false, Bool.false_eq_true, Bool.not_true, Bool.not_false, h, leave0_B] <;> simp
theorem between_eq (a b c : Int) (lo : List Nat) (H : Heap) : callA cfg O 45 [I a, I b, I c] lo H = some (B (decide (b ≤ a) && decide (a ≤ c)), H) :=
  callA_pure (xs := [Ia a, Ia b, Ia c]) rfl (between_ent a b c) rfl

namespace Hun

/-- A list of whole numbers to read: frozen, or a row's front. -/
def Src (x : AV) (H : Heap) (zs : List Int) : Prop := (∃ nl tg, x = V nl tg zs) ∨ ∃ id g, ∃ tail : List PV, x = .row id g 0 zs.length ∧ H[id]? = some (.row g 1 (zs.map Ia ++ tail))

section
variable {x : AV} {H : Heap} {zs : List Int}
theorem Src.len (h : Src x H zs) (H' : Heap) : lenA .slice x H' = some (I zs.length) := by
  obtain ⟨nl, tg, rfl⟩ | ⟨id, g, tail, rfl, _⟩ := h <;> rfl
theorem Src.get (h : Src x H zs) {k : Nat} (hk : k < zs.length) : ∃ p, idxA 1 x (I k) = some p ∧ ld false 1 p H = some (I zs[k]) := by
  obtain ⟨nl, tg, rfl⟩ | ⟨id, g, tail, rfl, ho⟩ := h
  · exact ⟨_, idxV hk, ldV hk H⟩
  · refine ⟨_, idxA_row (by omega), ?_⟩
    rw [ld_row ho, List.getElem?_append_left (by simp; omega)]
    simp [hk]
theorem Src.push (h : Src x H zs) (os : Heap) : Src x (H ++ os) zs := by
  obtain ⟨nl, tg, rfl⟩ | ⟨id, g, tail, rfl, ho⟩ := h
  · exact .inl ⟨_, _, rfl⟩
  · exact .inr ⟨_, _, _, rfl, push_get? ho os⟩
theorem Src.pure (h : Src x H zs) : ∃ nl tg b, pureArg H x = some (V nl tg zs, b) := by
  obtain ⟨nl, tg, rfl⟩ | ⟨id, g, tail, rfl, ho⟩ := h
  · exact ⟨_, _, _, rfl⟩
  · refine ⟨none, false, true, ?_⟩
    simp only [pureArg, pureLeaf, ho]
    rw [if_pos (by simp), List.drop_zero, List.take_append_of_le_length (by simp), List.take_of_length_le (by simp)]
theorem Src.v (nl : Option Bool) (tg : Bool) (zs : List Int) (H : Heap) : Src (V nl tg zs) H zs := .inl ⟨_, _, rfl⟩
theorem Src.of (h : Lst 1 x H zs.length (zs.map Ia)) : Src x H zs := by
  obtain ⟨_, ⟨nl, rfl, _⟩ | ⟨id, g, rfl, ho⟩⟩ := h
  · exact .inl ⟨_, _, rfl⟩
  · exact .inr ⟨id, g, [], rfl, by simpa using ho⟩
end

/-- The first place for which it holds. -/
def isIdx (p : Int → Bool) (zs : List Int) (i : Nat) (z : Int) : Prop :=
  (z = -1 ∧ (zs.drop i).any p = false) ∨ ∃ k : Nat, z = k ∧ i ≤ k ∧ (∃ h : k < zs.length, p zs[k] = true) ∧ ∀ j (hj : j < zs.length), i ≤ j → j < k → p zs[j] = false

theorem isIdx.any {p : Int → Bool} {zs : List Int} {z : Int} (h : isIdx p zs 0 z) : decide (0 ≤ z) = zs.any p := by
  obtain ⟨rfl, h⟩ | ⟨k, rfl, _, ⟨hk, h⟩, _⟩ := h
  · rw [List.drop_zero] at h; simp [h]
  · have : zs.any p = true := List.any_eq_true.mpr ⟨_, List.getElem_mem hk, h⟩
    simp [this]

section
variable {x cl : AV} {p : Int → Bool} {zs : List Int} {P : Heap → Prop} {lo : List Nat}
theorem idxLoop (hb : zs.length < 2 ^ 63) (hP : ∀ H, P H → Src x H zs) (hcl : ∀ n ∈ zs, ∀ H, P H → ∃ os, callV cfg O cl [I n] lo H = some (B (p n), H ++ os) ∧ P (H ++ os)) : ∀ (c i : Nat) (H : Heap), zs.length - i = c → i ≤ zs.length → P H →
    ∃ z os, L88_6 [x, cl, I zs.length, I i] lo H = some ([I z], H ++ os) ∧ P (H ++ os) ∧ isIdx p zs i z := by
  intro c
  induction c with
  | zero =>
    intro i H hc hi hH
    have : i = zs.length := by omega
    subst this
    refine ⟨-1, [], ?_, by simpa using hH, .inl ⟨rfl, by simp⟩⟩
    rw [L88_6_eq]
    simp only [bin_lss, obs, cond_B]
    rw [if_neg (by simp), List.append_nil]
    rfl
  | succ c ih =>
    intro i H hc hi hH
    have hi' : i < zs.length := by omega
    obtain ⟨os, hcv, hP'⟩ := hcl _ (List.getElem_mem hi') H hH
    obtain ⟨q, e1, e2⟩ := (hP H hH).get hi'
    have hstep : L88_6 [x, cl, I zs.length, I i] lo H = if p zs[i] = true then some ([I i], H ++ os) else L88_6 [x, cl, I zs.length, I (i + 1 : Nat)] lo (H ++ os) := by
      rw [L88_6_eq]
      simp only [bin_lss, obs, cond_B]
      rw [if_pos (by simp <;> omega), e1]
      simp only [obs, e2, hcv, cond_B, bin_add]
      rw [wrap_id (by omega), show (i : Int) + 1 = ((i + 1 : Nat) : Int) by omega]
      rfl
    rw [hstep]
    cases ht : p zs[i] with
    | false =>
      obtain ⟨z, os', h1, h2, h3⟩ := ih (i + 1) _ (by omega) (by omega) hP'
      refine ⟨z, os ++ os', ?_, by rw [← List.append_assoc]; exact h2, ?_⟩
      · rw [if_neg (by simp), h1, List.append_assoc]
      · have hd : (zs.drop i).any p = (p zs[i] || (zs.drop (i + 1)).any p) := by rw [List.drop_eq_getElem_cons hi', List.any_cons]
        obtain ⟨rfl, h⟩ | ⟨k, rfl, hk, hkk, h⟩ := h3
        · exact .inl ⟨rfl, by rw [hd, ht, h]; rfl⟩
        · refine .inr ⟨k, rfl, by omega, hkk, fun j hj h4 h5 => ?_⟩
          by_cases e : j = i
          · subst e; exact ht
          · exact h j hj (by omega) h5
    | true => exact ⟨i, os, by simp, hP', .inr ⟨i, rfl, Nat.le_refl _, ⟨hi', ht⟩, fun j _ _ _ => by omega⟩⟩

theorem call88 (hb : zs.length < 2 ^ 63) (hP : ∀ H, P H → Src x H zs) (hcl : ∀ n ∈ zs, ∀ H, P H → ∃ os, callV cfg O cl [I n] lo H = some (B (p n), H ++ os) ∧ P (H ++ os)) (H : Heap) (hH : P H) :
    ∃ z os, callA cfg O 88 [x, cl] lo H = some (I z, H ++ os) ∧ P (H ++ os) ∧ isIdx p zs 0 z := by
  obtain ⟨z, os, h1, h2, h3⟩ := idxLoop hb hP hcl _ 0 H rfl (by omega) hH
  refine ⟨z, os, callA_keep (rs := [I z]) rfl ?_, h2, h3⟩
  rw [f88_eq]
  simp only [(hP H hH).len, obs]
  exact h1

theorem call77 {H : Heap} (hb : zs.length < 2 ^ 63) (hx : Src x H zs) (hcl : ∀ n ∈ zs, callV cfg O cl [I n] lo H = some (B (p n), H)) : callA cfg O 77 [x, cl] lo H = some (B (zs.any p), H) := by
  obtain ⟨z, os, h1, h2, h3⟩ := call88 (P := fun H' => H' = H) (x := x) (cl := cl) (p := p) (lo := lo) hb (fun _ e => by rw [e]; exact hx) (fun n hn _ e => ⟨[], by rw [e, List.append_nil]; exact hcl n hn, by rw [e]; simp⟩) H rfl
  rw [h2] at h1
  refine callA_keep (rs := [B (zs.any p)]) rfl ?_
  rw [f77_eq]
  simp only [h1, obs, bin_geq, h3.any]
  rfl
end
end Hun
end Go.Proofs.Ytfdkacaocngfkaa
