import Derived.Test.YtcgahlekjfemfaaRmV
set_option linter.unusedVariables false
set_option linter.unusedSimpArgs false
namespace Go.Proofs.Ytcgahlekjfemfaa
open Go Go.AM
namespace Rm

/-! ### Sorting, as merging -/
theorem mg_assoc : ∀ (c : Nat) (A B C : List E), A.length + B.length + C.length = c → mg (mg A B) C = mg A (mg B C) := by
  intro c
  induction c with
  | zero =>
    intro A B C h
    have : A = [] := List.length_eq_zero_iff.mp (by omega)
    have : B = [] := List.length_eq_zero_iff.mp (by omega)
    have : C = [] := List.length_eq_zero_iff.mp (by omega)
    subst_vars; simp [mg]
  | succ c ih =>
    intro A B C h
    cases A with
    | nil => rw [mg_nil_left, mg_nil_left]
    | cons x A =>
      cases B with
      | nil => rw [mg_nil_right, mg_nil_left]
      | cons y B =>
        cases C with
        | nil => rw [mg_nil_right, mg_nil_right]
        | cons z C =>
          simp only [List.length_cons] at h
          have i1 := ih A (y :: B) (z :: C) (by simp; omega)
          have i2 := ih (x :: A) B (z :: C) (by simp; omega)
          have i3 := ih (x :: A) (y :: B) C (by simp; omega)
          simp only [mg] at i1 i2 i3 ⊢
          rw [List.cons_merge_cons (a := x) (b := y), List.cons_merge_cons (a := y) (b := z)]
          by_cases h1 : leK x y = true
          · rw [if_pos h1]
            by_cases h2 : leK y z = true
            · rw [if_pos h2]
              have h3 : leK x z = true := by simp [leK] at *; omega
              rw [List.cons_merge_cons, if_pos h3, List.cons_merge_cons, if_pos h1, i1, List.cons_merge_cons, if_pos h2]
            · rw [if_neg h2]
              by_cases h3 : leK x z = true
              · rw [List.cons_merge_cons, if_pos h3, List.cons_merge_cons, if_pos h3, i1, List.cons_merge_cons, if_neg h2]
              · rw [List.cons_merge_cons, if_neg h3, List.cons_merge_cons, if_neg h3]
                rw [← i3, List.cons_merge_cons, if_pos h1]
          · rw [if_neg h1]
            by_cases h2 : leK y z = true
            · rw [if_pos h2]
              rw [List.cons_merge_cons, if_pos h2, List.cons_merge_cons, if_neg h1, i2]
            · rw [if_neg h2]
              have h3 : ¬ leK x z = true := by simp [leK] at *; omega
              rw [List.cons_merge_cons, if_neg h2, List.cons_merge_cons, if_neg h3, ← i3, List.cons_merge_cons, if_neg h1]

def isrt (S : List E) : List E := S.foldl (fun acc x => mg acc [x]) []
theorem isrt_snoc (S : List E) (x : E) : isrt (S ++ [x]) = mg (isrt S) [x] := by simp [isrt]
theorem isrt_app (A : List E) : ∀ (c : Nat) (B : List E), B.length = c → isrt (A ++ B) = mg (isrt A) (isrt B) := by
  intro c
  induction c with
  | zero => intro B h; rw [List.length_eq_zero_iff.mp h, List.append_nil]; exact (mg_nil_right _).symm
  | succ c ih =>
    intro B h
    obtain ⟨B', z, rfl⟩ : ∃ B' z, B = B' ++ [z] := ⟨B.dropLast, B.getLast (by intro e; rw [e] at h; simp at h), (List.dropLast_concat_getLast _).symm⟩
    rw [← List.append_assoc, isrt_snoc, ih B' (by simpa using h), isrt_snoc, mg_assoc _ _ _ _ rfl]
theorem isrt_len (S : List E) : (isrt S).length = S.length := by
  have : ∀ (c : Nat) (S : List E), S.length = c → (isrt S).length = S.length := by
    intro c
    induction c with
    | zero => intro S h; rw [List.length_eq_zero_iff.mp h]; rfl
    | succ c ih =>
      intro B h
      obtain ⟨B', z, rfl⟩ : ∃ B' z, B = B' ++ [z] := ⟨B.dropLast, B.getLast (by intro e; rw [e] at h; simp at h), (List.dropLast_concat_getLast _).symm⟩
      rw [isrt_snoc, mg_len, ih B' (by simpa using h)]
      simp
  exact this _ S rfl
theorem mg_mem {A B : List E} {x : E} : x ∈ mg A B ↔ x ∈ A ∨ x ∈ B := by simp [mg, List.mem_merge]
theorem mg_sd : ∀ (c : Nat) (A B : List E), A.length + B.length = c → Sd A → Sd B → Sd (mg A B) := by
  intro c
  induction c with
  | zero =>
    intro A B h _ _
    have : A = [] := List.length_eq_zero_iff.mp (by omega)
    have : B = [] := List.length_eq_zero_iff.mp (by omega)
    subst_vars
    rw [mg_nil_left]; exact .nil
  | succ c ih =>
    intro A B h sa sb
    cases A with
    | nil => rw [mg_nil_left]; exact sb
    | cons x A =>
      cases B with
      | nil => rw [mg_nil_right]; exact sa
      | cons y B =>
        simp only [List.length_cons] at h
        obtain ⟨a1, a2⟩ := List.pairwise_cons.mp sa
        obtain ⟨b1, b2⟩ := List.pairwise_cons.mp sb
        show Sd (List.merge (x :: A) (y :: B) leK)
        rw [List.cons_merge_cons]
        by_cases hle : leK x y = true
        · rw [if_pos hle]
          refine List.pairwise_cons.mpr ⟨fun z hz => ?_, ih A (y :: B) (by simp; omega) a2 sb⟩
          have hxy : key x ≤ key y := by simpa [leK] using hle
          rcases mg_mem.mp hz with e | e
          · exact a1 z e
          · rcases List.mem_cons.mp e with e | e
            · rw [e]; exact hxy
            · exact Int.le_trans hxy (b1 z e)
        · rw [if_neg hle]
          refine List.pairwise_cons.mpr ⟨fun z hz => ?_, ih (x :: A) B (by simp; omega) sa b2⟩
          have hxy : key y ≤ key x := by simp [leK] at hle; omega
          rcases mg_mem.mp hz with e | e
          · rcases List.mem_cons.mp e with e | e
            · rw [e]; exact hxy
            · exact Int.le_trans hxy (a1 z e)
          · exact b1 z e
theorem isrt_sd (S : List E) : Sd (isrt S) := by
  have : ∀ (c : Nat) (S : List E), S.length = c → Sd (isrt S) := by
    intro c
    induction c with
    | zero => intro S h; rw [List.length_eq_zero_iff.mp h]; exact .nil
    | succ c ih =>
      intro B h
      obtain ⟨B', z, rfl⟩ : ∃ B' z, B = B' ++ [z] := ⟨B.dropLast, B.getLast (by intro e; rw [e] at h; simp at h), (List.dropLast_concat_getLast _).symm⟩
      rw [isrt_snoc]
      exact mg_sd _ _ _ rfl (ih B' (by simpa using h)) (List.pairwise_singleton _ _)
  exact this _ S rfl
theorem isrt_id : ∀ (c : Nat) (S : List E), S.length = c → Sd S → isrt S = S := by
  intro c
  induction c with
  | zero => intro S h _; rw [List.length_eq_zero_iff.mp h]; rfl
  | succ c ih =>
    intro B h hs
    obtain ⟨B', z, rfl⟩ : ∃ B' z, B = B' ++ [z] := ⟨B.dropLast, B.getLast (by intro e; rw [e] at h; simp at h), (List.dropLast_concat_getLast _).symm⟩
    obtain ⟨h1, _, h3⟩ := List.pairwise_append.mp hs
    rw [isrt_snoc, ih B' (by simpa using h) h1]
    have := mg_left (A1 := B') (A2 := []) (B := [z]) h3
    simp only [List.append_nil, mg_nil_left] at this
    exact this

/-! ### insertionSort -/
section
variable {G : Heap} {id g : Nat} {lo : List Nat}
theorem insIn (hG : id < G.length) {x : E} {P T : List E} {N a b i : Nat} (hl : N < 2 ^ 40) (ha : a = P.length) : ∀ (c : Nat) (A1 A2 : List E) (j : Nat), A1.length = c → j = P.length + A1.length → N = (P ++ A1 ++ x :: (A2 ++ T)).length → Sd (A1 ++ A2) → (∀ z ∈ A2, key x < key z) → i < 2 ^ 40 →
    L102_10 [R id g N, I a, I b, cl, I i, I j] lo (Hp G id g (P ++ A1 ++ x :: (A2 ++ T))) = L102_4 [R id g N, I a, I b, cl, I (i + 1 : Nat)] lo (Hp G id g (P ++ mg (A1 ++ A2) [x] ++ T)) := by
  intro c
  induction c with
  | zero =>
    intro A1 A2 j hA hj hN hs h2 hi
    have : A1 = [] := List.length_eq_zero_iff.mp hA
    subst this
    rw [L102_10_eq]
    have hja : ¬ (a : Int) < j := by simp at hj; omega
    simp only [hja, obs, oms, bin_add, bin_sub, bin_lss, bin_leq, bin_gtr, bin_geq, bin_eql, bin_neq, bin_eqlB, bin_neqB, un_not, cond_B, gd_B, gd_undef, gdH_B, gdH_undef, pickA_B, extractA_tup, lenA_sl, lenA_row, fldA_fp, fldA_ptr, fldA_rptr, List.getElem?_cons_zero, List.getElem?_cons_succ, decide_true, decide_false, if_true, if_false, Bool.true_eq_false, Bool.false_eq_true, Bool.not_true, Bool.not_false]
    rw [wrap_id (by omega), nxt]
    have := mg_right (A := A2) (B1 := [x]) (B2 := []) (fun y hy z hz => by rw [List.mem_singleton.mp hy]; exact h2 z hz)
    simp only [List.append_nil, mg_nil_right] at this
    simp only [List.nil_append, List.append_nil]
    rw [this]
    simp
  | succ c ih =>
    intro A1 A2 j hA hj hN hs h2 hi
    obtain ⟨A', z, rfl⟩ : ∃ A' z, A1 = A' ++ [z] := ⟨A1.dropLast, A1.getLast (by intro e; rw [e] at hA; simp at hA), (List.dropLast_concat_getLast _).symm⟩
    simp only [List.length_append, List.length_singleton] at hA hj
    have hN' : N = P.length + A'.length + 1 + 1 + A2.length + T.length := by rw [hN]; simp <;> omega
    have hes : P ++ (A' ++ [z]) ++ x :: (A2 ++ T) = (P ++ A') ++ z :: ([] ++ x :: (A2 ++ T)) := by simp
    have hsw := swp_at (P ++ A') z x [] (A2 ++ T)
    rw [← hes] at hsw
    have h1 : j - 1 < (P ++ (A' ++ [z]) ++ x :: (A2 ++ T)).length := by rw [← hN]; omega
    have h2' : j < (P ++ (A' ++ [z]) ++ x :: (A2 ++ T)).length := by rw [← hN]; omega
    have gz : (P ++ (A' ++ [z]) ++ x :: (A2 ++ T))[j - 1] = z := by
      have e : (P ++ (A' ++ [z]) ++ x :: (A2 ++ T))[j - 1]? = some z := by
        rw [hes, List.getElem?_append_right (by simp; omega), show j - 1 - (P ++ A').length = 0 by simp; omega]; rfl
      rw [List.getElem?_eq_getElem h1] at e; exact Option.some.inj e
    have gx : (P ++ (A' ++ [z]) ++ x :: (A2 ++ T))[j] = x := by
      have e : (P ++ (A' ++ [z]) ++ x :: (A2 ++ T))[j]? = some x := by
        rw [List.getElem?_append_right (by simp; omega), show j - (P ++ (A' ++ [z])).length = 0 by simp; omega]; rfl
      rw [List.getElem?_eq_getElem h2'] at e; exact Option.some.inj e
    have hrev := swp_rev h1 h2'
    rw [gz, gx] at hrev
    have hja : (a : Int) < j := by omega
    have b1 : j < N := by omega
    have b2 : j - 1 < N := by omega
    rw [L102_10_eq]
    simp only [hja, obs, oms, bin_add, bin_sub, bin_lss, bin_leq, bin_gtr, bin_geq, bin_eql, bin_neq, bin_eqlB, bin_neqB, un_not, cond_B, gd_B, gd_undef, gdH_B, gdH_undef, pickA_B, extractA_tup, lenA_sl, lenA_row, fldA_fp, fldA_ptr, fldA_rptr, List.getElem?_cons_zero, List.getElem?_cons_succ, decide_true, decide_false, if_true, if_false, Bool.true_eq_false, Bool.false_eq_true, Bool.not_true, Bool.not_false]
    rw [wrap_id (by omega), show (j : Int) - 1 = ((j - 1 : Nat) : Int) by omega]
    simp only [rix b1, rix b2, obs, rld hG h2', rld hG h1, gx, gz, callCmp, bin_lss, cmpK_neg, cond_B]
    by_cases hk : key x < key z
    · simp only [hk, decide_true, if_true, rst hG _ h2', oms, obs]
      rw [rst hG (es := (P ++ (A' ++ [z]) ++ x :: (A2 ++ T)).set j z) _ (by simpa using h1)]
      simp only [oms, obs, bin_sub]
      rw [hrev, show (j - 1 : Nat) = (P ++ A').length by simp; omega, show j = (P ++ A').length + 1 + ([] : List E).length by simp; omega, hsw]
      have e := ih A' (z :: A2) (P ++ A').length (by omega) (by simp) (by rw [hN]; simp <;> omega) (by simpa using hs) (fun w hw => by
        rcases List.mem_cons.mp hw with e | e
        · rw [e]; exact hk
        · exact h2 w e) hi
      rw [show (P ++ A') ++ x :: ([] ++ z :: (A2 ++ T)) = P ++ A' ++ x :: ((z :: A2) ++ T) by simp, e]
      simp
    · simp only [hk, decide_false, Bool.false_eq_true, if_false, bin_add, obs]
      rw [wrap_id (by omega), nxt]
      have hle : ∀ w ∈ A' ++ [z], ∀ y ∈ [x], key w ≤ key y := fun w hw y hy => by
        rw [List.mem_singleton.mp hy]
        rcases List.mem_append.mp hw with e | e
        · have := (List.pairwise_append.mp (List.pairwise_append.mp hs).1).2.2 w e z (by simp)
          omega
        · rw [List.mem_singleton.mp e]; omega
      rw [mg_left hle]
      have := mg_right (A := A2) (B1 := [x]) (B2 := []) (fun y hy z hz => by rw [List.mem_singleton.mp hy]; exact h2 z hz)
      simp only [List.append_nil, mg_nil_right] at this
      rw [this]
      simp
theorem insOut (hG : id < G.length) {P T : List E} {N a b : Nat} (hl : N < 2 ^ 40) (ha : a = P.length) : ∀ (c : Nat) (acc rest : List E) (i : Nat), rest.length = c → i = P.length + acc.length → b = P.length + acc.length + rest.length → N = (P ++ isrt acc ++ rest ++ T).length →
    L102_4 [R id g N, I a, I b, cl, I i] lo (Hp G id g (P ++ isrt acc ++ rest ++ T)) = some ([], Hp G id g (P ++ isrt (acc ++ rest) ++ T)) := by
  intro c
  induction c with
  | zero =>
    intro acc rest i hr hi hb hN
    have : rest = [] := List.length_eq_zero_iff.mp hr
    subst this
    rw [L102_4_eq]
    simp only [obs, oms, bin_add, bin_sub, bin_lss, bin_leq, bin_gtr, bin_geq, bin_eql, bin_neq, bin_eqlB, bin_neqB, un_not, cond_B, gd_B, gd_undef, gdH_B, gdH_undef, pickA_B, extractA_tup, lenA_sl, lenA_row, fldA_fp, fldA_ptr, fldA_rptr, List.getElem?_cons_zero, List.getElem?_cons_succ, decide_true, decide_false, if_true, if_false, Bool.true_eq_false, Bool.false_eq_true, Bool.not_true, Bool.not_false]
    rw [if_neg (by simp at hb ⊢; omega)]
    simp [leave]
  | succ c ih =>
    intro acc rest i hr hi hb hN
    cases rest with
    | nil => simp at hr
    | cons x rest =>
      simp only [List.length_cons] at hr hb
      have hil := isrt_len acc
      have hN' : N = P.length + acc.length + (rest.length + 1) + T.length := by rw [hN]; simp [hil] <;> omega
      have hlt : (i : Int) < b := by omega
      rw [L102_4_eq]
      simp only [hlt, obs, oms, bin_add, bin_sub, bin_lss, bin_leq, bin_gtr, bin_geq, bin_eql, bin_neq, bin_eqlB, bin_neqB, un_not, cond_B, gd_B, gd_undef, gdH_B, gdH_undef, pickA_B, extractA_tup, lenA_sl, lenA_row, fldA_fp, fldA_ptr, fldA_rptr, List.getElem?_cons_zero, List.getElem?_cons_succ, decide_true, decide_false, if_true, if_false, Bool.true_eq_false, Bool.false_eq_true, Bool.not_true, Bool.not_false]
      have e := insIn (lo := lo) (g := g) (b := b) hG (x := x) (P := P) (T := rest ++ T) (N := N) (i := i) hl ha _ (isrt acc) [] i rfl (by omega) (by rw [hN]; simp) (by rw [List.append_nil]; exact isrt_sd acc) (fun z hz => by cases hz) (by omega)
      rw [show P ++ isrt acc ++ (x :: rest) ++ T = P ++ isrt acc ++ x :: ([] ++ (rest ++ T)) by simp, e, List.append_nil, ← isrt_snoc]
      have e2 := ih (acc ++ [x]) rest (i + 1) (by omega) (by simp; omega) (by simp; omega) (by rw [hN']; simp [isrt_len] <;> omega)
      rw [← List.append_assoc (P ++ isrt (acc ++ [x])), e2]
      simp
theorem call102 (hG : id < G.length) {P S T : List E} {N a b : Nat} (hl : N < 2 ^ 40) (hN : N = (P ++ S ++ T).length) (ha : a = P.length) (hb : b = P.length + S.length) :
    callA cfg O 102 [R id g N, I a, I b, cl] lo (Hp G id g (P ++ S ++ T)) = some (.tup [], Hp G id g (P ++ isrt S ++ T)) := by
  refine callA_keep (rs := []) rfl ?_
  have hN' : N = P.length + S.length + T.length := by rw [hN]; simp <;> omega
  rw [f102_eq]
  simp only [obs, oms, bin_add, bin_sub, bin_lss, bin_leq, bin_gtr, bin_geq, bin_eql, bin_neq, bin_eqlB, bin_neqB, un_not, cond_B, gd_B, gd_undef, gdH_B, gdH_undef, pickA_B, extractA_tup, lenA_sl, lenA_row, fldA_fp, fldA_ptr, fldA_rptr, List.getElem?_cons_zero, List.getElem?_cons_succ, decide_true, decide_false, if_true, if_false, Bool.true_eq_false, Bool.false_eq_true, Bool.not_true, Bool.not_false]
  rw [wrap_id (by omega), nxt]
  cases S with
  | nil =>
    rw [L102_4_eq]
    simp only [obs, oms, bin_add, bin_sub, bin_lss, bin_leq, bin_gtr, bin_geq, bin_eql, bin_neq, bin_eqlB, bin_neqB, un_not, cond_B, gd_B, gd_undef, gdH_B, gdH_undef, pickA_B, extractA_tup, lenA_sl, lenA_row, fldA_fp, fldA_ptr, fldA_rptr, List.getElem?_cons_zero, List.getElem?_cons_succ, decide_true, decide_false, if_true, if_false, Bool.true_eq_false, Bool.false_eq_true, Bool.not_true, Bool.not_false]
    rw [if_neg (by simp at hb ⊢; omega)]
    rfl
  | cons x S =>
    simp only [List.length_cons] at hb hN'
    have e := insOut (lo := lo) (g := g) (b := b) hG (P := P) (T := T) hl ha S.length [x] S (a + 1) rfl (by simp; omega) (by simp; omega) (by rw [hN]; simp [isrt, mg])
    have h1 : isrt [x] = [x] := by simp [isrt, mg]
    rw [h1] at e
    rw [show P ++ (x :: S) ++ T = P ++ [x] ++ S ++ T by simp, e]
    simp
end
end Rm
end Go.Proofs.Ytcgahlekjfemfaa
