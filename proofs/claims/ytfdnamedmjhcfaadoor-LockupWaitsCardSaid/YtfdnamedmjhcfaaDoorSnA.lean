import Derived.Test.YtfdnamedmjhcfaaDoorKnA
/- slices.ContainsFunc at the types of a state. Printed by gen_sb.py. -/
set_option linter.unusedVariables false
set_option linter.unusedSimpArgs false
set_option maxRecDepth 100000
namespace Go.Proofs.YtfdnamedmjhcfaaDoor
open Go Go.AM
namespace Ir
theorem entCP {P : Nat → Prop} {v0 v1 : AV} {n : Nat} {H : Heap} (hn : n < 2 ^ 63) (hl : lenA .slice v0 H = some (I n)) (h : AskedP P true 4 v0 v1 n H) (lo : List Nat) : ∃ r : Int, O.ent 102 [v0, v1] lo H = some ([I r], H) ∧ (r < 0 → ∀ i, i < n → P i) := by
  rw [f102_eq]
  have go : ∀ (c i : Nat), n - i = c → i ≤ n → ∃ r : Int, L102_6 [v0, v1, I n, I i] (H.length :: lo) H = some ([I r], H) ∧ (r < 0 → ∀ j, i ≤ j → j < n → P j) := by
    intro c
    induction c with
    | zero =>
      intro i hc hi
      have : i = n := by omega
      subst this
      refine ⟨-1, ?_, fun _ j h1 h2 => absurd h1 (by omega)⟩
      rw [L102_6_eq]
      simp only [Int.lt_irrefl, core]
      exact leave3_p (Ia (-1)) lo H
    | succ c ih =>
      intro i hc hi
      have hlt : (i : Int) < n := by omega
      obtain ⟨q, x, e1, e2, h3⟩ := h i (by omega)
      obtain ⟨b, e3, hb⟩ := h3 (H.length :: lo)
      have w : IntKind.i64.wrap ((i : Int) + 1) = ((i + 1 : Nat) : Int) := by rw [wrap_id (by omega), nxt]
      rw [L102_6_eq]
      cases b with
      | true =>
        refine ⟨i, ?_, fun h => absurd h (by omega)⟩
        simp only [hlt, e1, e2, e3, core]
        exact leave3_p (Ia i) lo H
      | false =>
        obtain ⟨r, hr, hp⟩ := ih (i + 1) (by omega) (by omega)
        refine ⟨r, ?_, fun h j h1 h2 => ?_⟩
        rotate_left
        · by_cases e : i = j
          · subst e; exact hb rfl
          · exact hp h j (by omega) h2
        simp only [hlt, e1, e2, e3, w, core]
        exact hr
  obtain ⟨r, hr, hp⟩ := go n 0 (by omega) (by omega)
  refine ⟨r, ?_, fun h i hi => hp h i (by omega) hi⟩
  rw [hl, obs]
  exact hr
theorem callCP {P : Nat → Prop} {v0 v1 : AV} {n : Nat} {H : Heap} (hn : n < 2 ^ 63) (hl : lenA .slice v0 H = some (I n)) (h : AskedP P true 4 v0 v1 n H) (lo : List Nat) : ∃ b, callA cfg O 61 [v0, v1] lo H = some (B b, H) ∧ (b = false → ∀ i, i < n → P i) := by
  obtain ⟨r, hr, hp⟩ := entCP hn hl h (H.length :: lo)
  refine ⟨decide (0 ≤ r), callA_same (rs := [B (decide (0 ≤ r))]) rfl ?_, fun h => hp (by have := of_decide_eq_false h; omega)⟩
  rw [f61_eq, callA_same (rs := [I r]) rfl hr]
  simp only [ret, core]
  exact leave3_p (.v (.bool (decide (0 ≤ r)))) lo H

theorem entFP {P : Nat → Prop} {v0 v1 : AV} {n : Nat} {H : Heap} (hn : n < 2 ^ 63) (hl : lenA .slice v0 H = some (I n)) (h : AskedP P true 8 v0 v1 n H) (lo : List Nat) : ∃ r : Int, O.ent 140 [v0, v1] lo H = some ([I r], H) ∧ (r < 0 → ∀ i, i < n → P i) := by
  rw [f140_eq]
  have go : ∀ (c i : Nat), n - i = c → i ≤ n → ∃ r : Int, L140_6 [v0, v1, I n, I i] (H.length :: lo) H = some ([I r], H) ∧ (r < 0 → ∀ j, i ≤ j → j < n → P j) := by
    intro c
    induction c with
    | zero =>
      intro i hc hi
      have : i = n := by omega
      subst this
      refine ⟨-1, ?_, fun _ j h1 h2 => absurd h1 (by omega)⟩
      rw [L140_6_eq]
      simp only [Int.lt_irrefl, core]
      exact leave3_p (Ia (-1)) lo H
    | succ c ih =>
      intro i hc hi
      have hlt : (i : Int) < n := by omega
      obtain ⟨q, x, e1, e2, h3⟩ := h i (by omega)
      obtain ⟨b, e3, hb⟩ := h3 (H.length :: lo)
      have w : IntKind.i64.wrap ((i : Int) + 1) = ((i + 1 : Nat) : Int) := by rw [wrap_id (by omega), nxt]
      rw [L140_6_eq]
      cases b with
      | true =>
        refine ⟨i, ?_, fun h => absurd h (by omega)⟩
        simp only [hlt, e1, e2, e3, core]
        exact leave3_p (Ia i) lo H
      | false =>
        obtain ⟨r, hr, hp⟩ := ih (i + 1) (by omega) (by omega)
        refine ⟨r, ?_, fun h j h1 h2 => ?_⟩
        rotate_left
        · by_cases e : i = j
          · subst e; exact hb rfl
          · exact hp h j (by omega) h2
        simp only [hlt, e1, e2, e3, w, core]
        exact hr
  obtain ⟨r, hr, hp⟩ := go n 0 (by omega) (by omega)
  refine ⟨r, ?_, fun h i hi => hp h i (by omega) hi⟩
  rw [hl, obs]
  exact hr
theorem callFP {P : Nat → Prop} {v0 v1 : AV} {n : Nat} {H : Heap} (hn : n < 2 ^ 63) (hl : lenA .slice v0 H = some (I n)) (h : AskedP P true 8 v0 v1 n H) (lo : List Nat) : ∃ b, callA cfg O 107 [v0, v1] lo H = some (B b, H) ∧ (b = false → ∀ i, i < n → P i) := by
  obtain ⟨r, hr, hp⟩ := entFP hn hl h (H.length :: lo)
  refine ⟨decide (0 ≤ r), callA_same (rs := [B (decide (0 ≤ r))]) rfl ?_, fun h => hp (by have := of_decide_eq_false h; omega)⟩
  rw [f107_eq, callA_same (rs := [I r]) rfl hr]
  simp only [ret, core]
  exact leave3_p (.v (.bool (decide (0 ≤ r)))) lo H

theorem entSP {P : Nat → Prop} {v0 v1 : AV} {n : Nat} {H : Heap} (hn : n < 2 ^ 63) (hl : lenA .slice v0 H = some (I n)) (h : AskedP P true 2 v0 v1 n H) (lo : List Nat) : ∃ r : Int, O.ent 101 [v0, v1] lo H = some ([I r], H) ∧ (r < 0 → ∀ i, i < n → P i) := by
  rw [f101_eq]
  have go : ∀ (c i : Nat), n - i = c → i ≤ n → ∃ r : Int, L101_6 [v0, v1, I n, I i] (H.length :: lo) H = some ([I r], H) ∧ (r < 0 → ∀ j, i ≤ j → j < n → P j) := by
    intro c
    induction c with
    | zero =>
      intro i hc hi
      have : i = n := by omega
      subst this
      refine ⟨-1, ?_, fun _ j h1 h2 => absurd h1 (by omega)⟩
      rw [L101_6_eq]
      simp only [Int.lt_irrefl, core]
      exact leave3_p (Ia (-1)) lo H
    | succ c ih =>
      intro i hc hi
      have hlt : (i : Int) < n := by omega
      obtain ⟨q, x, e1, e2, h3⟩ := h i (by omega)
      obtain ⟨b, e3, hb⟩ := h3 (H.length :: lo)
      have w : IntKind.i64.wrap ((i : Int) + 1) = ((i + 1 : Nat) : Int) := by rw [wrap_id (by omega), nxt]
      rw [L101_6_eq]
      cases b with
      | true =>
        refine ⟨i, ?_, fun h => absurd h (by omega)⟩
        simp only [hlt, e1, e2, e3, core]
        exact leave3_p (Ia i) lo H
      | false =>
        obtain ⟨r, hr, hp⟩ := ih (i + 1) (by omega) (by omega)
        refine ⟨r, ?_, fun h j h1 h2 => ?_⟩
        rotate_left
        · by_cases e : i = j
          · subst e; exact hb rfl
          · exact hp h j (by omega) h2
        simp only [hlt, e1, e2, e3, w, core]
        exact hr
  obtain ⟨r, hr, hp⟩ := go n 0 (by omega) (by omega)
  refine ⟨r, ?_, fun h i hi => hp h i (by omega) hi⟩
  rw [hl, obs]
  exact hr
theorem callSP {P : Nat → Prop} {v0 v1 : AV} {n : Nat} {H : Heap} (hn : n < 2 ^ 63) (hl : lenA .slice v0 H = some (I n)) (h : AskedP P true 2 v0 v1 n H) (lo : List Nat) : ∃ b, callA cfg O 59 [v0, v1] lo H = some (B b, H) ∧ (b = false → ∀ i, i < n → P i) := by
  obtain ⟨r, hr, hp⟩ := entSP hn hl h (H.length :: lo)
  refine ⟨decide (0 ≤ r), callA_same (rs := [B (decide (0 ≤ r))]) rfl ?_, fun h => hp (by have := of_decide_eq_false h; omega)⟩
  rw [f59_eq, callA_same (rs := [I r]) rfl hr]
  simp only [ret, core]
  exact leave3_p (.v (.bool (decide (0 ≤ r)))) lo H

theorem entEP {P : Nat → Prop} {v0 v1 : AV} {n : Nat} {H : Heap} (hn : n < 2 ^ 63) (hl : lenA .slice v0 H = some (I n)) (h : AskedP P true 3 v0 v1 n H) (lo : List Nat) : ∃ r : Int, O.ent 109 [v0, v1] lo H = some ([I r], H) ∧ (r < 0 → ∀ i, i < n → P i) := by
  rw [f109_eq]
  have go : ∀ (c i : Nat), n - i = c → i ≤ n → ∃ r : Int, L109_6 [v0, v1, I n, I i] (H.length :: lo) H = some ([I r], H) ∧ (r < 0 → ∀ j, i ≤ j → j < n → P j) := by
    intro c
    induction c with
    | zero =>
      intro i hc hi
      have : i = n := by omega
      subst this
      refine ⟨-1, ?_, fun _ j h1 h2 => absurd h1 (by omega)⟩
      rw [L109_6_eq]
      simp only [Int.lt_irrefl, core]
      exact leave3_p (Ia (-1)) lo H
    | succ c ih =>
      intro i hc hi
      have hlt : (i : Int) < n := by omega
      obtain ⟨q, x, e1, e2, h3⟩ := h i (by omega)
      obtain ⟨b, e3, hb⟩ := h3 (H.length :: lo)
      have w : IntKind.i64.wrap ((i : Int) + 1) = ((i + 1 : Nat) : Int) := by rw [wrap_id (by omega), nxt]
      rw [L109_6_eq]
      cases b with
      | true =>
        refine ⟨i, ?_, fun h => absurd h (by omega)⟩
        simp only [hlt, e1, e2, e3, core]
        exact leave3_p (Ia i) lo H
      | false =>
        obtain ⟨r, hr, hp⟩ := ih (i + 1) (by omega) (by omega)
        refine ⟨r, ?_, fun h j h1 h2 => ?_⟩
        rotate_left
        · by_cases e : i = j
          · subst e; exact hb rfl
          · exact hp h j (by omega) h2
        simp only [hlt, e1, e2, e3, w, core]
        exact hr
  obtain ⟨r, hr, hp⟩ := go n 0 (by omega) (by omega)
  refine ⟨r, ?_, fun h i hi => hp h i (by omega) hi⟩
  rw [hl, obs]
  exact hr
theorem callEP {P : Nat → Prop} {v0 v1 : AV} {n : Nat} {H : Heap} (hn : n < 2 ^ 63) (hl : lenA .slice v0 H = some (I n)) (h : AskedP P true 3 v0 v1 n H) (lo : List Nat) : ∃ b, callA cfg O 66 [v0, v1] lo H = some (B b, H) ∧ (b = false → ∀ i, i < n → P i) := by
  obtain ⟨r, hr, hp⟩ := entEP hn hl h (H.length :: lo)
  refine ⟨decide (0 ≤ r), callA_same (rs := [B (decide (0 ≤ r))]) rfl ?_, fun h => hp (by have := of_decide_eq_false h; omega)⟩
  rw [f66_eq, callA_same (rs := [I r]) rfl hr]
  simp only [ret, core]
  exact leave3_p (.v (.bool (decide (0 ≤ r)))) lo H

theorem entVP {P : Nat → Prop} {v0 v1 : AV} {n : Nat} {H : Heap} (hn : n < 2 ^ 63) (hl : lenA .slice v0 H = some (I n)) (h : AskedP P true 2 v0 v1 n H) (lo : List Nat) : ∃ r : Int, O.ent 87 [v0, v1] lo H = some ([I r], H) ∧ (r < 0 → ∀ i, i < n → P i) := by
  rw [f87_eq]
  have go : ∀ (c i : Nat), n - i = c → i ≤ n → ∃ r : Int, L87_6 [v0, v1, I n, I i] (H.length :: lo) H = some ([I r], H) ∧ (r < 0 → ∀ j, i ≤ j → j < n → P j) := by
    intro c
    induction c with
    | zero =>
      intro i hc hi
      have : i = n := by omega
      subst this
      refine ⟨-1, ?_, fun _ j h1 h2 => absurd h1 (by omega)⟩
      rw [L87_6_eq]
      simp only [Int.lt_irrefl, core]
      exact leave3_p (Ia (-1)) lo H
    | succ c ih =>
      intro i hc hi
      have hlt : (i : Int) < n := by omega
      obtain ⟨q, x, e1, e2, h3⟩ := h i (by omega)
      obtain ⟨b, e3, hb⟩ := h3 (H.length :: lo)
      have w : IntKind.i64.wrap ((i : Int) + 1) = ((i + 1 : Nat) : Int) := by rw [wrap_id (by omega), nxt]
      rw [L87_6_eq]
      cases b with
      | true =>
        refine ⟨i, ?_, fun h => absurd h (by omega)⟩
        simp only [hlt, e1, e2, e3, core]
        exact leave3_p (Ia i) lo H
      | false =>
        obtain ⟨r, hr, hp⟩ := ih (i + 1) (by omega) (by omega)
        refine ⟨r, ?_, fun h j h1 h2 => ?_⟩
        rotate_left
        · by_cases e : i = j
          · subst e; exact hb rfl
          · exact hp h j (by omega) h2
        simp only [hlt, e1, e2, e3, w, core]
        exact hr
  obtain ⟨r, hr, hp⟩ := go n 0 (by omega) (by omega)
  refine ⟨r, ?_, fun h i hi => hp h i (by omega) hi⟩
  rw [hl, obs]
  exact hr
theorem callVP {P : Nat → Prop} {v0 v1 : AV} {n : Nat} {H : Heap} (hn : n < 2 ^ 63) (hl : lenA .slice v0 H = some (I n)) (h : AskedP P true 2 v0 v1 n H) (lo : List Nat) : ∃ b, callA cfg O 50 [v0, v1] lo H = some (B b, H) ∧ (b = false → ∀ i, i < n → P i) := by
  obtain ⟨r, hr, hp⟩ := entVP hn hl h (H.length :: lo)
  refine ⟨decide (0 ≤ r), callA_same (rs := [B (decide (0 ≤ r))]) rfl ?_, fun h => hp (by have := of_decide_eq_false h; omega)⟩
  rw [f50_eq, callA_same (rs := [I r]) rfl hr]
  simp only [ret, core]
  exact leave3_p (.v (.bool (decide (0 ≤ r)))) lo H

theorem entTP {P : Nat → Prop} {v0 v1 : AV} {n : Nat} {H : Heap} (hn : n < 2 ^ 63) (hl : lenA .slice v0 H = some (I n)) (h : AskedP P false 1 v0 v1 n H) (lo : List Nat) : ∃ r : Int, O.ent 85 [v0, v1] lo H = some ([I r], H) ∧ (r < 0 → ∀ i, i < n → P i) := by
  rw [f85_eq]
  have go : ∀ (c i : Nat), n - i = c → i ≤ n → ∃ r : Int, L85_6 [v0, v1, I n, I i] (H.length :: lo) H = some ([I r], H) ∧ (r < 0 → ∀ j, i ≤ j → j < n → P j) := by
    intro c
    induction c with
    | zero =>
      intro i hc hi
      have : i = n := by omega
      subst this
      refine ⟨-1, ?_, fun _ j h1 h2 => absurd h1 (by omega)⟩
      rw [L85_6_eq]
      simp only [Int.lt_irrefl, core]
      exact leave3_p (Ia (-1)) lo H
    | succ c ih =>
      intro i hc hi
      have hlt : (i : Int) < n := by omega
      obtain ⟨q, x, e1, e2, h3⟩ := h i (by omega)
      obtain ⟨b, e3, hb⟩ := h3 (H.length :: lo)
      have w : IntKind.i64.wrap ((i : Int) + 1) = ((i + 1 : Nat) : Int) := by rw [wrap_id (by omega), nxt]
      rw [L85_6_eq]
      cases b with
      | true =>
        refine ⟨i, ?_, fun h => absurd h (by omega)⟩
        simp only [hlt, e1, e2, e3, core]
        exact leave3_p (Ia i) lo H
      | false =>
        obtain ⟨r, hr, hp⟩ := ih (i + 1) (by omega) (by omega)
        refine ⟨r, ?_, fun h j h1 h2 => ?_⟩
        rotate_left
        · by_cases e : i = j
          · subst e; exact hb rfl
          · exact hp h j (by omega) h2
        simp only [hlt, e1, e2, e3, w, core]
        exact hr
  obtain ⟨r, hr, hp⟩ := go n 0 (by omega) (by omega)
  refine ⟨r, ?_, fun h i hi => hp h i (by omega) hi⟩
  rw [hl, obs]
  exact hr
theorem callTP {P : Nat → Prop} {v0 v1 : AV} {n : Nat} {H : Heap} (hn : n < 2 ^ 63) (hl : lenA .slice v0 H = some (I n)) (h : AskedP P false 1 v0 v1 n H) (lo : List Nat) : ∃ b, callA cfg O 45 [v0, v1] lo H = some (B b, H) ∧ (b = false → ∀ i, i < n → P i) := by
  obtain ⟨r, hr, hp⟩ := entTP hn hl h (H.length :: lo)
  refine ⟨decide (0 ≤ r), callA_same (rs := [B (decide (0 ≤ r))]) rfl ?_, fun h => hp (by have := of_decide_eq_false h; omega)⟩
  rw [f45_eq, callA_same (rs := [I r]) rfl hr]
  simp only [ret, core]
  exact leave3_p (.v (.bool (decide (0 ≤ r)))) lo H

end Ir
end Go.Proofs.YtfdnamedmjhcfaaDoor

/- A state's parts, and what may stand in it. -/
set_option linter.unusedVariables false
set_option linter.unusedSimpArgs false
set_option maxRecDepth 100000
namespace Go.Proofs.YtfdnamedmjhcfaaDoor
open Go Go.AM
namespace Ir

abbrev cL (s : A_State) : List A_Cell := s.1.2
abbrev tL (s : A_State) : List ByteArray := s.2.2.1.2
abbrev Cs (s : A_State) : AV := .p (.sl s.1.1 false s.1.2.length (s.1.2.flatMap enc_Cell))
abbrev Hs (s : A_State) : AV := .p (.sl s.2.1.1 false s.2.1.2.length (s.2.1.2.flatMap enc_Shape))
abbrev Ts (s : A_State) : AV := SV s.2.2.1.1 false s.2.2.1.2
abbrev Ws (s : A_State) : AV := .p (.sl s.2.2.2.1.1 false s.2.2.2.1.2.length (s.2.2.2.1.2.flatMap enc_Thread))
abbrev Es (s : A_State) : AV := .p (.sl s.2.2.2.2.1.1 false s.2.2.2.2.1.2.length (s.2.2.2.2.1.2.flatMap enc_End))
abbrev Ds (s : A_State) : AV := .p (.sl s.2.2.2.2.2.1.1 false s.2.2.2.2.2.1.2.length (s.2.2.2.2.2.1.2.flatMap enc_Val))
/-- Does a state lie there? -/
def At (b : Nat) (s : A_State) (H : Heap) : Prop := H[b]? = some (.box ((enc_State s).map .p))
def Pt (r b : Nat) (H : Heap) : Prop := H[r]? = some (.box [.ptr b 0])
def zC : A_Cell := (0, 0, (none, []), (none, []))
theorem len_Cell4 (c : A_Cell) : (enc_Cell c).length = 4 := rfl
theorem len_Frame8 (f : A_Frame) : (enc_Frame f).length = 8 := rfl
theorem len_Shape2 (f : A_Shape) : (enc_Shape f).length = 2 := rfl
theorem len_End3 (f : A_End) : (enc_End f).length = 3 := rfl
theorem len_Try2 (f : A_Try) : (enc_Try f).length = 2 := rfl

section
variable {b r : Nat} {s : A_State} {H : Heap}
theorem At.push (h : At b s H) (l : List AObj) : At b s (H ++ l) := push_get? h l
theorem Pt.push (h : Pt r b H) (l : List AObj) : Pt r b (H ++ l) := push_get? h l
theorem At.s0 (h : At b s H) : ld false 1 (.ptr b 0) H = some (Cs s) := by rw [ld_box h, List.getElem?_map]; rfl
theorem At.s1 (h : At b s H) : ld false 1 (.ptr b 1) H = some (Hs s) := by rw [ld_box h, List.getElem?_map]; rfl
theorem At.s2 (h : At b s H) : ld false 1 (.ptr b 2) H = some (Ts s) := by rw [ld_box h, List.getElem?_map]; rfl
theorem At.s3 (h : At b s H) : ld false 1 (.ptr b 3) H = some (Ws s) := by rw [ld_box h, List.getElem?_map]; rfl
theorem At.s4 (h : At b s H) : ld false 1 (.ptr b 4) H = some (Es s) := by rw [ld_box h, List.getElem?_map]; rfl
theorem At.s5 (h : At b s H) : ld false 1 (.ptr b 5) H = some (Ds s) := by rw [ld_box h, List.getElem?_map]; rfl
theorem At.s6 (h : At b s H) : ld false 1 (.ptr b 6) H = some (I s.2.2.2.2.2.2.1) := by rw [ld_box h, List.getElem?_map]; rfl
theorem At.s7 (h : At b s H) : ld false 1 (.ptr b 7) H = some (I s.2.2.2.2.2.2.2) := by rw [ld_box h, List.getElem?_map]; rfl
theorem Pt.ld (h : Pt r b H) : ld false 1 (.ptr r 0) H = some (.ptr b 0) := by rw [ld_box h]; rfl
theorem nilP (id off : Nat) : nilCheckA (.ptr id off) = some (.ptr id off) := rfl
theorem cut3 (b : Bool) (lo : List Nat) (H : Heap) (l : List AObj) : leave 3 (H.length :: lo) [B b] (H ++ l) = some ([B b], H) := by
  show some ([B b], (H ++ l).take H.length) = _
  rw [List.take_left]

/-- A cell's place. -/
theorem idxC {v : Int} (h : 0 ≤ v ∧ v < (cL s).length) : idxA 4 (Cs s) (I v) = some (.fp ((cL s).flatMap enc_Cell) (v.toNat * 4)) := idxL h
theorem ldC {v : Int} (h : 0 ≤ v ∧ v < (cL s).length) (H : Heap) : ld false 1 (.fp ((cL s).flatMap enc_Cell) (v.toNat * 4)) H = some (I ((cL s).getD v.toNat zC).1) := by
  have hv : v.toNat < (cL s).length := by omega
  have := fldR len_Cell4 hv (show 0 < 4 by decide) H
  rw [Nat.add_zero] at this
  rw [this]
  simp [List.getD_eq_getElem?_getD, hv]
  rfl

/-! ### fits, is -/
def fitsV (s : A_State) (v : A_Val) : Bool :=
  rightV v && (if v.1 = 4 then decide (v.2 < (tL s).length) else if v.1 = 5 then (decide (v.2 < (cL s).length) && !decide (((cL s).getD v.2.toNat zC).1 = 0)) else true)

theorem right_ref {v : A_Val} (h : rightV v = true) (h5 : v.1 = 5) : 0 ≤ v.2 := by
  unfold rightV at h
  simp [h5] at h
  exact h

theorem call65 (h : At b s H) (v : A_Val) (lo : List Nat) : callA cfg O 65 [.ptr b 0, vlV v] lo H = some (B (fitsV s v), H) := by
  refine callA_same (rs := [B (fitsV s v)]) rfl ?_
  have hx : ∀ j, ld false 1 (.ptr H.length j) (H ++ [.box ((enc_Val v).map .p)]) = ((enc_Val v)[j]?).map .p := fun j => ldB _ _ _ _
  have ha : ld true 2 (.ptr H.length 0) (H ++ [.box ((enc_Val v).map .p)]) = some (vlV v) := ldA (len_Val2 v) (by decide) H
  have h' := h.push [.box ((enc_Val v).map .p)]
  have hv : ∀ b : Bool, leave 3 (H.length :: lo) [B b] (H ++ [.box ((enc_Val v).map .p)]) = some ([B b], H) := fun b => cut3 b lo H _
  rw [f65_eq, fitsV]
  cases h1 : rightV v with
  | false => simp only [boxAgg, Nat.zero_add, Nat.add_zero, ha, hx, va0, va1, call96, h1, hv, core, Bool.false_and]
  | true =>
    by_cases h4 : v.1 = 4
    · simp only [boxAgg, Nat.zero_add, Nat.add_zero, ha, hx, va0, va1, call96, h1, h4, hv, nilP, h'.s2, core, Bool.true_and]
    · by_cases h5 : v.1 = 5
      · have h0 := right_ref h1 h5
        by_cases hl : v.2 < (cL s).length
        · by_cases hk : ((cL s).getD v.2.toNat zC).1 = 0
          · simp only [boxAgg, Nat.zero_add, Nat.add_zero, ha, hx, va0, va1, call96, h1, h4, h5, hv, nilP, h'.s0, hl, idxC ⟨h0, hl⟩, ldC ⟨h0, hl⟩, hk, Int.reduceEq, core, Bool.true_and]
          · simp only [boxAgg, Nat.zero_add, Nat.add_zero, ha, hx, va0, va1, call96, h1, h4, h5, hv, nilP, h'.s0, hl, idxC ⟨h0, hl⟩, ldC ⟨h0, hl⟩, hk, Int.reduceEq, core, Bool.true_and]
        · simp only [boxAgg, Nat.zero_add, Nat.add_zero, ha, hx, va0, va1, call96, h1, h4, h5, hv, nilP, h'.s0, hl, Int.reduceEq, core, Bool.true_and, Bool.false_and]
      · simp only [boxAgg, Nat.zero_add, Nat.add_zero, ha, hx, va0, va1, call96, h1, h4, h5, hv, core, Bool.true_and]

def isV (s : A_State) (v : A_Val) (k : Int) : Bool := fitsV s v && (decide (v.1 = 5) && decide (((cL s).getD v.2.toNat zC).1 = k))
theorem fits_ref {v : A_Val} (h : fitsV s v = true) (h5 : v.1 = 5) : 0 ≤ v.2 ∧ v.2 < (cL s).length := by
  unfold fitsV at h
  have h1 : rightV v = true := by
    cases e : rightV v with
    | true => rfl
    | false => rw [e] at h; cases h
  refine ⟨right_ref h1 h5, ?_⟩
  rw [h1, if_neg (by omega), if_pos h5] at h
  simp at h
  exact h.1
theorem call69 (h : At b s H) (v : A_Val) (k : Int) (lo : List Nat) : callA cfg O 69 [.ptr b 0, vlV v, I k] lo H = some (B (isV s v k), H) := by
  refine callA_same (rs := [B (isV s v k)]) rfl ?_
  have hx : ∀ j, ld false 1 (.ptr H.length j) (H ++ [.box ((enc_Val v).map .p)]) = ((enc_Val v)[j]?).map .p := fun j => ldB _ _ _ _
  have ha : ld true 2 (.ptr H.length 0) (H ++ [.box ((enc_Val v).map .p)]) = some (vlV v) := ldA (len_Val2 v) (by decide) H
  have h' := h.push [.box ((enc_Val v).map .p)]
  have hv : ∀ b : Bool, leave 3 (H.length :: lo) [B b] (H ++ [.box ((enc_Val v).map .p)]) = some ([B b], H) := fun b => cut3 b lo H _
  rw [f69_eq, isV]
  cases h1 : fitsV s v with
  | false => simp only [boxAgg, Nat.zero_add, Nat.add_zero, ha, call65 h', h1, hv, core, Bool.false_and]
  | true =>
    by_cases h5 : v.1 = 5
    · have hc := fits_ref h1 h5
      simp only [boxAgg, Nat.zero_add, Nat.add_zero, ha, hx, va0, va1, call65 h', h1, h5, hv, nilP, h'.s0, idxC hc, ldC hc, core, Bool.true_and]
    · simp only [boxAgg, Nat.zero_add, Nat.add_zero, ha, hx, va0, va1, call65 h', h1, h5, hv, core, Bool.true_and, Bool.false_and]

theorem call68 (x y z : Int) (lo : List Nat) (H : Heap) : callA cfg O 68 [I x, I y, I z] lo H = some (B (wi x y z), H) := by
  refine callA_pure (xs := [Ia x, Ia y, Ia z]) (H' := []) (rs := [B (wi x y z)]) rfl ?_ rfl
  show O.ent 68 [I x, I y, I z] [] [] = _
  rw [f68_eq, wi]
  by_cases h : y ≤ x
  · by_cases h2 : x ≤ z <;> simp only [h, h2, Bool.and_true, Bool.and_false, core, leave0_B]
  · simp only [h, Bool.false_and, core, leave0_B]
theorem call71w (x y z : Int) (lo : List Nat) (H : Heap) : callA cfg O 71 [I x, I y, I z] lo H = some (B (wi x y z), H) := by
  refine callA_pure (xs := [Ia x, Ia y, Ia z]) (H' := []) (rs := [B (wi x y z)]) rfl ?_ rfl
  show O.ent 71 [I x, I y, I z] [] [] = _
  rw [f71_eq, wi]
  by_cases h : y ≤ x
  · by_cases h2 : x ≤ z <;> simp only [h, h2, Bool.and_true, Bool.and_false, core, leave0_B]
  · simp only [h, Bool.false_and, core, leave0_B]
theorem call111 (h : At b s H) (v : A_Val) (lo : List Nat) : callA cfg O 111 [.ptr b 0, vlV v] lo H = some (B (fitsV s v), H) := by
  refine callA_same (rs := [B (fitsV s v)]) rfl ?_
  have ha : ld true 2 (.ptr H.length 0) (H ++ [.box ((enc_Val v).map .p)]) = some (vlV v) := ldA (len_Val2 v) (by decide) H
  rw [f111_eq]
  simp only [boxAgg, Nat.zero_add, Nat.add_zero, ha, call65 (h.push [.box ((enc_Val v).map .p)]), core]
  exact cut3 _ lo H _

/-! ### Closures over values -/
theorem cV104 (h : At b s H) (hr : Pt r b H) (v : A_Val) (lo : List Nat) : callV cfg O (.fn 104 [] [.ptr r 0]) [vlV v] lo H = some (B (!isV s v 3), H) := by
  show callA cfg O 104 [vlV v, .ptr r 0] lo H = _
  refine callA_same (rs := [B (!isV s v 3)]) rfl ?_
  have ha : ld true 2 (.ptr H.length 0) (H ++ [.box ((enc_Val v).map .p)]) = some (vlV v) := ldA (len_Val2 v) (by decide) H
  rw [f104_eq]
  simp only [boxAgg, Nat.zero_add, Nat.add_zero, ha, (hr.push _).ld, call69 (h.push [.box ((enc_Val v).map .p)]), core]
  exact cut3 _ lo H _
theorem cV139 (h : At b s H) (hr : Pt r b H) (v : A_Val) (lo : List Nat) : callV cfg O (.fn 139 [] [.ptr r 0]) [vlV v] lo H = some (B (!fitsV s v), H) := by
  show callA cfg O 139 [vlV v, .ptr r 0] lo H = _
  refine callA_same (rs := [B (!fitsV s v)]) rfl ?_
  have ha : ld true 2 (.ptr H.length 0) (H ++ [.box ((enc_Val v).map .p)]) = some (vlV v) := ldA (len_Val2 v) (by decide) H
  rw [f139_eq]
  simp only [boxAgg, Nat.zero_add, Nat.add_zero, ha, (hr.push _).ld, call65 (h.push [.box ((enc_Val v).map .p)]), core]
  exact cut3 _ lo H _
theorem cV64 (h : At b s H) (v : A_Val) (lo : List Nat) : callV cfg O (.fn 64 [] [.ptr b 0]) [vlV v] lo H = some (B (!decide (v.1 = 4) || !fitsV s v), H) := by
  show callA cfg O 64 [vlV v, .ptr b 0] lo H = _
  refine callA_same (rs := [B (!decide (v.1 = 4) || !fitsV s v)]) rfl ?_
  have hx : ∀ j, ld false 1 (.ptr H.length j) (H ++ [.box ((enc_Val v).map .p)]) = ((enc_Val v)[j]?).map .p := fun j => ldB _ _ _ _
  have ha : ld true 2 (.ptr H.length 0) (H ++ [.box ((enc_Val v).map .p)]) = some (vlV v) := ldA (len_Val2 v) (by decide) H
  have hv : ∀ b : Bool, leave 3 (H.length :: lo) [B b] (H ++ [.box ((enc_Val v).map .p)]) = some ([B b], H) := fun b => cut3 b lo H _
  rw [f64_eq]
  by_cases h4 : v.1 = 4
  · simp only [boxAgg, Nat.zero_add, Nat.add_zero, ha, hx, va0, h4, call65 (h.push [.box ((enc_Val v).map .p)]), hv, core, Bool.false_or]
  · simp only [boxAgg, Nat.zero_add, Nat.add_zero, ha, hx, va0, h4, hv, core, Bool.true_or]
end
end Ir
end Go.Proofs.YtfdnamedmjhcfaaDoor

/- Shapes: whether they are right; a shape's names. -/
set_option linter.unusedVariables false
set_option linter.unusedSimpArgs false
set_option maxRecDepth 100000
namespace Go.Proofs.YtfdnamedmjhcfaaDoor
open Go Go.AM
namespace Ir

/-! ### Reverse, Contains -/
/-- A list of numbers under way. -/
def Nl (out : AV) (H : Heap) (zs : List Int) : Prop := (out = .p nilS ∧ zs = []) ∨ ∃ id g, out = .row id g 0 zs.length ∧ 0 < zs.length ∧ H[id]? = some (.row g 1 (zs.map Ia))

theorem Nl.lst {out : AV} {H : Heap} {zs : List Int} (h : Nl out H zs) : Lst 1 out H zs.length (zs.map Ia) := by
  rcases h with ⟨rfl, rfl⟩ | ⟨id, g, rfl, _, h⟩
  · exact Lst.nil 1 H
  · exact Lst.row (by simp) h

theorem Nl.app {out : AV} {H : Heap} {zs : List Int} (h : Nl out H zs) (hn : zs.length < 2 ^ 40) (z : Int) : ∃ out' H', appA 1 8 out (.p (.sl (some false) true 1 [Ia z])) H = some (out', H') ∧ Nl out' H' (zs ++ [z]) := by
  obtain ⟨out', H', e, hL, _, _, _, id, g, e2, _⟩ := h.lst.app (bytes := 8) (y := .p (.sl (some false) true 1 [Ia z])) (k := 1) (new := [Ia z]) rfl rfl (by omega) (by simp only [room]; omega)
  refine ⟨out', H', e, .inr ⟨id, g, by simpa using e2, by simp, ?_⟩⟩
  subst e2
  have := hL.at
  simpa using this

theorem loop138 {id g n : Nat} (hn : n < 2 ^ 40) (lo : List Nat) : ∀ (c i : Nat) (zs : List Int) (H : Heap) (j : Int), (j - i).toNat ≤ c → j < n → zs.length = n → H[id]? = some (.row g 1 (zs.map Ia)) →
    ∃ (zs' : List Int) (H' : Heap), L138_4 [.row id g 0 n, I i, I j] lo H = some ([], H') ∧ zs'.length = n ∧ H'[id]? = some (.row g 1 (zs'.map Ia)) := by
  intro c
  induction c with
  | zero =>
    intro i zs H j hc hj hl ho
    have g1 : ¬ (i : Int) < j := by omega
    refine ⟨zs, H, ?_, hl, ho⟩
    rw [L138_4_eq]
    simp only [g1, core]
    rfl
  | succ c ih =>
    intro i zs H j hc hj hl ho
    by_cases g1 : (i : Int) < j
    · obtain ⟨m, rfl⟩ : ∃ m : Nat, j = m := ⟨j.toNat, by omega⟩
      have hm : m < zs.length := by omega
      have hi : i < zs.length := by omega
      have x1 : idxA 1 (.row id g 0 n) (I m) = some (.rptr id g m) := by rw [idxA_row (by omega)]; simp
      have x2 : idxA 1 (.row id g 0 n) (I i) = some (.rptr id g i) := by rw [idxA_row (by omega)]; simp
      have r1 : ld false 1 (.rptr id g m) H = some (I zs[m]) := by rw [ld_row ho, List.getElem?_map, List.getElem?_eq_getElem hm]; rfl
      have r2 : ld false 1 (.rptr id g i) H = some (I zs[i]) := by rw [ld_row ho, List.getElem?_map, List.getElem?_eq_getElem hi]; rfl
      have s1 : stA 1 (.rptr id g i) (I zs[m]) lo H = some (H.set id (.row g 1 ((zs.set i zs[m]).map Ia))) := by rw [stA_row ho (by simpa using hi)]; simp [List.map_set]
      have hid := getElem?_lt ho
      have ho2 : (H.set id (.row g 1 ((zs.set i zs[m]).map Ia)))[id]? = some (.row g 1 ((zs.set i zs[m]).map Ia)) := List.getElem?_set_self hid
      have s2 : stA 1 (.rptr id g m) (I zs[i]) lo (H.set id (.row g 1 ((zs.set i zs[m]).map Ia))) = some ((H.set id (.row g 1 ((zs.set i zs[m]).map Ia))).set id (.row g 1 (((zs.set i zs[m]).set m zs[i]).map Ia))) := by
        rw [stA_row ho2 (by simpa using hm)]; simp [List.map_set]
      have w1 : IntKind.i64.wrap ((i : Int) + 1) = ((i + 1 : Nat) : Int) := by rw [wrap_id (by omega), nxt]
      have w2 : IntKind.i64.wrap ((m : Int) - 1) = (m : Int) - 1 := wrap_id (by omega)
      rw [L138_4_eq]
      simp only [g1, x1, x2, r1, r2, s1, s2, w1, w2, core]
      exact ih (i + 1) ((zs.set i zs[m]).set m zs[i]) _ _ (by omega) (by omega) (by simpa using hl) (List.getElem?_set_self (by simpa using hid))
    · refine ⟨zs, H, ?_, hl, ho⟩
      rw [L138_4_eq]
      simp only [g1, core]
      rfl
theorem call138 {out : AV} {H : Heap} {zs : List Int} (h : Nl out H zs) (hn : zs.length < 2 ^ 40) (lo : List Nat) : ∃ (zs' : List Int) (H' : Heap), callA cfg O 138 [out] lo H = some (.tup [], H') ∧ zs'.length = zs.length ∧ Nl out H' zs' := by
  have m : cfg.mode 138 = 1 := rfl
  rcases h with ⟨rfl, rfl⟩ | ⟨id, g, rfl, h0, ho⟩
  · refine ⟨[], H, callA_keep m (rs := []) ?_, rfl, .inl ⟨rfl, rfl⟩⟩
    rw [f138_eq]
    have w : IntKind.i64.wrap (((0 : Nat) : Int) - 1) = -1 := rfl
    simp only [w, core]
    rw [L138_4_eq]
    simp only [show ¬ ((0 : Int) < -1) by omega, core]
    rfl
  · have w : IntKind.i64.wrap ((zs.length : Int) - 1) = (zs.length : Int) - 1 := wrap_id (by omega)
    obtain ⟨zs', H', e, hl, ho'⟩ := loop138 (id := id) (g := g) (n := zs.length) hn lo zs.length 0 zs H ((zs.length : Int) - 1) (by omega) (by omega) rfl ho
    refine ⟨zs', H', callA_keep m (rs := []) ?_, hl, .inr ⟨id, g, by rw [hl], by omega, ho'⟩⟩
    rw [f138_eq]
    simp only [w, core]
    exact e

theorem call99c {nl : Option Bool} {tg : Bool} {zs : List Int} (hn : zs.length < 2 ^ 40) (x : Int) (lo : List Nat) (H : Heap) : ∃ b, callA cfg O 99 [V nl tg zs, I x] lo H = some (B b, H) := by
  have loop : ∀ (c i : Nat), zs.length - i = c → i ≤ zs.length → ∃ k : Int, L137_6 [V nl tg zs, I x, I zs.length, I i] [] [] = some ([I k], []) := by
    intro c
    induction c with
    | zero =>
      intro i hc hi
      have : i = zs.length := by omega
      subst this
      refine ⟨-1, ?_⟩
      rw [L137_6_eq]
      simp only [Int.lt_irrefl, core]
      rfl
    | succ c ih =>
      intro i hc hi
      have hi' : i < zs.length := by omega
      have g : (i : Int) < zs.length := by omega
      have w : IntKind.i64.wrap ((i : Int) + 1) = ((i + 1 : Nat) : Int) := by rw [wrap_id (by omega), nxt]
      rw [L137_6_eq]
      by_cases e : x = zs[i]
      · refine ⟨i, ?_⟩
        simp only [core, g, idxV hi', ldV hi', e]
        rfl
      · obtain ⟨k, k1⟩ := ih (i + 1) (by omega) (by omega)
        refine ⟨k, ?_⟩
        simp only [core, g, idxV hi', ldV hi', e, w]
        exact k1
  obtain ⟨k, k1⟩ := loop zs.length 0 rfl (by omega)
  have c137 : callA cfg O 137 [V nl tg zs, I x] [] [] = some (I k, []) := by
    refine callA_args (H' := []) (rs := [I k]) rfl rfl ?_ rfl
    rw [f137_eq]
    simp only [core]
    exact k1
  refine ⟨decide (0 ≤ k), callA_args (H' := []) (rs := [B (decide (0 ≤ k))]) rfl rfl ?_ rfl⟩
  rw [f99_eq]
  simp only [core, c137]
  rfl

/-! ### names -/
abbrev Sh (nl : Option Bool) (tg : Bool) (l : List A_Shape) : AV := .p (.sl nl tg l.length (l.flatMap enc_Shape))
def zS : A_Shape := (0, 0)
/-- The shapes up to this one lie each behind the one that it goes on. -/
def Up (l : List A_Shape) (m : Nat) : Prop := ∀ j, 1 ≤ j → j ≤ m → 0 ≤ (l.getD j zS).1 ∧ (l.getD j zS).1 < (j : Int)

section
variable {l : List A_Shape} {nl : Option Bool} {tg : Bool}
theorem idxSh {i : Nat} (h : i < l.length) : idxA 2 (Sh nl tg l) (I i) = some (.fp (l.flatMap enc_Shape) (i * 2)) := idxR h
theorem getSh {i : Nat} (h : i < l.length) : l[i] = l.getD i zS := by simp [List.getD_eq_getElem?_getD, h]
theorem ldSh0 {i : Nat} (h : i < l.length) (H : Heap) : ld false 1 (.fp (l.flatMap enc_Shape) (i * 2)) H = some (I (l.getD i zS).1) := by
  have := fldR len_Shape2 h (show 0 < 2 by decide) H
  rw [Nat.add_zero] at this
  rw [this, getSh h]
  rfl
theorem ldSh1 {i : Nat} (h : i < l.length) (H : Heap) : ld false 1 (.fp (l.flatMap enc_Shape) (i * 2 + 1)) H = some (I (l.getD i zS).2) := by
  rw [fldR len_Shape2 h (show 1 < 2 by decide) H, getSh h]
  rfl
theorem ldShA {i : Nat} (h : i < l.length) (H : Heap) : ld true 2 (.fp (l.flatMap enc_Shape) (i * 2)) H = some (.agg ((enc_Shape (l.getD i zS)).map .p)) := by
  rw [ldR len_Shape2 h H, getSh h]

theorem loop100 {m : Nat} (hm : m < l.length) (hl : l.length < 2 ^ 30) (hu : Up l m) : ∀ (c k : Nat) (out : AV) (zs : List Int) (H : Heap), k ≤ c → k ≤ m → zs.length + k < 2 ^ 31 → Nl out H zs →
    ∃ (n2 : Option Bool) (t2 : Bool) (zs' : List Int) (H' : Heap), L100_6 [Sh nl tg l, I k, out] [] H = some ([V n2 t2 zs'], H') ∧ zs'.length < 2 ^ 31 := by
  intro c
  induction c with
  | zero =>
    intro k out zs H hc hk hz hN
    have : k = 0 := by omega
    subst this
    obtain ⟨zs', H', e, hl', hN'⟩ := call138 hN (by omega) []
    obtain ⟨n2, t2, H2, e2⟩ := hN'.lst.leave1 []
    refine ⟨n2, t2, zs', H2, ?_, by omega⟩
    rw [L100_6_eq]
    simp only [Int.natCast_zero, show ¬ (0 : Int) < 0 by omega, e, core]
    exact e2
  | succ c ih =>
    intro k out zs H hc hk hz hN
    by_cases h0 : k = 0
    · subst h0
      obtain ⟨zs', H', e, hl', hN'⟩ := call138 hN (by omega) []
      obtain ⟨n2, t2, H2, e2⟩ := hN'.lst.leave1 []
      refine ⟨n2, t2, zs', H2, ?_, by omega⟩
      rw [L100_6_eq]
      simp only [Int.natCast_zero, show ¬ (0 : Int) < 0 by omega, e, core]
      exact e2
    · have g : (0 : Int) < k := by omega
      have hkl : k < l.length := by omega
      obtain ⟨u1, u2⟩ := hu k (by omega) hk
      obtain ⟨q, hq⟩ : ∃ q : Nat, (l.getD k zS).1 = q := ⟨(l.getD k zS).1.toNat, by omega⟩
      obtain ⟨out', H', e, hN'⟩ := hN.app (by omega) (l.getD k zS).2
      obtain ⟨n2, t2, zs', H2, e2, hz2⟩ := ih q out' (zs ++ [(l.getD k zS).2]) H' (by omega) (by omega) (by simp; omega) hN'
      refine ⟨n2, t2, zs', H2, ?_, hz2⟩
      rw [L100_6_eq]
      simp only [g, idxSh hkl, ldSh1 hkl, lit1, e, Nat.add_zero, ldSh0 hkl, hq, core]
      exact e2
theorem call100 {m : Nat} (hm : m < l.length) (hl : l.length < 2 ^ 30) (hu : Up l m) (lo : List Nat) (H : Heap) : ∃ (n2 : Option Bool) (t2 : Bool) (zs : List Int), callA cfg O 100 [Sh nl tg l, I m] lo H = some (V n2 t2 zs, H) ∧ zs.length < 2 ^ 31 := by
  obtain ⟨n2, t2, zs, H', e, hz⟩ := loop100 (nl := nl) (tg := tg) hm hl hu m m (.p nilS) [] [] (by omega) (by omega) (by simp; omega) (.inl ⟨rfl, rfl⟩)
  refine ⟨n2, t2, zs, callA_args rfl rfl (H' := H') (rs := [V n2 t2 zs]) ?_ rfl, hz⟩
  rw [f100_eq]
  exact e
end
end Ir
end Go.Proofs.YtfdnamedmjhcfaaDoor

/- Shapes: Check, Names. -/
set_option linter.unusedVariables false
set_option linter.unusedSimpArgs false
set_option maxRecDepth 100000
namespace Go.Proofs.YtfdnamedmjhcfaaDoor
open Go Go.AM
namespace Ir

abbrev encK (k : A_Shape) : AV := .agg [I k.1, I k.2]
theorem eq2 (a b c d : Int) : bin .eql (.agg 2 [(0, .int), (1, .int)]) (.agg [I a, I b]) (.agg [I c, I d]) = some (B (decide (a = c ∧ b = d))) := by
  have : bin .eql (.agg 2 [(0, .int), (1, .int)]) (.agg [I a, I b]) (.agg [I c, I d]) = some (B ((a == c) && ((b == d) && true))) := rfl
  rw [this]
  by_cases h1 : a = c <;> by_cases h2 : b = d <;> simp [h1, h2]
theorem ne2 (a b c d : Int) : bin .neq (.agg 2 [(0, .int), (1, .int)]) (.agg [I a, I b]) (.agg [I c, I d]) = some (B (!decide (a = c ∧ b = d))) := by
  have : bin .neq (.agg 2 [(0, .int), (1, .int)]) (.agg [I a, I b]) (.agg [I c, I d]) = some (B !((a == c) && ((b == d) && true))) := rfl
  rw [this]
  by_cases h1 : a = c <;> by_cases h2 : b = d <;> simp [h1, h2]
theorem keyK : KeyEnc (.agg 2 [(0, .int), (1, .int)]) encK where
  ok _ := rfl
  eq a b := by
    rw [eq2]
    congr 2
    by_cases h : a = b
    · subst h; simp
    · have : ¬ (a.1 = b.1 ∧ a.2 = b.2) := fun e => h (Prod.ext e.1 e.2)
      simp [h, this]
  same a := by
    show ((decide (IntKind.i64 = IntKind.i64) && (a.1 == a.1)) && ((decide (IntKind.i64 = IntKind.i64) && (a.2 == a.2)) && true)) = true
    simp

section
variable {l : List A_Shape} {nl : Option Bool} {tg t2 : Bool}
theorem boxSh (e : A_Shape) (lo : List Nat) (H : Heap) : stA 2 (.ptr H.length 0) (.agg ((enc_Shape e).map .p)) lo (H ++ [.box [I 0, I 0]]) = some (H ++ [.box [I e.1, I e.2]]) := by
  have := stA_box (H := H ++ [.box [I 0, I 0]]) (id := H.length) (n := 2) (off := 0) (xs := [I 0, I 0]) (y := .agg ((enc_Shape e).map .p)) (lo := lo) (by simp) rfl (by simp) rfl (okLevels_p lo _ (enc_Shape e))
  rw [this]
  simp [splice, AV.cells, enc_Shape]

theorem loop57 (hl : l.length ≤ 100) (h0 : 0 < l.length) : ∀ (c k : Nat) (H : Heap) (kvs : List (Kv A_Shape)) (cc : Nat), l.length - 1 - k = c → k ≤ l.length - 1 → H[0]? = some (mapObj encK kvs cc) → WfM kvs cc → (∀ q, aget kvs q = none ∨ aget kvs q = some (I 1)) → Up l k →
    ∃ r : Int, L57_16 [Sh nl tg l, .mp 0, Sh nl t2 (l.drop 1), I ((l.length - 1 : Nat) : Int), I k] [] H = some ([I r], []) ∧ (r = 0 → Up l (l.length - 1)) := by
  intro c
  induction c with
  | zero =>
    intro k H kvs cc hc hk hm hw hv hu
    have : k = l.length - 1 := by omega
    subst this
    refine ⟨0, ?_, fun _ => hu⟩
    rw [L57_16_eq]
    simp only [Int.lt_irrefl, core]
    rfl
  | succ c ih =>
    intro k H kvs cc hc hk hm hw hv hu
    have hk1 : k + 1 < l.length := by omega
    have hkd : k < (l.drop 1).length := by rw [List.length_drop]; omega
    have g : (k : Int) < ((l.length - 1 : Nat) : Int) := by omega
    have e0 : (l.drop 1).getD k zS = l.getD (k + 1) zS := by simp [List.getD_eq_getElem?_getD, List.getElem?_drop, Nat.add_comm]
    have x1 := idxSh (nl := nl) (tg := t2) hkd
    have x2 := ldShA hkd H
    rw [e0] at x2
    generalize he : l.getD (k + 1) zS = e at x2
    have eb : boxO [] [I 0, I 0] H = some (.ptr H.length 0, H ++ [.box [I 0, I 0]]) := boxO_p [Ia 0, Ia 0] H
    have es := boxSh e [] H
    have hb : (H ++ [AObj.box [I e.1, I e.2]])[H.length]? = some (.box [I e.1, I e.2]) := by simp
    have f0 : ld false 1 (.ptr H.length 0) (H ++ [.box [I e.1, I e.2]]) = some (I e.1) := by rw [ld_box hb]; rfl
    have f1 : ld false 1 (.ptr H.length 1) (H ++ [.box [I e.1, I e.2]]) = some (I e.2) := by rw [ld_box hb]; rfl
    have f2 : ld true 2 (.ptr H.length 0) (H ++ [.box [I e.1, I e.2]]) = some (encK e) := by rw [ldAgg_box hb (by simp) (by simp)]; rfl
    have hm2 : (H ++ [AObj.box [I e.1, I e.2]])[0]? = some (mapObj encK kvs cc) := push_get? hm _
    have lk := map_look (z := I 0) keyK hm2 e
    have lf : ∀ G : Heap, leave 0 [] [I 3] G = some ([I 3], []) := fun _ => rfl
    have w : IntKind.i64.wrap ((k : Int) + 1) = ((k + 1 : Nat) : Int) := by rw [wrap_id (by omega), nxt]
    rw [L57_16_eq]
    by_cases c1 : e.1 < 0
    · refine ⟨3, ?_, fun h => by omega⟩
      simp only [Nat.zero_add, g, x1, x2, eb, es, f0, c1, lf, core]
    by_cases c2 : (k : Int) < e.1
    · refine ⟨3, ?_, fun h => by omega⟩
      simp only [Nat.zero_add, g, x1, x2, eb, es, f0, c1, c2, lf, core]
    by_cases c3 : e.2 < 0
    · refine ⟨3, ?_, fun h => by omega⟩
      simp only [Nat.zero_add, g, x1, x2, eb, es, f0, f1, c1, c2, c3, lf, core]
    rcases hv e with hs | hs
    · rw [hs] at lk
      obtain ⟨q, hq⟩ : ∃ q : Nat, e.1 = q := ⟨e.1.toNat, by omega⟩
      have hu' : Up l q := fun j h1 h2 => hu j h1 (by omega)
      obtain ⟨n2, t2', zs, e100, hz⟩ := call100 (nl := nl) (tg := tg) (m := q) (show q < l.length by omega) (by omega) hu' [] (H ++ [.box [I e.1, I e.2]])
      rw [← hq] at e100
      obtain ⟨b, e99⟩ := call99c (nl := n2) (tg := t2') (zs := zs) (by omega) e.2 [] (H ++ [.box [I e.1, I e.2]])
      cases b with
      | true =>
        refine ⟨3, ?_, fun h => by omega⟩
        simp only [Nat.zero_add, g, x1, x2, eb, es, f0, f1, f2, c1, c2, c3, lk, Option.getD_none, Int.reduceEq, e100, e99, lf, core]
      | false =>
        have pu := map_put keyK hm2 hw e (v := I 1) (lo := []) rfl
        have hu2 : Up l (k + 1) := by
          intro j h1 h2
          by_cases hj : j = k + 1
          · subst hj
            rw [he]
            omega
          · exact hu j h1 (by omega)
        have hlen := getElem?_lt hm2
        obtain ⟨r, hr, hr2⟩ := ih (k + 1) ((H ++ [AObj.box [I e.1, I e.2]]).set 0 (mapObj encK (aput kvs e (I 1) cc) (if (aget kvs e).isSome then cc else cc + 1))) _ _ (by omega) (by omega) (List.getElem?_set_self hlen) (hw.put e (I 1)) (fun q => by
          rw [aget_put]
          by_cases e : q = e
          · rw [if_pos e]; exact .inr rfl
          · rw [if_neg e]; exact hv q) hu2
        refine ⟨r, ?_, hr2⟩
        simp only [Nat.zero_add, g, x1, x2, eb, es, f0, f1, f2, c1, c2, c3, lk, Option.getD_none, Int.reduceEq, e100, e99, pu, w, core]
        exact hr
    · rw [hs] at lk
      refine ⟨3, ?_, fun h => by omega⟩
      simp only [Nat.zero_add, g, x1, x2, eb, es, f0, f1, f2, c1, c2, c3, lk, Option.getD_some, lf, core]

theorem call57 (hn : l.length < 2 ^ 63) : ∃ r : Int, (r = 0 → 0 < l.length ∧ l.length ≤ 100 ∧ Up l (l.length - 1)) ∧ ∀ (lo : List Nat) (H : Heap), callA cfg O 57 [Sh nl tg l] lo H = some (I r, H) := by
  suffices h : ∃ r : Int, O.ent 57 [Sh nl tg l] [] [] = some ([I r], []) ∧ (r = 0 → 0 < l.length ∧ l.length ≤ 100 ∧ Up l (l.length - 1)) from
    h.imp fun r h => ⟨h.2, fun lo H => callA_args rfl rfl h.1 rfl⟩
  have lf : ∀ (z : Int) (G : Heap), leave 0 [] [I z] G = some ([I z], []) := fun _ _ => rfl
  rw [f57_eq]
  by_cases h1 : (100 : Int) < l.length
  · refine ⟨2, ?_, fun h => by omega⟩
    simp only [h1, lf, core]
  by_cases h2 : l.length = 0
  · refine ⟨3, ?_, fun h => by omega⟩
    have h2' : (l.length : Int) = 0 := by omega
    simp only [h1, h2', lf, core]
    rfl
  have h0 : 0 < l.length := by omega
  have h2' : ¬ (l.length : Int) = 0 := by omega
  have x1 : idxA 2 (Sh nl tg l) (I 0) = some (.fp (l.flatMap enc_Shape) 0) := by
    have := idxSh (nl := nl) (tg := tg) h0
    simpa using this
  have x2 : ld true 2 (.fp (l.flatMap enc_Shape) 0) [] = some (.agg [I (l.getD 0 zS).1, I (l.getD 0 zS).2]) := by
    have := ldShA h0 []
    rw [Nat.zero_mul] at this
    exact this
  have x3 : buildA [(I 0), (I 0)] [(0, 1, I (-1)), (1, 1, I (-1))] = some (.agg [I (-1), I (-1)]) := rfl
  by_cases h3 : (l.getD 0 zS).1 = -1 ∧ (l.getD 0 zS).2 = -1
  · have hm : mkMap [] = (.mp 0, [mapObj encK ([] : List (Kv A_Shape)) 0]) := rfl
    have hcut : ∃ t2 : Bool, cutA 2 (Sh nl tg l) (some (I 1)) none none [mapObj encK ([] : List (Kv A_Shape)) 0] = some (Sh nl t2 (l.drop 1)) := by
      refine ⟨tg, ?_⟩
      rw [cutA_lo (by omega)]
      have hx : ((l.flatMap enc_Shape).drop ((1 : Int).toNat * 2)).take ((l.length - (1 : Int).toNat) * 2) = (l.drop 1).flatMap enc_Shape := by
        have h2 : l.flatMap enc_Shape = (l.take 1).flatMap enc_Shape ++ (l.drop 1).flatMap enc_Shape := by rw [← List.flatMap_append, List.take_append_drop]
        have h3 : ((l.take 1).flatMap enc_Shape).length = 2 := by rw [rows_length len_Shape2, List.length_take]; omega
        rw [h2, show (1 : Int).toNat * 2 = 2 from rfl, List.drop_left' h3, List.take_of_length_le (by rw [rows_length len_Shape2, List.length_drop]; exact Nat.le_refl _)]
      rw [hx]
      show _ = some (AV.p (.sl nl tg (l.drop 1).length ((l.drop 1).flatMap enc_Shape)))
      rw [List.length_drop]
      rfl
    obtain ⟨t2, hcut⟩ := hcut
    have hlen : lenA .slice (Sh nl t2 (l.drop 1)) [mapObj encK ([] : List (Kv A_Shape)) 0] = some (I ((l.length - 1 : Nat) : Int)) := by
      rw [lenA_sl, List.length_drop]
    obtain ⟨r, hr, hr2⟩ := loop57 (nl := nl) (tg := tg) (t2 := t2) (show l.length ≤ 100 by omega) h0 (l.length - 1) 0 [mapObj encK ([] : List (Kv A_Shape)) 0] [] 0 (by omega) (by omega) rfl WfM.nil (fun q => .inl rfl) (fun j h1 h2 => by omega)
    refine ⟨r, ?_, fun h => ⟨h0, by omega, hr2 h⟩⟩
    simp only [h1, h2', x1, x2, x3, ne2, h3, and_self, hm, hcut, hlen, core]
    exact hr
  · refine ⟨3, ?_, fun h => by omega⟩
    simp only [h1, h2', x1, x2, x3, ne2, h3, lf, core]

theorem call103 (hn : l.length < 2 ^ 63) (n : Int) (lo : List Nat) (H : Heap) : ∃ (n2 : Option Bool) (t2 : Bool) (zs : List Int), callA cfg O 103 [Sh nl tg l, I n] lo H = some (V n2 t2 zs, H) ∧ zs.length < 2 ^ 31 := by
  obtain ⟨r, hr, e57⟩ := call57 (nl := nl) (tg := tg) hn
  have nilc : ∀ G : Heap, leave 0 [] [.p nilS] G = some ([V (some true) true []], []) := fun _ => rfl
  by_cases h : r = 0 ∧ 0 ≤ n ∧ n < l.length
  · obtain ⟨h0, h1, h2⟩ := h
    obtain ⟨p1, p2, p3⟩ := hr h0
    obtain ⟨m, rfl⟩ : ∃ m : Nat, n = m := ⟨n.toNat, by omega⟩
    obtain ⟨n2, t2, zs, e100, hz⟩ := call100 (nl := nl) (tg := tg) (m := m) (show m < l.length by omega) (by omega) (fun j a b => p3 j a (by omega)) [] []
    refine ⟨n2, t2, zs, callA_args rfl rfl (H' := []) (rs := [V n2 t2 zs]) ?_ rfl, hz⟩
    have c1 : ¬ (m : Int) < 0 := by omega
    have c2 : ¬ (l.length : Int) ≤ m := by omega
    rw [f103_eq]
    simp only [e57, h0, c1, c2, e100, core]
    exact leave0_all (ps := [_]) (H' := []) rfl
  · refine ⟨some true, true, [], callA_args rfl rfl (H' := []) (rs := [V (some true) true []]) ?_ rfl, by simp⟩
    rw [f103_eq]
    by_cases h0 : r = 0
    · by_cases c1 : n < 0
      · simp only [e57, h0, c1, nilc, core]
      · have c2 : (l.length : Int) ≤ n := by omega
        simp only [e57, h0, c1, c2, nilc, core]
    · simp only [e57, h0, nilc, core]
end
end Ir
end Go.Proofs.YtfdnamedmjhcfaaDoor

/- A cell: is it as its kind says? -/
set_option linter.unusedVariables false
set_option linter.unusedSimpArgs false
set_option maxRecDepth 100000
namespace Go.Proofs.YtfdnamedmjhcfaaDoor
open Go Go.AM
namespace Ir

abbrev Vs (nl : Option Bool) (l : List A_Val) : AV := .p (.sl nl false l.length (l.flatMap enc_Val))
abbrev Fs (nl : Option Bool) (l : List A_Frame) : AV := .p (.sl nl false l.length (l.flatMap enc_Frame))
abbrev clV (c : A_Cell) : AV := .agg ((enc_Cell c).map .p)
abbrev frV (f : A_Frame) : AV := .agg ((enc_Frame f).map .p)
theorem fo0 (c : A_Cell) : (enc_Cell c)[0]? = some (Ia c.1) := _root_.id rfl
theorem fo1 (c : A_Cell) : (enc_Cell c)[1]? = some (Ia c.2.1) := _root_.id rfl
theorem fo2 (c : A_Cell) : (enc_Cell c)[2]? = some (.sl c.2.2.1.1 false c.2.2.1.2.length (c.2.2.1.2.flatMap enc_Val)) := _root_.id rfl
theorem fo3 (c : A_Cell) : (enc_Cell c)[3]? = some (.sl c.2.2.2.1 false c.2.2.2.2.length (c.2.2.2.2.flatMap enc_Frame)) := _root_.id rfl

/-- What is asked of a list's elements. -/
theorem askedE {α : Type} {enc : α → List PV} {k : Nat} (he : ∀ x, (enc x).length = k) {Q : α → Prop} {nl : Option Bool} {l : List α} {v1 : AV} {H : Heap} (h : ∀ x ∈ l, ∀ lo, ∃ b, callV cfg O v1 [.agg ((enc x).map .p)] lo H = some (B b, H) ∧ (b = false → Q x)) :
    AskedP (fun i => ∀ x, l[i]? = some x → Q x) true k (.p (.sl nl false l.length (l.flatMap enc))) v1 l.length H := by
  intro i hi
  refine ⟨_, _, idxR hi, ldR he hi H, fun lo => ?_⟩
  obtain ⟨b, h1, h2⟩ := h _ (List.getElem_mem hi) lo
  refine ⟨b, h1, fun hb x hx => ?_⟩
  rw [List.getElem?_eq_getElem hi] at hx
  cases hx
  exact h2 hb
theorem all_of {α : Type} {Q : α → Prop} {l : List α} (h : ∀ i, i < l.length → ∀ x, l[i]? = some x → Q x) : ∀ x ∈ l, Q x := by
  intro x hx
  obtain ⟨i, hi, rfl⟩ := List.getElem_of_mem hx
  exact h i hi _ (List.getElem?_eq_getElem hi)

section
variable {b r : Nat} {s : A_State} {H : Heap}

theorem call106 (h : At b s H) {nl : Option Bool} {l : List A_Val} (hl : l.length < 2 ^ 63) (lo : List Nat) : ∃ x, callA cfg O 106 [.ptr b 0, Vs nl l] lo H = some (B x, H) := by
  have hb : boxO [] (AV.cells (.ptr b 0)) H = some (.ptr H.length 0, H ++ [.box [.ptr b 0]]) := rfl
  have hp : Pt H.length b (H ++ [.box [.ptr b 0]]) := by unfold Pt; simp
  have ask := askedE (Q := fun _ => True) (nl := nl) (l := l) len_Val2 (v1 := .fn 139 [] [.ptr H.length 0]) (H := H ++ [.box [.ptr b 0]]) fun x _ lo => ⟨_, cV139 (h.push _) hp x lo, fun _ => trivial⟩
  obtain ⟨x, e, _⟩ := callVP hl (lenA_sl _ _ _ _) ask (H.length :: lo)
  refine ⟨!x, callA_same (rs := [B (!x)]) rfl ?_⟩
  rw [f106_eq, hb]
  simp only [e, core]
  exact cut3 _ lo H _

theorem cV108 (h : At b s H) (hr : Pt r b H) (f : A_Frame) (hf : f.2.2.2.2.2.1.2.length < 2 ^ 63) (lo : List Nat) : ∃ x, callV cfg O (.fn 108 [] [.ptr r 0]) [frV f] lo H = some (B x, H) := by
  show ∃ x, callA cfg O 108 [frV f, .ptr r 0] lo H = _
  suffices hs : ∃ x, O.ent 108 [frV f, .ptr r 0] lo H = some ([B x], H) from hs.imp fun x h => callA_same (rs := [B x]) rfl h
  have h' := h.push [.box ((enc_Frame f).map .p)]
  have hx : ∀ j, ld false 1 (.ptr H.length j) (H ++ [.box ((enc_Frame f).map .p)]) = ((enc_Frame f)[j]?).map .p := fun j => ldB _ _ _ _
  have x6 : (enc_Frame f)[6]? = some (.sl f.2.2.2.2.2.1.1 false f.2.2.2.2.2.1.2.length (f.2.2.2.2.2.1.2.flatMap enc_Val)) := rfl
  have x4 : ld true 2 (.ptr H.length 4) (H ++ [.box ((enc_Frame f).map .p)]) = some (vlV f.2.2.2.2.1) := by
    rw [ldAgg_box (xs := (enc_Frame f).map .p) (by simp) (by rw [List.length_map, len_Frame8]; decide) (by rw [List.length_map, len_Frame8]; decide)]
    rfl
  obtain ⟨x, e⟩ := call106 h' (nl := f.2.2.2.2.2.1.1) hf (H.length :: lo)
  have hv : ∀ b : Bool, leave 3 (H.length :: lo) [B b] (H ++ [.box ((enc_Frame f).map .p)]) = some ([B b], H) := fun b => cut3 b lo H _
  rw [f108_eq]
  cases x with
  | false =>
    refine ⟨true, ?_⟩
    simp only [boxAgg, (hr.push _).ld, Nat.zero_add, hx, x6, e, hv, core]
  | true =>
    refine ⟨!fitsV s f.2.2.2.2.1, ?_⟩
    simp only [boxAgg, (hr.push _).ld, Nat.zero_add, hx, x6, x4, e, call65 h', hv, core]

theorem loop105 {nl : Option Bool} {l : List A_Val} (hl : l.length ≤ 600) (lo : List Nat) (H : Heap) : ∀ (c k : Nat) (kvs : List (Kv Int)) (cc : Nat), l.length + 1 - k ≤ c → WfM kvs cc → (∀ q, aget kvs q = none ∨ aget kvs q = some (I 1)) → k ≤ l.length + 1 →
    ∃ x, L105_8 [Vs nl l, .mp H.length, I k] (H.length :: lo) (H ++ [mapObj (fun n : Int => I n) kvs cc]) = some ([B x], H) := by
  have hv : ∀ (b : Bool) (o : AObj), leave 3 (H.length :: lo) [B b] (H ++ [o]) = some ([B b], H) := fun b o => cut3 b lo H _
  have fin : ∀ (k : Nat) (o : AObj), ¬ k < l.length → ∃ x, L105_8 [Vs nl l, .mp H.length, I k] (H.length :: lo) (H ++ [o]) = some ([B x], H) := by
    intro k o hk
    have g : ¬ (k : Int) < l.length := by omega
    have er : bin .rem .int (I l.length) (I 2) = some (I ((l.length % 2 : Nat) : Int)) := by
      have : bin .rem .int (I (l.length : Int)) (I 2) = some (I ((l.length : Int).tmod 2)) := rfl
      rw [this, Int.tmod_eq_emod_of_nonneg (by omega)]
      rfl
    refine ⟨decide (((l.length % 2 : Nat) : Int) = 0), ?_⟩
    rw [L105_8_eq]
    simp only [g, er, hv, core]
  intro c
  induction c with
  | zero => intro k kvs cc hc hw hq hk; exact fin k _ (by omega)
  | succ c ih =>
    intro k kvs cc hc hw hq hk
    by_cases hk' : k < l.length
    · have g : (k : Int) < l.length := by omega
      have x1 : idxA 2 (Vs nl l) (I k) = some (.fp (l.flatMap enc_Val) (k * 2)) := idxR hk'
      have x2 : ∀ G, ld false 1 (.fp (l.flatMap enc_Val) (k * 2)) G = some (I l[k].1) := fun G => by
        have := fldR len_Val2 hk' (show 0 < 2 by decide) G
        rw [Nat.add_zero] at this
        rw [this]; rfl
      have x3 : ∀ G, ld false 1 (.fp (l.flatMap enc_Val) (k * 2 + 1)) G = some (I l[k].2) := fun G => by
        rw [fldR len_Val2 hk' (show 1 < 2 by decide) G]; rfl
      have hm : (H ++ [mapObj (fun n : Int => I n) kvs cc])[H.length]? = some (mapObj (fun n : Int => I n) kvs cc) := by simp
      have lk := map_look (z := I 0) key_int hm l[k].2
      have w : IntKind.i64.wrap ((k : Int) + 2) = ((k + 2 : Nat) : Int) := by rw [wrap_id (by omega)]; omega
      rw [L105_8_eq]
      by_cases c1 : l[k].1 = 5
      · rcases hq l[k].2 with hs | hs
        · rw [hs] at lk
          have pu := map_put key_int hm hw l[k].2 (v := I 1) (lo := H.length :: lo) (okLevels_p _ _ [Ia l[k].2, Ia 1])
          by_cases hend : k + 2 ≤ l.length + 1
          · obtain ⟨x, hx⟩ := ih (k + 2) (aput kvs l[k].2 (I 1) cc) (if (aget kvs l[k].2).isSome then cc else cc + 1) (by omega) (hw.put l[k].2 (I 1)) (fun q => by
              rw [aget_put]
              by_cases e : q = l[k].2
              · rw [if_pos e]; exact .inr rfl
              · rw [if_neg e]; exact hq q) hend
            refine ⟨x, ?_⟩
            simp only [g, x1, x2, x3, Nat.add_zero, c1, lk, Option.getD_none, Int.reduceEq, pu, w, core]
            simpa using hx
          · omega
        · rw [hs] at lk
          refine ⟨false, ?_⟩
          simp only [g, x1, x2, x3, Nat.add_zero, c1, lk, Option.getD_some, hv, core]
      · refine ⟨false, ?_⟩
        simp only [g, x1, x2, x3, Nat.add_zero, c1, hv, core]
    · exact fin k _ hk'
theorem call105 {nl : Option Bool} {l : List A_Val} (hl : l.length ≤ 600) (a0 : AV) (lo : List Nat) : ∃ x, callA cfg O 105 [a0, Vs nl l] lo H = some (B x, H) := by
  obtain ⟨x, e⟩ := loop105 (nl := nl) hl lo H (l.length + 1) 0 [] 0 (by omega) WfM.nil (fun q => .inl rfl) (by omega)
  refine ⟨x, callA_same (rs := [B x]) rfl ?_⟩
  have hm : mkMap H = (.mp H.length, H ++ [mapObj (fun n : Int => I n) ([] : List (Kv Int)) 0]) := rfl
  rw [f105_eq, hm]
  exact e

/-- What is known of a right cell. -/
structure CellR (c : A_Cell) : Prop where
  lock : c.1 = 6 → -1 ≤ c.2.1
  clos : c.1 = 4 → 0 ≤ c.2.1
  gen : c.1 = 5 → c.2.1 = 0 → c.2.2.2.2.length = 1

theorem tail63 (h : At b s H) (c : A_Cell) (hok : c.2.2.1.2.length < 2 ^ 63 ∧ c.2.2.2.2.length < 2 ^ 63 ∧ ∀ f ∈ c.2.2.2.2, f.2.2.2.2.2.1.2.length < 2 ^ 63) (nm vs : Bool) (fr : Int) (lo : List Nat) :
    ∃ x, L63_49 [.ptr H.length 0, .ptr (H.length + 1) 0, B nm, B vs, I fr] (H.length :: lo) (H ++ [.box [.ptr b 0], .box ((enc_Cell c).map .p)]) = some ([B x], H) ∧ (x = true → nm = true ∧ (c.2.2.2.2.length : Int) = fr) := by
  have hv : ∀ b' : Bool, leave 3 (H.length :: lo) [B b'] (H ++ [.box [.ptr b 0], .box ((enc_Cell c).map .p)]) = some ([B b'], H) := fun b' => cut3 b' lo H _
  have h' := h.push [.box [.ptr b 0], .box ((enc_Cell c).map .p)]
  have hp : Pt H.length b (H ++ [.box [.ptr b 0], .box ((enc_Cell c).map .p)]) := by unfold Pt; simp
  have hx : ∀ j, ld false 1 (.ptr (H.length + 1) j) (H ++ [.box [.ptr b 0], .box ((enc_Cell c).map .p)]) = ((enc_Cell c)[j]?).map .p := fun j => by
    rw [ld_box (xs := (enc_Cell c).map .p) (by simp), List.getElem?_map]
  rw [L63_49_eq]
  cases nm with
  | false =>
    refine ⟨false, ?_, fun h => by cases h⟩
    simp only [hv, core]
  | true =>
    cases vs with
    | false =>
      refine ⟨false, ?_, fun h => by cases h⟩
      simp only [hv, core]
    | true =>
      by_cases hf : (c.2.2.2.2.length : Int) = fr
      · obtain ⟨x, e⟩ := call106 h' (nl := c.2.2.1.1) hok.1 (H.length :: lo)
        cases x with
        | false =>
          refine ⟨false, ?_, fun h => by cases h⟩
          simp only [Nat.zero_add, hx, fo2, fo3, hf, hp.ld, e, hv, core]
        | true =>
          have ask := askedE (Q := fun _ => True) (nl := c.2.2.2.1) (l := c.2.2.2.2) len_Frame8 (v1 := .fn 108 [] [.ptr H.length 0]) (H := H ++ [.box [.ptr b 0], .box ((enc_Cell c).map .p)]) fun f hf lo => (cV108 h' hp f (hok.2.2 f hf) lo).imp fun x e => ⟨e, fun _ => trivial⟩
          obtain ⟨y, ey, _⟩ := callFP hok.2.1 (lenA_sl _ _ _ _) ask (H.length :: lo)
          refine ⟨!y, ?_, fun _ => ⟨rfl, hf⟩⟩
          simp only [Nat.zero_add, hx, fo2, fo3, hf, hp.ld, e, ey, hv, core]
      · refine ⟨false, ?_, fun h => by cases h⟩
        simp only [Nat.zero_add, hx, fo3, hf, hv, core]
end
end Ir
end Go.Proofs.YtfdnamedmjhcfaaDoor

/- A cell: the whole of it; what is asked of all cells, of what was said, of the ends. -/
set_option linter.unusedVariables false
set_option linter.unusedSimpArgs false
set_option maxRecDepth 100000
namespace Go.Proofs.YtfdnamedmjhcfaaDoor
open Go Go.AM
namespace Ir

section
variable {b r : Nat} {s : A_State} {H : Heap}

/-- The sizes of a cell's lists. -/
def CSz (c : A_Cell) : Prop := c.2.2.1.2.length ≤ 600 ∧ c.2.2.2.2.length < 2 ^ 63 ∧ ∀ f ∈ c.2.2.2.2, f.2.2.2.2.2.1.2.length < 2 ^ 63

theorem call63 (h : At b s H) (hsh : s.2.1.2.length < 2 ^ 63) (c : A_Cell) (hc : CSz c) (lo : List Nat) : ∃ x, callA cfg O 63 [.ptr b 0, clV c] lo H = some (B x, H) ∧ (x = true → CellR c) := by
  suffices hs : ∃ x, O.ent 63 [.ptr b 0, clV c] lo H = some ([B x], H) ∧ (x = true → CellR c) from hs.imp fun x h => ⟨callA_same (rs := [B x]) rfl h.1, h.2⟩
  have hb : boxO [] (AV.cells (.ptr b 0)) H = some (.ptr H.length 0, H ++ [.box [.ptr b 0]]) := rfl
  have hb2 : boxO [] (AV.cells (.agg ((enc_Cell c).map .p))) (H ++ [.box [.ptr b 0]]) = some (.ptr (H.length + 1) 0, H ++ [.box [.ptr b 0], .box ((enc_Cell c).map .p)]) := by
    rw [boxAgg]
    simp
  have h' := h.push [.box [.ptr b 0], .box ((enc_Cell c).map .p)]
  have hp : Pt H.length b (H ++ [.box [.ptr b 0], .box ((enc_Cell c).map .p)]) := by unfold Pt; simp
  have hx : ∀ j, ld false 1 (.ptr (H.length + 1) j) (H ++ [.box [.ptr b 0], .box ((enc_Cell c).map .p)]) = ((enc_Cell c)[j]?).map .p := fun j => by
    rw [ld_box (xs := (enc_Cell c).map .p) (by simp), List.getElem?_map]
  have hv : ∀ b' : Bool, leave 3 (H.length :: lo) [B b'] (H ++ [.box [.ptr b 0], .box ((enc_Cell c).map .p)]) = some ([B b'], H) := fun b' => cut3 b' lo H _
  have hok : c.2.2.1.2.length < 2 ^ 63 ∧ c.2.2.2.2.length < 2 ^ 63 ∧ ∀ f ∈ c.2.2.2.2, f.2.2.2.2.2.1.2.length < 2 ^ 63 := ⟨by have := hc.1; omega, hc.2.1, hc.2.2⟩
  have t := tail63 h c hok
  have hl600 := hc.1
  rw [f63_eq, hb]
  simp only [core, hb2]
  by_cases k0 : c.1 = 0
  · obtain ⟨x, e, _⟩ := t (decide (c.2.1 = 0)) (decide ((c.2.2.1.2.length : Int) = 0)) 0 lo
    refine ⟨x, ?_, fun _ => ⟨fun h => by omega, fun h => by omega, fun h => by omega⟩⟩
    simp only [Nat.zero_add, hx, fo0, fo1, fo2, k0, core]
    exact e
  by_cases k1 : c.1 = 1
  · cases hw : wi c.2.1 0 (wr (s.2.1.2.length - 1)) with
    | false =>
      obtain ⟨x, e, _⟩ := t false false 0 lo
      refine ⟨x, ?_, fun _ => ⟨fun h => by omega, fun h => by omega, fun h => by omega⟩⟩
      simp only [Nat.zero_add, hx, fo0, fo1, fo2, k0, k1, Int.reduceEq, hp.ld, nilP, h'.s1, call68, hw, core]
      exact e
    | true =>
      obtain ⟨n2, t2, zs, e103, hz⟩ := call103 (nl := s.2.1.1) (tg := false) (l := s.2.1.2) hsh c.2.1 (H.length :: lo) (H ++ [.box [.ptr b 0], .box ((enc_Cell c).map .p)])
      obtain ⟨x, e, _⟩ := t true (decide ((c.2.2.1.2.length : Int) = zs.length)) 0 lo
      refine ⟨x, ?_, fun _ => ⟨fun h => by omega, fun h => by omega, fun h => by omega⟩⟩
      simp only [Nat.zero_add, hx, fo0, fo1, fo2, k0, k1, Int.reduceEq, hp.ld, nilP, h'.s1, call68, hw, e103, core]
      exact e
  by_cases k2 : c.1 = 2
  · obtain ⟨x, e, _⟩ := t (decide (c.2.1 = 0)) true 0 lo
    refine ⟨x, ?_, fun _ => ⟨fun h => by omega, fun h => by omega, fun h => by omega⟩⟩
    simp only [Nat.zero_add, hx, fo0, fo1, fo2, k0, k1, k2, Int.reduceEq, core]
    exact e
  by_cases k3 : c.1 = 3
  · obtain ⟨x, e, _⟩ := t (decide (c.2.1 = 0)) (decide ((c.2.2.1.2.length : Int) = 1)) 0 lo
    refine ⟨x, ?_, fun _ => ⟨fun h => by omega, fun h => by omega, fun h => by omega⟩⟩
    simp only [Nat.zero_add, hx, fo0, fo1, fo2, k0, k1, k2, k3, Int.reduceEq, core]
    exact e
  by_cases k4 : c.1 = 4
  · have ask := askedE (Q := fun _ => True) (nl := c.2.2.1.1) (l := c.2.2.1.2) len_Val2 (v1 := .fn 104 [] [.ptr H.length 0]) (H := H ++ [.box [.ptr b 0], .box ((enc_Cell c).map .p)]) fun x _ lo => ⟨_, cV104 h' hp x lo, fun _ => trivial⟩
    obtain ⟨y, ey, _⟩ := callVP hok.1 (lenA_sl _ _ _ _) ask (H.length :: lo)
    obtain ⟨x, e, ex⟩ := t (decide (0 ≤ c.2.1)) (!y) 0 lo
    refine ⟨x, ?_, fun h => ⟨fun h => by omega, fun _ => of_decide_eq_true (ex h).1, fun h => by omega⟩⟩
    simp only [Nat.zero_add, hx, fo0, fo1, fo2, k0, k1, k2, k3, k4, Int.reduceEq, ey, core]
    exact e
  by_cases k5 : c.1 = 5
  · by_cases g0 : c.2.1 = 0
    · obtain ⟨x, e, ex⟩ := t (wi c.2.1 0 2) (decide ((c.2.2.1.2.length : Int) = 0)) 1 lo
      refine ⟨x, ?_, fun h => ⟨fun h => by omega, fun h => by omega, fun _ _ => by have := (ex h).2; omega⟩⟩
      simp only [Nat.zero_add, hx, fo0, fo1, fo2, k0, k1, k2, k3, k4, k5, Int.reduceEq, call68, core]
      simp only [hx, fo1, g0, core]
      rw [g0] at e
      exact e
    · obtain ⟨x, e, ex⟩ := t (wi c.2.1 0 2) (decide ((c.2.2.1.2.length : Int) = 0)) 0 lo
      refine ⟨x, ?_, fun h => ⟨fun h => by omega, fun h => by omega, fun _ h => absurd h g0⟩⟩
      simp only [Nat.zero_add, hx, fo0, fo1, fo2, k0, k1, k2, k3, k4, k5, Int.reduceEq, call68, g0, core]
      exact e
  by_cases k6 : c.1 = 6
  · obtain ⟨x, e, ex⟩ := t (wi c.2.1 (-1) 4) (decide ((c.2.2.1.2.length : Int) = 0)) 0 lo
    refine ⟨x, ?_, fun h => ⟨fun _ => (wi_iff.mp (ex h).1).1, fun h => by omega, fun h => by omega⟩⟩
    simp only [Nat.zero_add, hx, fo0, fo1, fo2, k0, k1, k2, k3, k4, k5, k6, Int.reduceEq, call68, core]
    exact e
  by_cases k7 : c.1 = 7
  · obtain ⟨y, ey⟩ := call105 (H := H ++ [.box [.ptr b 0], .box ((enc_Cell c).map .p)]) (nl := c.2.2.1.1) hc.1 (.ptr b 0) (H.length :: lo)
    obtain ⟨x, e, ex⟩ := t (decide (c.2.1 = 0)) y 0 lo
    refine ⟨x, ?_, fun h => ⟨fun h => by omega, fun h => by omega, fun h => by omega⟩⟩
    simp only [Nat.zero_add, hx, fo0, fo1, fo2, k0, k1, k2, k3, k4, k5, k6, k7, Int.reduceEq, hp.ld, ey, core]
    exact e
  · refine ⟨false, ?_, fun h => by cases h⟩
    simp only [Nat.zero_add, hx, fo0, fo1, fo2, k0, k1, k2, k3, k4, k5, k6, k7, hv, core]

theorem cV62 (h : At b s H) (hsh : s.2.1.2.length < 2 ^ 63) (c : A_Cell) (hc : CSz c) (lo : List Nat) : ∃ x, callV cfg O (.fn 62 [] [.ptr b 0]) [clV c] lo H = some (B x, H) ∧ (x = false → CellR c) := by
  show ∃ x, callA cfg O 62 [clV c, .ptr b 0] lo H = _ ∧ _
  have ha : ld true 4 (.ptr H.length 0) (H ++ [.box ((enc_Cell c).map .p)]) = some (clV c) := ldA (len_Cell4 c) (by decide) H
  obtain ⟨x, e, ex⟩ := call63 (h.push [.box ((enc_Cell c).map .p)]) hsh c hc (H.length :: lo)
  refine ⟨!x, callA_same (rs := [B (!x)]) rfl ?_, fun h => ex (by cases x with | true => rfl | false => cases h)⟩
  rw [f62_eq]
  simp only [boxAgg, ha, e, core]
  exact cut3 _ lo H _
end
end Ir
end Go.Proofs.YtfdnamedmjhcfaaDoor

/- cells.Check is total. -/
set_option linter.unusedVariables false
set_option linter.unusedSimpArgs false
set_option maxRecDepth 100000
namespace Go.Proofs.YtfdnamedmjhcfaaDoor
open Go Go.AM
namespace Ir

/-- The sizes of a state's lists. -/
structure SSz (s : A_State) : Prop where
  cells : s.1.2.length < 2 ^ 63
  shapes : s.2.1.2.length < 2 ^ 63
  texts : s.2.2.1.2.length < 2 ^ 63
  threads : s.2.2.2.1.2.length < 2 ^ 63
  ends : s.2.2.2.2.1.2.length < 2 ^ 63
  said : s.2.2.2.2.2.1.2.length < 2 ^ 63
  cfr : ∀ c ∈ s.1.2, c.2.2.1.2.length < 2 ^ 63 ∧ c.2.2.2.2.length < 2 ^ 63 ∧ ∀ f ∈ c.2.2.2.2, f.2.2.2.2.2.1.2.length < 2 ^ 63 ∧ f.2.2.2.2.2.2.2.length < 2 ^ 63
  thr : ∀ t ∈ s.2.2.2.1.2, t.1.2.length < 2 ^ 63 ∧ ∀ f ∈ t.1.2, f.2.2.2.2.2.1.2.length < 2 ^ 63 ∧ f.2.2.2.2.2.2.2.length < 2 ^ 63

section
variable {b r : Nat} {s : A_State} {H : Heap}

/-! ### texts -/
theorem loop58 {nl : Option Bool} {l : List ByteArray} (hl : l.length < 2 ^ 63) : ∀ (n i : Nat) (H : Heap) (kvs : List (Kv ByteArray)) (c : Nat), l.length - i = n → i ≤ l.length → H[0]? = some (mapObj (fun s => S s) kvs c) → WfM kvs c → (∀ k, aget kvs k = none ∨ aget kvs k = some (I 1)) →
    ∃ x, L58_10 [SV nl false l, SV (some false) true words, .mp 0, SV nl false l, I l.length, I i] [] H = some ([B x], []) := by
  intro n
  induction n with
  | zero =>
    intro i H kvs c hn hi h1 hw hk
    have : i = l.length := by omega
    subst this
    refine ⟨decide ((words.length : Int) ≤ l.length), ?_⟩
    rw [L58_10_eq]
    simp only [Int.lt_irrefl, core, leave0_B]
  | succ n ih =>
    intro i H kvs c hn hi h1 hw hk
    have hlt : (i : Int) < l.length := by omega
    have hj : i < l.length := by omega
    have w : IntKind.i64.wrap ((i : Int) + 1) = ((i + 1 : Nat) : Int) := by rw [wrap_id (by omega), nxt]
    have lk := map_look (z := I 0) key_str h1 l[i]
    have pu := map_put key_str h1 hw l[i] (v := I 1) (lo := []) rfl
    have go : ∃ x, L58_10 [SV nl false l, SV (some false) true words, .mp 0, SV nl false l, I l.length, I ((i + 1 : Nat) : Int)] [] (H.set 0 (mapObj (fun s => S s) (aput kvs l[i] (I 1) c) (if (aget kvs l[i]).isSome then c else c + 1))) = some ([B x], []) :=
      ih (i + 1) _ _ _ (by omega) (by omega) (List.getElem?_set_self (getElem?_lt h1)) (hw.put l[i] (I 1)) (fun k => by
        rw [aget_put]
        by_cases e : k = l[i]
        · rw [if_pos e]; exact .inr rfl
        · rw [if_neg e]; exact hk k)
    obtain ⟨x, hx⟩ := go
    rw [L58_10_eq]
    rcases hk l[i] with e | e
    · rw [e] at lk pu
      simp only [Option.isSome_none, Bool.false_eq_true, if_false] at pu
      rw [e] at hx
      simp only [Option.isSome_none, Bool.false_eq_true, if_false] at hx
      by_cases hkw : i < words.length
      · have hkw' : (i : Int) < words.length := by omega
        cases hb : !(l[i].data.toList == words[i].data.toList) with
        | true =>
          refine ⟨false, ?_⟩
          simp only [hlt, idxS hj, ldS' hj, lk, Option.getD_none, Int.reduceEq, hkw', idxS hkw, ldS' hkw, bin_neqS, hb, core, leave0_B]
        | false =>
          refine ⟨x, ?_⟩
          simp only [hlt, idxS hj, ldS' hj, lk, Option.getD_none, Int.reduceEq, hkw', idxS hkw, ldS' hkw, bin_neqS, hb, pu, w, core]
          exact hx
      · have hkw' : ¬ (i : Int) < words.length := by omega
        refine ⟨x, ?_⟩
        simp only [hlt, idxS hj, ldS' hj, lk, Option.getD_none, Int.reduceEq, hkw', pu, w, core]
        exact hx
    · rw [e] at lk
      refine ⟨false, ?_⟩
      simp only [hlt, idxS hj, ldS' hj, lk, Option.getD_some, core, leave0_B]
theorem call58 {nl : Option Bool} {l : List ByteArray} (hl : l.length < 2 ^ 63) (lo : List Nat) (H : Heap) : ∃ x, callA cfg O 58 [SV nl false l] lo H = some (B x, H) := by
  obtain ⟨x, e⟩ := loop58 (nl := nl) hl l.length 0 [mapObj (fun s => S s) ([] : List (Kv ByteArray)) 0] [] 0 rfl (by omega) rfl WfM.nil (fun k => .inl rfl)
  refine ⟨x, callA_args (H' := []) (rs := [B x]) rfl rfl ?_ rfl⟩
  have hm : mkMap [] = (.mp 0, [mapObj (fun s => S s) ([] : List (Kv ByteArray)) 0]) := rfl
  rw [f58_eq]
  simp only [call92, hm, core]
  exact e

/-! ### Closures -/
theorem cV60 (h : At b s H) (e : A_Shape) (lo : List Nat) : callV cfg O (.fn 60 [] [.ptr b 0]) [.agg ((enc_Shape e).map .p)] lo H = some (B (decide ((s.2.2.1.2.length : Int) ≤ e.2)), H) := by
  show callA cfg O 60 [.agg ((enc_Shape e).map .p), .ptr b 0] lo H = _
  refine callA_same (rs := [B (decide ((s.2.2.1.2.length : Int) ≤ e.2))]) rfl ?_
  have hx : ∀ j, ld false 1 (.ptr H.length j) (H ++ [.box ((enc_Shape e).map .p)]) = ((enc_Shape e)[j]?).map .p := fun j => ldB _ _ _ _
  have e1 : (enc_Shape e)[1]? = some (Ia e.2) := rfl
  have hv : ∀ b' : Bool, leave 3 (H.length :: lo) [B b'] (H ++ [.box ((enc_Shape e).map .p)]) = some ([B b'], H) := fun b' => cut3 b' lo H _
  rw [f60_eq]
  simp only [boxAgg, Nat.zero_add, hx, e1, (h.push _).s2, hv, core]
theorem cV67 (h : At b s H) (e : A_End) (lo : List Nat) : ∃ x, callV cfg O (.fn 67 [] [.ptr b 0]) [.agg ((enc_End e).map .p)] lo H = some (B x, H) := by
  show ∃ x, callA cfg O 67 [.agg ((enc_End e).map .p), .ptr b 0] lo H = _
  suffices hs : ∃ x, O.ent 67 [.agg ((enc_End e).map .p), .ptr b 0] lo H = some ([B x], H) from hs.imp fun x h => callA_same (rs := [B x]) rfl h
  have h' := h.push [.box ((enc_End e).map .p)]
  have hx : ∀ j, ld false 1 (.ptr H.length j) (H ++ [.box ((enc_End e).map .p)]) = ((enc_End e)[j]?).map .p := fun j => ldB _ _ _ _
  have e0 : (enc_End e)[0]? = some (Ia e.1) := rfl
  have x1 : ld true 2 (.ptr H.length 1) (H ++ [.box ((enc_End e).map .p)]) = some (vlV e.2) := by
    rw [ldAgg_box (xs := (enc_End e).map .p) (by simp) (by rw [List.length_map, len_End3]; decide) (by rw [List.length_map, len_End3]; decide)]
    rfl
  have hv : ∀ b' : Bool, leave 3 (H.length :: lo) [B b'] (H ++ [.box ((enc_End e).map .p)]) = some ([B b'], H) := fun b' => cut3 b' lo H _
  rw [f67_eq]
  cases hw : wi e.1 0 (wr (s.1.2.length - 1)) with
  | false =>
    refine ⟨true, ?_⟩
    simp only [boxAgg, Nat.zero_add, hx, e0, h'.s0, call68, hw, hv, core]
  | true =>
    refine ⟨!isV s e.2 4, ?_⟩
    simp only [boxAgg, Nat.zero_add, hx, e0, h'.s0, x1, call68, hw, call69 h', hv, core]
theorem cV97 (t : ByteArray) (lo : List Nat) (H : Heap) : ∃ x, callV cfg O (.fn 97 [] []) [S t] lo H = some (B x, H) := by
  show ∃ x, callA cfg O 97 [S t] lo H = _
  refine ⟨decide ((200 : Int) < t.size), callA_same (rs := [B (decide ((200 : Int) < t.size))]) rfl ?_⟩
  rw [f97_eq]
  simp only [lenA_str, core]
  exact leave3_B lo H _
theorem cV98 (c : A_Cell) (lo : List Nat) (H : Heap) : ∃ x, callV cfg O (.fn 98 [] []) [clV c] lo H = some (B x, H) ∧ (x = false → c.2.2.1.2.length ≤ 600) := by
  show ∃ x, callA cfg O 98 [clV c] lo H = _ ∧ _
  suffices hs : ∃ x, O.ent 98 [clV c] lo H = some ([B x], H) ∧ (x = false → c.2.2.1.2.length ≤ 600) from hs.imp fun x h => ⟨callA_same (rs := [B x]) rfl h.1, h.2⟩
  have hx : ∀ j, ld false 1 (.ptr H.length j) (H ++ [.box ((enc_Cell c).map .p)]) = ((enc_Cell c)[j]?).map .p := fun j => ldB _ _ _ _
  have hv : ∀ b' : Bool, leave 3 (H.length :: lo) [B b'] (H ++ [.box ((enc_Cell c).map .p)]) = some ([B b'], H) := fun b' => cut3 b' lo H _
  rw [f98_eq]
  by_cases h1 : (100 : Int) < c.2.2.1.2.length
  · by_cases h2 : c.1 = 7
    · refine ⟨decide ((600 : Int) < c.2.2.1.2.length), ?_, fun h => by have := of_decide_eq_false h; omega⟩
      simp only [boxAgg, Nat.zero_add, hx, fo0, fo2, h1, h2, hv, core]
    · refine ⟨true, ?_, fun h => by cases h⟩
      simp only [boxAgg, Nat.zero_add, hx, fo0, fo2, h1, h2, hv, core]
  · refine ⟨false, ?_, fun _ => by omega⟩
    simp only [boxAgg, Nat.zero_add, hx, fo2, h1, hv, core]

theorem askedT {l : List ByteArray} {nl : Option Bool} (H : Heap) : AskedP (fun _ => True) false 1 (SV nl false l) (.fn 97 [] []) l.length H := by
  intro i hi
  refine ⟨_, _, idxS hi, ldS' hi H, fun lo => ?_⟩
  obtain ⟨x, e⟩ := cV97 l[i] lo H
  exact ⟨x, e, fun _ => trivial⟩

/-- What is known of a state that is not large. -/
structure StL (s : A_State) : Prop where
  cells : s.1.2.length ≤ 300
  texts : s.2.2.1.2.length ≤ 300
  said : s.2.2.2.2.2.1.2.length ≤ 200
  ends : s.2.2.2.2.1.2.length ≤ 100
  vals : ∀ c ∈ s.1.2, c.2.2.1.2.length ≤ 600

theorem call56 (h : At b s H) (hz : SSz s) (lo : List Nat) : ∃ x, callA cfg O 56 [.ptr b 0] lo H = some (B x, H) ∧ (x = false → StL s) := by
  suffices hs : ∃ x, O.ent 56 [.ptr b 0] lo H = some ([B x], H) ∧ (x = false → StL s) from hs.imp fun x h => ⟨callA_same (rs := [B x]) rfl h.1, h.2⟩
  have hv : ∀ b' : Bool, leave 3 (H.length :: lo) [B b'] H = some ([B b'], H) := fun b' => leave3_B lo H b'
  rw [f56_eq]
  by_cases h1 : (300 : Int) < s.1.2.length
  · refine ⟨true, ?_, fun h => by cases h⟩
    simp only [Nat.zero_add, nilP, h.s0, h1, hv, core]
  by_cases h2 : (300 : Int) < s.2.2.1.2.length
  · refine ⟨true, ?_, fun h => by cases h⟩
    simp only [Nat.zero_add, nilP, h.s0, h.s2, h1, h2, hv, core]
  by_cases h3 : (200 : Int) < s.2.2.2.2.2.1.2.length
  · refine ⟨true, ?_, fun h => by cases h⟩
    simp only [Nat.zero_add, nilP, h.s0, h.s2, h.s5, h1, h2, h3, hv, core]
  by_cases h4 : (100 : Int) < s.2.2.2.2.1.2.length
  · refine ⟨true, ?_, fun h => by cases h⟩
    simp only [Nat.zero_add, nilP, h.s0, h.s2, h.s5, h.s4, h1, h2, h3, h4, hv, core]
  obtain ⟨x, ex, _⟩ := callTP hz.texts (lenA_sl _ _ _ _) (askedT (nl := s.2.2.1.1) (l := s.2.2.1.2) H) (H.length :: lo)
  cases x with
  | true =>
    refine ⟨true, ?_, fun h => by cases h⟩
    simp only [Nat.zero_add, nilP, h.s0, h.s2, h.s5, h.s4, h1, h2, h3, h4, ex, hv, core]
  | false =>
    obtain ⟨y, ey, hy⟩ := callCP hz.cells (lenA_sl _ _ _ _) (askedE (Q := fun c => c.2.2.1.2.length ≤ 600) (nl := s.1.1) (l := s.1.2) len_Cell4 (v1 := .fn 98 [] []) (H := H) fun c _ lo => cV98 c lo H) (H.length :: lo)
    refine ⟨y, ?_, fun h => ⟨by omega, by omega, by omega, by omega, all_of (hy h)⟩⟩
    simp only [Nat.zero_add, nilP, h.s0, h.s2, h.s5, h.s4, h1, h2, h3, h4, ex, ey, hv, core]

/-- What is known of a state whose cells are right. -/
structure StR (s : A_State) : Prop extends StL s where
  right : ∀ c ∈ s.1.2, CellR c

abbrev stV (s : A_State) : AV := .agg ((enc_State s).map .p)
theorem call25 (hz : SSz s) : ∃ e : Int, (e = 0 → StR s) ∧ ∀ (lo : List Nat) (H : Heap), callA cfg O 25 [stV s] lo H = some (I e, H) := by
  suffices h : ∃ e : Int, O.ent 25 [stV s] [] [] = some ([I e], []) ∧ (e = 0 → StR s) from h.imp fun e h => ⟨h.2, fun lo H => callA_args rfl (pureArgs1 (pureAgg _ _)) h.1 rfl⟩
  have ha : At 0 s [.box ((enc_State s).map .p)] := rfl
  have lf : ∀ (z : Int) (G : Heap), leave 0 [] [I z] G = some ([I z], []) := fun _ _ => rfl
  obtain ⟨x, ex, hl⟩ := call56 ha hz []
  rw [f25_eq]
  cases x with
  | true =>
    refine ⟨2, ?_, fun h => by omega⟩
    simp only [boxAgg0, ex, lf, core]
  | false =>
  have hL := hl rfl
  obtain ⟨r, hr, e57⟩ := call57 (nl := s.2.1.1) (tg := false) (l := s.2.1.2) hz.shapes
  by_cases hr0 : r = 0
  rotate_left
  · refine ⟨r, ?_, fun h => absurd h hr0⟩
    simp only [boxAgg0, ex, Nat.zero_add, ha.s1, e57, hr0, lf, core]
  obtain ⟨t, et⟩ := call58 (nl := s.2.2.1.1) hz.texts [] [.box ((enc_State s).map .p)]
  cases t with
  | false =>
    refine ⟨3, ?_, fun h => by omega⟩
    simp only [boxAgg0, ex, Nat.zero_add, ha.s1, ha.s2, e57, hr0, et, lf, core]
  | true =>
  obtain ⟨u, eu, _⟩ := callSP hz.shapes (lenA_sl _ _ _ _) (askedE (Q := fun _ => True) (nl := s.2.1.1) (l := s.2.1.2) len_Shape2 (v1 := .fn 60 [] [.ptr 0 0]) (H := [.box ((enc_State s).map .p)]) fun e _ lo => ⟨_, cV60 ha e lo, fun _ => trivial⟩) []
  cases u with
  | true =>
    refine ⟨3, ?_, fun h => by omega⟩
    simp only [boxAgg0, ex, Nat.zero_add, ha.s1, ha.s2, e57, hr0, et, eu, lf, core]
  | false =>
  have hcs : ∀ c ∈ s.1.2, CSz c := fun c hc => ⟨hL.vals c hc, (hz.cfr c hc).2.1, fun f hf => ((hz.cfr c hc).2.2 f hf).1⟩
  obtain ⟨v, ev, hv⟩ := callCP hz.cells (lenA_sl _ _ _ _) (askedE (Q := CellR) (nl := s.1.1) (l := s.1.2) len_Cell4 (v1 := .fn 62 [] [.ptr 0 0]) (H := [.box ((enc_State s).map .p)]) fun c hc lo => cV62 ha hz.shapes c (hcs c hc) lo) []
  cases v with
  | true =>
    refine ⟨3, ?_, fun h => by omega⟩
    simp only [boxAgg0, ex, Nat.zero_add, ha.s0, ha.s1, ha.s2, e57, hr0, et, eu, ev, lf, core]
  | false =>
  obtain ⟨w, ew, _⟩ := callVP hz.said (lenA_sl _ _ _ _) (askedE (Q := fun _ => True) (nl := s.2.2.2.2.2.1.1) (l := s.2.2.2.2.2.1.2) len_Val2 (v1 := .fn 64 [] [.ptr 0 0]) (H := [.box ((enc_State s).map .p)]) fun e _ lo => ⟨_, cV64 ha e lo, fun _ => trivial⟩) []
  cases w with
  | true =>
    refine ⟨3, ?_, fun h => by omega⟩
    simp only [boxAgg0, ex, Nat.zero_add, ha.s0, ha.s1, ha.s2, ha.s5, e57, hr0, et, eu, ev, ew, lf, core]
  | false =>
  obtain ⟨q, eq, _⟩ := callEP hz.ends (lenA_sl _ _ _ _) (askedE (Q := fun _ => True) (nl := s.2.2.2.2.1.1) (l := s.2.2.2.2.1.2) len_End3 (v1 := .fn 67 [] [.ptr 0 0]) (H := [.box ((enc_State s).map .p)]) fun e _ lo => (cV67 ha e lo).imp fun x h => ⟨h, fun _ => trivial⟩) []
  cases q with
  | true =>
    refine ⟨3, ?_, fun h => by omega⟩
    simp only [boxAgg0, ex, Nat.zero_add, ha.s0, ha.s1, ha.s2, ha.s4, ha.s5, e57, hr0, et, eu, ev, ew, eq, lf, core]
  | false =>
    refine ⟨0, ?_, fun _ => { toStL := hL, right := all_of (hv rfl) }⟩
    simp only [boxAgg0, ex, Nat.zero_add, ha.s0, ha.s1, ha.s2, ha.s4, ha.s5, e57, hr0, et, eu, ev, ew, eq, lf, core]
end
end Ir
end Go.Proofs.YtfdnamedmjhcfaaDoor
