import Derived.Test.YtfdnamedmjhcfaaDoorELockupWaits
import Derived.Test.YtfdnamedmjhcfaaDoorTy
import Derived.Test.YtfdnamedmjhcfaaDoorAm32
set_option linter.unusedVariables false
set_option linter.unusedSimpArgs false
set_option maxRecDepth 100000
namespace Go.Proofs.YtfdnamedmjhcfaaDoor
open Go Go.AM
namespace Ir

/-! ### Boxes of structs -/
theorem boxAgg (xs : List PV) (H : Heap) : boxO [] (AV.cells (.agg (xs.map .p))) H = some (.ptr H.length 0, H ++ [.box (xs.map .p)]) := boxO_p xs H
theorem boxAgg0 (xs : List PV) : boxO [] (AV.cells (.agg (xs.map .p))) [] = some (.ptr 0 0, [.box (xs.map .p)]) := boxO_p xs []
theorem ldB (xs : List PV) (n j : Nat) (H : Heap) : ld false n (.ptr H.length j) (H ++ [.box (xs.map .p)]) = (xs[j]?).map .p := by rw [ldE, List.getElem?_map]
theorem ldB0 (xs : List PV) (n j : Nat) : ld false n (.ptr 0 j) [.box (xs.map .p)] = (xs[j]?).map .p := ldB xs n j []
theorem ldA {xs : List PV} {n : Nat} (h : xs.length = n) (h0 : 0 < n) (H : Heap) : ld true n (.ptr H.length 0) (H ++ [.box (xs.map .p)]) = some (.agg (xs.map .p)) := ldEA (by rw [List.length_map]; exact h) h0
theorem ldA0 {xs : List PV} {n : Nat} (h : xs.length = n) (h0 : 0 < n) : ld true n (.ptr 0 0) [.box (xs.map .p)] = some (.agg (xs.map .p)) := ldA h h0 []
theorem leaf_all {H : Heap} : ∀ xs : List PV, pureLeaves H (xs.map .p) = some (xs.map .p, false)
  | [] => rfl
  | x :: xs => by rw [List.map_cons, pureLeaves, leaf_all xs]; rfl
theorem pureAgg (xs : List PV) (H : Heap) : pureArg H (.agg (xs.map .p)) = some (.agg (xs.map .p), false) := by
  show (pureLeaves H (xs.map .p)).map _ = _
  rw [leaf_all]
  rfl
theorem pureP (x : PV) (H : Heap) : pureArg H (.p x) = some (.p x, false) := rfl
theorem pureArgs1 {x : AV} {H : Heap} (h : pureArg H x = some (x, false)) : pureArgs H [x] = some ([x], false) := by
  show (pureArg H x).bind _ = _
  rw [h]; rfl
theorem pureArgsC {x : AV} {xs : List AV} {H : Heap} (h : pureArg H x = some (x, false)) (h' : pureArgs H xs = some (xs, false)) : pureArgs H (x :: xs) = some (x :: xs, false) := by
  show (pureArg H x).bind _ = _
  rw [h, obs, h']; rfl
theorem pureArgsN (H : Heap) : pureArgs H [] = some ([], false) := rfl

abbrev U (n : Int) : AV := .p (.v (.int .u8 n))
theorem bin_eqlU (a b : Int) : bin .eql .int (U a) (U b) = some (B (decide (a = b))) := by
  show some (B (a == b)) = _
  by_cases h : a = b <;> simp [h]

/-! ### A function looked at -/
def lkE (p : A_Prog) (f : A_Fn) : List PV := enc_Prog p ++ enc_Fn f
abbrev lkV (p : A_Prog) (f : A_Fn) : AV := .agg ((lkE p f).map .p)
variable (p : A_Prog) (f : A_Fn)
theorem lk_len : (lkE p f).length = 8 := rfl
theorem lk0 : (lkE p f)[0]? = some (.sl p.1.1 false p.1.2.length (p.1.2.flatMap enc_Fn)) := _root_.id rfl
theorem lk1 : (lkE p f)[1]? = some (.sl p.2.1.1 false p.2.1.2.length (p.2.1.2.flatMap enc_Val)) := _root_.id rfl
theorem lk2 : (lkE p f)[2]? = some (.sl p.2.2.1 false p.2.2.2.length (p.2.2.2.map (fun z => .v (.string z)))) := _root_.id rfl
theorem lk3 : (lkE p f)[3]? = some (Ia f.1) := _root_.id rfl
theorem lk4 : (lkE p f)[4]? = some (Ia f.2.1) := _root_.id rfl
theorem lk5 : (lkE p f)[5]? = some (.v (.bool f.2.2.1)) := _root_.id rfl
theorem lk6 : (lkE p f)[6]? = some (.sl f.2.2.2.1.1 false f.2.2.2.1.2.length (f.2.2.2.1.2.map Ia)) := _root_.id rfl
theorem lk7 : (lkE p f)[7]? = some (.sl f.2.2.2.2.1 false f.2.2.2.2.2.length (f.2.2.2.2.2.flatMap enc_Ins)) := _root_.id rfl

/-- Within bounds. -/
def wi (a b c : Int) : Bool := decide (b ≤ a) && decide (a ≤ c)
theorem wi_iff {a b c : Int} : wi a b c = true ↔ b ≤ a ∧ a ≤ c := by simp [wi]
theorem call139 (a b c : Int) (lo : List Nat) (H : Heap) : callA cfg O 91 [I a, I b, I c] lo H = some (B (wi a b c), H) := by
  refine callA_pure (xs := [Ia a, Ia b, Ia c]) (H' := []) (rs := [B (wi a b c)]) rfl ?_ rfl
  show O.ent 91 [I a, I b, I c] [] [] = _
  rw [f91_eq, wi]
  by_cases h : b ≤ a
  · by_cases h2 : a ≤ c <;> simp only [h, h2, Bool.and_true, Bool.and_false, core, leave0_B]
  · simp only [h, Bool.false_and, core, leave0_B]
theorem call136 (a b c : Int) (lo : List Nat) (H : Heap) : callA cfg O 88 [I a, I b, I c] lo H = some (B (wi a b c), H) := by
  refine callA_pure (xs := [Ia a, Ia b, Ia c]) (H' := []) (rs := [B (wi a b c)]) rfl ?_ rfl
  show O.ent 88 [I a, I b, I c] [] [] = _
  rw [f88_eq, wi]
  by_cases h : b ≤ a
  · by_cases h2 : a ≤ c <;> simp only [h, h2, Bool.and_true, Bool.and_false, core, leave0_B]
  · simp only [h, Bool.false_and, core, leave0_B]

abbrev wr (n : Int) : Int := IntKind.i64.wrap n
theorem callLk {g : FuncId} {n : Int} {b : Bool} (hm : cfg.mode g = 0) (h : O.ent g [lkV p f, I n] [] [] = some ([B b], [])) (lo : List Nat) (H : Heap) : callA cfg O g [lkV p f, I n] lo H = some (B b, H) :=
  callA_args hm (pureArgsC (pureAgg _ _) (pureArgs1 (pureP _ _))) h rfl
theorem call141 (n : Int) (lo : List Nat) (H : Heap) : callA cfg O 93 [lkV p f, I n] lo H = some (B (wi n 0 (wr (f.2.1 - 1))), H) := by
  refine callLk p f rfl ?_ lo H
  rw [f93_eq]
  simp only [boxAgg0, ldB0, lk4, Nat.zero_add, Nat.reduceAdd, call139, core, leave0_B]
theorem call162 (n : Int) (lo : List Nat) (H : Heap) : callA cfg O 131 [lkV p f, I n] lo H = some (B (wi n 0 (wr (p.2.2.2.length - 1))), H) := by
  refine callLk p f rfl ?_ lo H
  rw [f131_eq]
  simp only [boxAgg0, ldB0, lk2, Nat.zero_add, Nat.reduceAdd, call139, core, leave0_B]
theorem call163 (n : Int) (lo : List Nat) (H : Heap) : callA cfg O 132 [lkV p f, I n] lo H = some (B (wi n 0 (wr (f.2.2.2.2.2.length - 1))), H) := by
  refine callLk p f rfl ?_ lo H
  rw [f132_eq]
  simp only [boxAgg0, ldB0, lk7, Nat.zero_add, Nat.reduceAdd, call139, core, leave0_B]

/-- May a number be named so? -/
def nm (c n : Int) : Bool :=
  if c = 114 then wi n 0 (wr (f.2.1 - 1)) else if c = 107 then wi n 0 (wr (p.2.1.2.length - 1)) else if c = 116 then wi n 0 (wr (p.2.2.2.length - 1))
  else if c = 97 then wi n 0 (wr (f.2.2.2.2.2.length - 1)) else if c = 117 then wi n 0 (wr (f.2.2.2.1.2.length - 1)) else if c = 102 then wi n 1 (wr (p.1.2.length - 1))
  else if c = 108 ∨ c = 99 ∨ c = 110 then wi n 0 f.2.1 else decide (n = 0)
theorem call140 (c n : Int) (lo : List Nat) (H : Heap) : callA cfg O 92 [lkV p f, U c, I n] lo H = some (B (nm p f c n), H) := by
  refine callA_args (H' := []) (rs := [B (nm p f c n)]) rfl (pureArgsC (pureAgg _ _) (pureArgsC (pureP _ _) (pureArgs1 (pureP _ _)))) ?_ rfl
  rw [f92_eq, nm]
  simp only [boxAgg0, bin_eqlU, ldB0, ldA0 (lk_len p f) (by decide), lk0, lk1, lk2, lk3, lk4, lk6, Nat.zero_add, Nat.reduceAdd, call139, call141, call162, call163, core, leave0_B, decide_eq_true_eq]
  by_cases h1 : c = 114
  · simp only [h1, if_true]
  by_cases h2 : c = 107
  · simp only [h1, h2, if_true, if_false]; rfl
  by_cases h3 : c = 116
  · simp only [h1, h2, h3, if_true, if_false]; rfl
  by_cases h4 : c = 97
  · simp only [h1, h2, h3, h4, if_true, if_false]; rfl
  by_cases h5 : c = 117
  · simp only [h1, h2, h3, h4, h5, if_true, if_false]; rfl
  by_cases h6 : c = 102
  · simp only [h1, h2, h3, h4, h5, h6, if_true, if_false]; rfl
  by_cases h7 : c = 108
  · simp only [h1, h2, h3, h4, h5, h6, h7, true_or, if_true, if_false]; rfl
  by_cases h8 : c = 99
  · simp only [h1, h2, h3, h4, h5, h6, h7, h8, true_or, or_true, if_true, if_false]; rfl
  by_cases h9 : c = 110
  · simp only [h1, h2, h3, h4, h5, h6, h7, h8, h9, true_or, or_true, if_true, if_false]; rfl
  simp only [h1, h2, h3, h4, h5, h6, h7, h8, h9, or_self, if_true, if_false]

end Ir
end Go.Proofs.YtfdnamedmjhcfaaDoor

set_option linter.unusedVariables false
set_option linter.unusedSimpArgs false
set_option maxRecDepth 100000
namespace Go.Proofs.YtfdnamedmjhcfaaDoor
open Go Go.AM
namespace Ir
theorem leave3_p (x : PV) (lo : List Nat) (H : Heap) : leave 3 (H.length :: lo) [.p x] H = some ([.p x], H) := by
  show some ([AV.p x], H.take H.length) = _
  rw [List.take_length]
/-- What is asked of a list's places. -/
def Asked (agg : Bool) (sz : Nat) (v0 v1 : AV) (n : Nat) (H : Heap) : Prop := ∀ i : Nat, i < n → ∃ q x, idxA sz v0 (I i) = some q ∧ ld agg sz q H = some x ∧ ∀ lo, ∃ b, callV cfg O v1 [x] lo H = some (B b, H)
theorem ent97 {v0 v1 : AV} {n : Nat} {H : Heap} (hn : n < 2 ^ 63) (hl : lenA .slice v0 H = some (I n)) (h : Asked true 5 v0 v1 n H) (lo : List Nat) : ∃ r : Int, O.ent 53 [v0, v1] lo H = some ([I r], H) := by
  rw [f53_eq]
  have go : ∀ (c i : Nat), n - i = c → i ≤ n → ∃ r : Int, L53_6 [v0, v1, I n, I i] (H.length :: lo) H = some ([I r], H) := by
    intro c
    induction c with
    | zero =>
      intro i hc hi
      have : i = n := by omega
      subst this
      refine ⟨-1, ?_⟩
      rw [L53_6_eq]
      simp only [Int.lt_irrefl, core]
      exact leave3_p (Ia (-1)) lo H
    | succ c ih =>
      intro i hc hi
      have hlt : (i : Int) < n := by omega
      obtain ⟨q, x, e1, e2, h3⟩ := h i (by omega)
      obtain ⟨b, e3⟩ := h3 (H.length :: lo)
      have w : IntKind.i64.wrap ((i : Int) + 1) = ((i + 1 : Nat) : Int) := by rw [wrap_id (by omega), nxt]
      rw [L53_6_eq]
      cases b with
      | true =>
        refine ⟨i, ?_⟩
        simp only [hlt, e1, e2, e3, core]
        exact leave3_p (Ia i) lo H
      | false =>
        obtain ⟨r, hr⟩ := ih (i + 1) (by omega) (by omega)
        refine ⟨r, ?_⟩
        simp only [hlt, e1, e2, e3, w, core]
        exact hr
  obtain ⟨r, hr⟩ := go n 0 (by omega) (by omega)
  refine ⟨r, ?_⟩
  rw [hl, obs]
  exact hr
theorem call45 {v0 v1 : AV} {n : Nat} {H : Heap} (hn : n < 2 ^ 63) (hl : lenA .slice v0 H = some (I n)) (h : Asked true 5 v0 v1 n H) (lo : List Nat) : ∃ b, callA cfg O 22 [v0, v1] lo H = some (B b, H) := by
  obtain ⟨r, hr⟩ := ent97 hn hl h (H.length :: lo)
  refine ⟨decide (0 ≤ r), callA_same (rs := [B (decide (0 ≤ r))]) rfl ?_⟩
  rw [f22_eq, callA_same (rs := [I r]) rfl hr]
  simp only [ret, core]
  exact leave3_p (.v (.bool (decide (0 ≤ r)))) lo H
theorem ent135 {v0 v1 : AV} {n : Nat} {H : Heap} (hn : n < 2 ^ 63) (hl : lenA .slice v0 H = some (I n)) (h : Asked true 2 v0 v1 n H) (lo : List Nat) : ∃ r : Int, O.ent 87 [v0, v1] lo H = some ([I r], H) := by
  rw [f87_eq]
  have go : ∀ (c i : Nat), n - i = c → i ≤ n → ∃ r : Int, L87_6 [v0, v1, I n, I i] (H.length :: lo) H = some ([I r], H) := by
    intro c
    induction c with
    | zero =>
      intro i hc hi
      have : i = n := by omega
      subst this
      refine ⟨-1, ?_⟩
      rw [L87_6_eq]
      simp only [Int.lt_irrefl, core]
      exact leave3_p (Ia (-1)) lo H
    | succ c ih =>
      intro i hc hi
      have hlt : (i : Int) < n := by omega
      obtain ⟨q, x, e1, e2, h3⟩ := h i (by omega)
      obtain ⟨b, e3⟩ := h3 (H.length :: lo)
      have w : IntKind.i64.wrap ((i : Int) + 1) = ((i + 1 : Nat) : Int) := by rw [wrap_id (by omega), nxt]
      rw [L87_6_eq]
      cases b with
      | true =>
        refine ⟨i, ?_⟩
        simp only [hlt, e1, e2, e3, core]
        exact leave3_p (Ia i) lo H
      | false =>
        obtain ⟨r, hr⟩ := ih (i + 1) (by omega) (by omega)
        refine ⟨r, ?_⟩
        simp only [hlt, e1, e2, e3, w, core]
        exact hr
  obtain ⟨r, hr⟩ := go n 0 (by omega) (by omega)
  refine ⟨r, ?_⟩
  rw [hl, obs]
  exact hr
theorem call94 {v0 v1 : AV} {n : Nat} {H : Heap} (hn : n < 2 ^ 63) (hl : lenA .slice v0 H = some (I n)) (h : Asked true 2 v0 v1 n H) (lo : List Nat) : ∃ b, callA cfg O 50 [v0, v1] lo H = some (B b, H) := by
  obtain ⟨r, hr⟩ := ent135 hn hl h (H.length :: lo)
  refine ⟨decide (0 ≤ r), callA_same (rs := [B (decide (0 ≤ r))]) rfl ?_⟩
  rw [f50_eq, callA_same (rs := [I r]) rfl hr]
  simp only [ret, core]
  exact leave3_p (.v (.bool (decide (0 ≤ r)))) lo H
theorem ent122 {v0 v1 : AV} {n : Nat} {H : Heap} (hn : n < 2 ^ 63) (hl : lenA .slice v0 H = some (I n)) (h : Asked false 1 v0 v1 n H) (lo : List Nat) : ∃ r : Int, O.ent 151 [v0, v1] lo H = some ([I r], H) := by
  rw [f151_eq]
  have go : ∀ (c i : Nat), n - i = c → i ≤ n → ∃ r : Int, L151_6 [v0, v1, I n, I i] (H.length :: lo) H = some ([I r], H) := by
    intro c
    induction c with
    | zero =>
      intro i hc hi
      have : i = n := by omega
      subst this
      refine ⟨-1, ?_⟩
      rw [L151_6_eq]
      simp only [Int.lt_irrefl, core]
      exact leave3_p (Ia (-1)) lo H
    | succ c ih =>
      intro i hc hi
      have hlt : (i : Int) < n := by omega
      obtain ⟨q, x, e1, e2, h3⟩ := h i (by omega)
      obtain ⟨b, e3⟩ := h3 (H.length :: lo)
      have w : IntKind.i64.wrap ((i : Int) + 1) = ((i + 1 : Nat) : Int) := by rw [wrap_id (by omega), nxt]
      rw [L151_6_eq]
      cases b with
      | true =>
        refine ⟨i, ?_⟩
        simp only [hlt, e1, e2, e3, core]
        exact leave3_p (Ia i) lo H
      | false =>
        obtain ⟨r, hr⟩ := ih (i + 1) (by omega) (by omega)
        refine ⟨r, ?_⟩
        simp only [hlt, e1, e2, e3, w, core]
        exact hr
  obtain ⟨r, hr⟩ := go n 0 (by omega) (by omega)
  refine ⟨r, ?_⟩
  rw [hl, obs]
  exact hr
theorem call71 {v0 v1 : AV} {n : Nat} {H : Heap} (hn : n < 2 ^ 63) (hl : lenA .slice v0 H = some (I n)) (h : Asked false 1 v0 v1 n H) (lo : List Nat) : ∃ b, callA cfg O 133 [v0, v1] lo H = some (B b, H) := by
  obtain ⟨r, hr⟩ := ent122 hn hl h (H.length :: lo)
  refine ⟨decide (0 ≤ r), callA_same (rs := [B (decide (0 ≤ r))]) rfl ?_⟩
  rw [f133_eq, callA_same (rs := [I r]) rfl hr]
  simp only [ret, core]
  exact leave3_p (.v (.bool (decide (0 ≤ r)))) lo H
theorem ent133 {v0 v1 : AV} {n : Nat} {H : Heap} (hn : n < 2 ^ 63) (hl : lenA .slice v0 H = some (I n)) (h : Asked false 1 v0 v1 n H) (lo : List Nat) : ∃ r : Int, O.ent 85 [v0, v1] lo H = some ([I r], H) := by
  rw [f85_eq]
  have go : ∀ (c i : Nat), n - i = c → i ≤ n → ∃ r : Int, L85_6 [v0, v1, I n, I i] (H.length :: lo) H = some ([I r], H) := by
    intro c
    induction c with
    | zero =>
      intro i hc hi
      have : i = n := by omega
      subst this
      refine ⟨-1, ?_⟩
      rw [L85_6_eq]
      simp only [Int.lt_irrefl, core]
      exact leave3_p (Ia (-1)) lo H
    | succ c ih =>
      intro i hc hi
      have hlt : (i : Int) < n := by omega
      obtain ⟨q, x, e1, e2, h3⟩ := h i (by omega)
      obtain ⟨b, e3⟩ := h3 (H.length :: lo)
      have w : IntKind.i64.wrap ((i : Int) + 1) = ((i + 1 : Nat) : Int) := by rw [wrap_id (by omega), nxt]
      rw [L85_6_eq]
      cases b with
      | true =>
        refine ⟨i, ?_⟩
        simp only [hlt, e1, e2, e3, core]
        exact leave3_p (Ia i) lo H
      | false =>
        obtain ⟨r, hr⟩ := ih (i + 1) (by omega) (by omega)
        refine ⟨r, ?_⟩
        simp only [hlt, e1, e2, e3, w, core]
        exact hr
  obtain ⟨r, hr⟩ := go n 0 (by omega) (by omega)
  refine ⟨r, ?_⟩
  rw [hl, obs]
  exact hr
theorem call89 {v0 v1 : AV} {n : Nat} {H : Heap} (hn : n < 2 ^ 63) (hl : lenA .slice v0 H = some (I n)) (h : Asked false 1 v0 v1 n H) (lo : List Nat) : ∃ b, callA cfg O 45 [v0, v1] lo H = some (B b, H) := by
  obtain ⟨r, hr⟩ := ent133 hn hl h (H.length :: lo)
  refine ⟨decide (0 ≤ r), callA_same (rs := [B (decide (0 ≤ r))]) rfl ?_⟩
  rw [f45_eq, callA_same (rs := [I r]) rfl hr]
  simp only [ret, core]
  exact leave3_p (.v (.bool (decide (0 ≤ r)))) lo H
/-- As Asked, and what a no says. -/
def AskedP (P : Nat → Prop) (agg : Bool) (sz : Nat) (v0 v1 : AV) (n : Nat) (H : Heap) : Prop := ∀ i : Nat, i < n → ∃ q x, idxA sz v0 (I i) = some q ∧ ld agg sz q H = some x ∧ ∀ lo, ∃ b, callV cfg O v1 [x] lo H = some (B b, H) ∧ (b = false → P i)
theorem ent97P {P : Nat → Prop} {v0 v1 : AV} {n : Nat} {H : Heap} (hn : n < 2 ^ 63) (hl : lenA .slice v0 H = some (I n)) (h : AskedP P true 5 v0 v1 n H) (lo : List Nat) : ∃ r : Int, O.ent 53 [v0, v1] lo H = some ([I r], H) ∧ (r < 0 → ∀ i, i < n → P i) := by
  rw [f53_eq]
  have go : ∀ (c i : Nat), n - i = c → i ≤ n → ∃ r : Int, L53_6 [v0, v1, I n, I i] (H.length :: lo) H = some ([I r], H) ∧ (r < 0 → ∀ j, i ≤ j → j < n → P j) := by
    intro c
    induction c with
    | zero =>
      intro i hc hi
      have : i = n := by omega
      subst this
      refine ⟨-1, ?_, fun _ j h1 h2 => absurd h1 (by omega)⟩
      rw [L53_6_eq]
      simp only [Int.lt_irrefl, core]
      exact leave3_p (Ia (-1)) lo H
    | succ c ih =>
      intro i hc hi
      have hlt : (i : Int) < n := by omega
      obtain ⟨q, x, e1, e2, h3⟩ := h i (by omega)
      obtain ⟨b, e3, hb⟩ := h3 (H.length :: lo)
      have w : IntKind.i64.wrap ((i : Int) + 1) = ((i + 1 : Nat) : Int) := by rw [wrap_id (by omega), nxt]
      rw [L53_6_eq]
      cases b with
      | true =>
        refine ⟨i, ?_, fun h => absurd h (by omega)⟩
        simp only [hlt, e1, e2, e3, core]
        exact leave3_p (Ia i) lo H
      | false =>
        obtain ⟨r, hr, hp⟩ := ih (i + 1) (by omega) (by omega)
        refine ⟨r, ?_, fun h j h1 h2 => ?_⟩
        rotate_left
        · by_cases e : i = j
          · subst e; exact hb rfl
          · exact hp h j (by omega) h2
        simp only [hlt, e1, e2, e3, w, core]
        exact hr
  obtain ⟨r, hr, hp⟩ := go n 0 (by omega) (by omega)
  refine ⟨r, ?_, fun h i hi => hp h i (by omega) hi⟩
  rw [hl, obs]
  exact hr
theorem call45P {P : Nat → Prop} {v0 v1 : AV} {n : Nat} {H : Heap} (hn : n < 2 ^ 63) (hl : lenA .slice v0 H = some (I n)) (h : AskedP P true 5 v0 v1 n H) (lo : List Nat) : ∃ b, callA cfg O 22 [v0, v1] lo H = some (B b, H) ∧ (b = false → ∀ i, i < n → P i) := by
  obtain ⟨r, hr, hp⟩ := ent97P hn hl h (H.length :: lo)
  refine ⟨decide (0 ≤ r), callA_same (rs := [B (decide (0 ≤ r))]) rfl ?_, fun h => hp (by have := of_decide_eq_false h; omega)⟩
  rw [f22_eq, callA_same (rs := [I r]) rfl hr]
  simp only [ret, core]
  exact leave3_p (.v (.bool (decide (0 ≤ r)))) lo H
end Ir
end Go.Proofs.YtfdnamedmjhcfaaDoor

set_option linter.unusedVariables false
set_option linter.unusedSimpArgs false
set_option maxRecDepth 100000
namespace Go.Proofs.YtfdnamedmjhcfaaDoor
open Go Go.AM
namespace Ir
theorem bin_eqlS (x y : ByteArray) : bin .eql .str (S x) (S y) = some (B (x.data.toList == y.data.toList)) := by
  show some (B (x.toList == y.toList)) = _
  rw [ByteArray.toList_eq, ByteArray.toList_eq]
theorem bin_neqS (x y : ByteArray) : bin .neq .str (S x) (S y) = some (B !(x.data.toList == y.data.toList)) := by
  show some (B !(x.toList == y.toList)) = _
  rw [ByteArray.toList_eq, ByteArray.toList_eq]
def formL : List PV := [.v (.string ⟨#[]⟩), .v (.string ⟨#[114, 107, 45]⟩), .v (.string ⟨#[114, 114, 45]⟩), .v (.string ⟨#[114, 114, 114]⟩), .v (.string ⟨#[114, 114, 114]⟩), .v (.string ⟨#[114, 114, 114]⟩), .v (.string ⟨#[114, 114, 114]⟩), .v (.string ⟨#[114, 114, 114]⟩), .v (.string ⟨#[114, 114, 114]⟩), .v (.string ⟨#[114, 114, 114]⟩), .v (.string ⟨#[114, 114, 114]⟩), .v (.string ⟨#[114, 114, 45]⟩), .v (.string ⟨#[114, 114, 45]⟩), .v (.string ⟨#[97, 45, 45]⟩), .v (.string ⟨#[97, 45, 45]⟩), .v (.string ⟨#[114, 97, 45]⟩), .v (.string ⟨#[114, 45, 45]⟩), .v (.string ⟨#[114, 114, 116]⟩), .v (.string ⟨#[114, 116, 114]⟩), .v (.string ⟨#[114, 108, 110]⟩), .v (.string ⟨#[114, 114, 114]⟩), .v (.string ⟨#[114, 114, 114]⟩), .v (.string ⟨#[114, 45, 45]⟩), .v (.string ⟨#[114, 114, 45]⟩), .v (.string ⟨#[114, 114, 45]⟩), .v (.string ⟨#[114, 117, 45]⟩), .v (.string ⟨#[114, 102, 45]⟩), .v (.string ⟨#[114, 99, 110]⟩), .v (.string ⟨#[114, 45, 45]⟩), .v (.string ⟨#[114, 45, 45]⟩), .v (.string ⟨#[114, 97, 45]⟩), .v (.string ⟨#[45, 45, 45]⟩), .v (.string ⟨#[114, 114, 45]⟩), .v (.string ⟨#[114, 45, 45]⟩), .v (.string ⟨#[114, 45, 45]⟩), .v (.string ⟨#[114, 114, 45]⟩), .v (.string ⟨#[114, 114, 45]⟩), .v (.string ⟨#[114, 45, 45]⟩), .v (.string ⟨#[114, 45, 45]⟩)]
def formC : List (Int × Int × Int) := [(0, 0, 0), (114, 107, 45), (114, 114, 45), (114, 114, 114), (114, 114, 114), (114, 114, 114), (114, 114, 114), (114, 114, 114), (114, 114, 114), (114, 114, 114), (114, 114, 114), (114, 114, 45), (114, 114, 45), (97, 45, 45), (97, 45, 45), (114, 97, 45), (114, 45, 45), (114, 114, 116), (114, 116, 114), (114, 108, 110), (114, 114, 114), (114, 114, 114), (114, 45, 45), (114, 114, 45), (114, 114, 45), (114, 117, 45), (114, 102, 45), (114, 99, 110), (114, 45, 45), (114, 45, 45), (114, 97, 45), (45, 45, 45), (114, 114, 45), (114, 45, 45), (114, 45, 45), (114, 114, 45), (114, 114, 45), (114, 45, 45), (114, 45, 45)]
def fc (op : Int) : Int × Int × Int := formC.getD op.toNat (0, 0, 0)
def emp : PV := .v (.string ⟨#[]⟩)
def formP (op : Int) : PV := formL.getD op.toNat emp
theorem f90_eq' (a0 : AV) : O.ent 90 [a0] [] [] = (
(bin .lss .int a0 (I 1)).bind fun x4 =>
(gd x4 false (some a0)).bind fun x5 =>
(gd x4 false (bin .geq .int x5 (I 39))).bind fun x6 =>
(pickA x4 (B true) x6).bind fun x7 =>
cond x7 (
leave 0 [] [.p emp] [.row 0 1 formL]) (
(idxArr 1 39 (.rptr 0 0 0) a0).bind fun x8 =>
(ld false 1 x8 [.row 0 1 formL]).bind fun x9 =>
leave 0 [] [x9] [.row 0 1 formL])) := by
  rw [f90_eq]
  kernel_rfl
theorem form_get {op : Int} (h : 1 ≤ op ∧ op < 39) : formL[op.toNat]? = some (formP op) := by
  have : op.toNat < formL.length := by show op.toNat < 39; omega
  rw [formP, List.getD_eq_getElem?_getD, List.getElem?_eq_getElem this]; rfl
theorem call138_in {op : Int} (h : 1 ≤ op ∧ op < 39) (lo : List Nat) (H : Heap) : callA cfg O 90 [I op] lo H = some (.p (formP op), H) := by
  refine callA_pure (xs := [Ia op]) (H' := []) (rs := [.p (formP op)]) rfl ?_ rfl
  show O.ent 90 [I op] [] [] = _
  rw [f90_eq']
  have h1 : ¬ op < 1 := by omega
  have h2 : ¬ (39 : Int) ≤ op := by omega
  have h3 : idxArr 1 39 (.rptr 0 0 0) (I op) = some (.rptr 0 0 (0 + op.toNat * 1)) := if_pos ⟨by omega, by omega⟩
  simp only [h1, h2, h3, Nat.zero_add, Nat.mul_one, ld_row (H := [.row 0 1 formL]) (id := 0) (g := 0) (sz := 1) (xs := formL) rfl, form_get h, leave0_nil, core]
theorem call138_out {op : Int} (h : ¬ (1 ≤ op ∧ op < 39)) (lo : List Nat) (H : Heap) : callA cfg O 90 [I op] lo H = some (.p emp, H) := by
  refine callA_pure (xs := [Ia op]) (H' := []) (rs := [.p emp]) rfl ?_ rfl
  show O.ent 90 [I op] [] [] = _
  rw [f90_eq']
  by_cases h1 : op < 1
  · simp only [h1, leave0_nil, core]
  · have h2 : (39 : Int) ≤ op := by omega
    simp only [h1, h2, leave0_nil, core]
theorem emp_eq : bin .eql .str (.p emp) (.p (.v (.string ⟨#[]⟩))) = some (B true) := (bin_eqlS _ _).trans rfl
theorem form_ne : ∀ k : Nat, 1 ≤ k → k < 39 → bin .eql .str (.p (formP k)) (.p (.v (.string ⟨#[]⟩))) = some (B false) ∧ strAt (.p (formP k)) (I 0) = some (U (fc k).1) ∧ strAt (.p (formP k)) (I 1) = some (U (fc k).2.1) ∧ strAt (.p (formP k)) (I 2) = some (U (fc k).2.2)
  | 0, h, _ => absurd h (by omega)
  | 1, _, _ => ⟨(bin_eqlS _ _).trans (by kernel_rfl), by kernel_rfl, by kernel_rfl, by kernel_rfl⟩
  | 2, _, _ => ⟨(bin_eqlS _ _).trans (by kernel_rfl), by kernel_rfl, by kernel_rfl, by kernel_rfl⟩
  | 3, _, _ => ⟨(bin_eqlS _ _).trans (by kernel_rfl), by kernel_rfl, by kernel_rfl, by kernel_rfl⟩
  | 4, _, _ => ⟨(bin_eqlS _ _).trans (by kernel_rfl), by kernel_rfl, by kernel_rfl, by kernel_rfl⟩
  | 5, _, _ => ⟨(bin_eqlS _ _).trans (by kernel_rfl), by kernel_rfl, by kernel_rfl, by kernel_rfl⟩
  | 6, _, _ => ⟨(bin_eqlS _ _).trans (by kernel_rfl), by kernel_rfl, by kernel_rfl, by kernel_rfl⟩
  | 7, _, _ => ⟨(bin_eqlS _ _).trans (by kernel_rfl), by kernel_rfl, by kernel_rfl, by kernel_rfl⟩
  | 8, _, _ => ⟨(bin_eqlS _ _).trans (by kernel_rfl), by kernel_rfl, by kernel_rfl, by kernel_rfl⟩
  | 9, _, _ => ⟨(bin_eqlS _ _).trans (by kernel_rfl), by kernel_rfl, by kernel_rfl, by kernel_rfl⟩
  | 10, _, _ => ⟨(bin_eqlS _ _).trans (by kernel_rfl), by kernel_rfl, by kernel_rfl, by kernel_rfl⟩
  | 11, _, _ => ⟨(bin_eqlS _ _).trans (by kernel_rfl), by kernel_rfl, by kernel_rfl, by kernel_rfl⟩
  | 12, _, _ => ⟨(bin_eqlS _ _).trans (by kernel_rfl), by kernel_rfl, by kernel_rfl, by kernel_rfl⟩
  | 13, _, _ => ⟨(bin_eqlS _ _).trans (by kernel_rfl), by kernel_rfl, by kernel_rfl, by kernel_rfl⟩
  | 14, _, _ => ⟨(bin_eqlS _ _).trans (by kernel_rfl), by kernel_rfl, by kernel_rfl, by kernel_rfl⟩
  | 15, _, _ => ⟨(bin_eqlS _ _).trans (by kernel_rfl), by kernel_rfl, by kernel_rfl, by kernel_rfl⟩
  | 16, _, _ => ⟨(bin_eqlS _ _).trans (by kernel_rfl), by kernel_rfl, by kernel_rfl, by kernel_rfl⟩
  | 17, _, _ => ⟨(bin_eqlS _ _).trans (by kernel_rfl), by kernel_rfl, by kernel_rfl, by kernel_rfl⟩
  | 18, _, _ => ⟨(bin_eqlS _ _).trans (by kernel_rfl), by kernel_rfl, by kernel_rfl, by kernel_rfl⟩
  | 19, _, _ => ⟨(bin_eqlS _ _).trans (by kernel_rfl), by kernel_rfl, by kernel_rfl, by kernel_rfl⟩
  | 20, _, _ => ⟨(bin_eqlS _ _).trans (by kernel_rfl), by kernel_rfl, by kernel_rfl, by kernel_rfl⟩
  | 21, _, _ => ⟨(bin_eqlS _ _).trans (by kernel_rfl), by kernel_rfl, by kernel_rfl, by kernel_rfl⟩
  | 22, _, _ => ⟨(bin_eqlS _ _).trans (by kernel_rfl), by kernel_rfl, by kernel_rfl, by kernel_rfl⟩
  | 23, _, _ => ⟨(bin_eqlS _ _).trans (by kernel_rfl), by kernel_rfl, by kernel_rfl, by kernel_rfl⟩
  | 24, _, _ => ⟨(bin_eqlS _ _).trans (by kernel_rfl), by kernel_rfl, by kernel_rfl, by kernel_rfl⟩
  | 25, _, _ => ⟨(bin_eqlS _ _).trans (by kernel_rfl), by kernel_rfl, by kernel_rfl, by kernel_rfl⟩
  | 26, _, _ => ⟨(bin_eqlS _ _).trans (by kernel_rfl), by kernel_rfl, by kernel_rfl, by kernel_rfl⟩
  | 27, _, _ => ⟨(bin_eqlS _ _).trans (by kernel_rfl), by kernel_rfl, by kernel_rfl, by kernel_rfl⟩
  | 28, _, _ => ⟨(bin_eqlS _ _).trans (by kernel_rfl), by kernel_rfl, by kernel_rfl, by kernel_rfl⟩
  | 29, _, _ => ⟨(bin_eqlS _ _).trans (by kernel_rfl), by kernel_rfl, by kernel_rfl, by kernel_rfl⟩
  | 30, _, _ => ⟨(bin_eqlS _ _).trans (by kernel_rfl), by kernel_rfl, by kernel_rfl, by kernel_rfl⟩
  | 31, _, _ => ⟨(bin_eqlS _ _).trans (by kernel_rfl), by kernel_rfl, by kernel_rfl, by kernel_rfl⟩
  | 32, _, _ => ⟨(bin_eqlS _ _).trans (by kernel_rfl), by kernel_rfl, by kernel_rfl, by kernel_rfl⟩
  | 33, _, _ => ⟨(bin_eqlS _ _).trans (by kernel_rfl), by kernel_rfl, by kernel_rfl, by kernel_rfl⟩
  | 34, _, _ => ⟨(bin_eqlS _ _).trans (by kernel_rfl), by kernel_rfl, by kernel_rfl, by kernel_rfl⟩
  | 35, _, _ => ⟨(bin_eqlS _ _).trans (by kernel_rfl), by kernel_rfl, by kernel_rfl, by kernel_rfl⟩
  | 36, _, _ => ⟨(bin_eqlS _ _).trans (by kernel_rfl), by kernel_rfl, by kernel_rfl, by kernel_rfl⟩
  | 37, _, _ => ⟨(bin_eqlS _ _).trans (by kernel_rfl), by kernel_rfl, by kernel_rfl, by kernel_rfl⟩
  | 38, _, _ => ⟨(bin_eqlS _ _).trans (by kernel_rfl), by kernel_rfl, by kernel_rfl, by kernel_rfl⟩
  | n + 39, _, h => absurd h (by omega)
theorem form_at {op : Int} (h : 1 ≤ op ∧ op < 39) : bin .eql .str (.p (formP op)) (.p (.v (.string ⟨#[]⟩))) = some (B false) ∧ strAt (.p (formP op)) (I 0) = some (U (fc op).1) ∧ strAt (.p (formP op)) (I 1) = some (U (fc op).2.1) ∧ strAt (.p (formP op)) (I 2) = some (U (fc op).2.2) := by
  have := form_ne op.toNat (by omega) (by omega)
  rwa [show ((op.toNat : Nat) : Int) = op by omega] at this

/-! ### Two boxes -/
theorem box12 (ys : List PV) (o : AObj) : boxO [] (AV.cells (.agg (ys.map .p))) [o] = some (.ptr 1 0, [o, .box (ys.map .p)]) := boxO_p ys [o]
theorem ldB02 (xs : List PV) (n j : Nat) (o : AObj) : ld false n (.ptr 0 j) [.box (xs.map .p), o] = (xs[j]?).map .p := by rw [ld_box (xs := xs.map .p) rfl, List.getElem?_map]
theorem ldB12 (xs : List PV) (n j : Nat) (o : AObj) : ld false n (.ptr 1 j) [o, .box (xs.map .p)] = (xs[j]?).map .p := by rw [ld_box (xs := xs.map .p) rfl, List.getElem?_map]
theorem ldA02 {xs : List PV} {n : Nat} (h : xs.length = n) (h0 : 0 < n) (o : AObj) : ld true n (.ptr 0 0) [.box (xs.map .p), o] = some (.agg (xs.map .p)) := by
  rw [ldAgg_box (xs := xs.map .p) rfl (by simp; omega) (by simp; omega), List.drop_zero, List.take_of_length_le (by simp; omega)]

abbrev inV (i : A_Ins) : AV := .agg ((enc_Ins i).map .p)
abbrev fnV (f : A_Fn) : AV := .agg ((enc_Fn f).map .p)
section
variable (i : A_Ins)
theorem in0 : (enc_Ins i)[0]? = some (Ia i.1) := _root_.id rfl
theorem in1 : (enc_Ins i)[1]? = some (Ia i.2.1) := _root_.id rfl
theorem in2 : (enc_Ins i)[2]? = some (Ia i.2.2.1) := _root_.id rfl
theorem in3 : (enc_Ins i)[3]? = some (Ia i.2.2.2.1) := _root_.id rfl
theorem in4 : (enc_Ins i)[4]? = some (Ia i.2.2.2.2) := _root_.id rfl
end
variable (p : A_Prog) (f : A_Fn)
theorem fn0 : (enc_Fn f)[0]? = some (Ia f.1) := _root_.id rfl
theorem fn1 : (enc_Fn f)[1]? = some (Ia f.2.1) := _root_.id rfl
theorem fn2 : (enc_Fn f)[2]? = some (.v (.bool f.2.2.1)) := _root_.id rfl
theorem fn3 : (enc_Fn f)[3]? = some (.sl f.2.2.2.1.1 false f.2.2.2.1.2.length (f.2.2.2.1.2.map Ia)) := _root_.id rfl
theorem fn4 : (enc_Fn f)[4]? = some (.sl f.2.2.2.2.1 false f.2.2.2.2.2.length (f.2.2.2.2.2.flatMap enc_Ins)) := _root_.id rfl
theorem len_Fn5 (f : A_Fn) : (enc_Fn f).length = 5 := rfl
theorem len_Ins5 (i : A_Ins) : (enc_Ins i).length = 5 := rfl

/-- A list's element. -/
theorem idxL {sz : Nat} {nl : Option Bool} {t : Bool} {n : Nat} {xs : List PV} {i : Int} (h : 0 ≤ i ∧ i < n) : idxA sz (.p (.sl nl t n xs)) (I i) = some (.fp xs (i.toNat * sz)) := idxA_sl h
theorem ldRow {α : Type} {enc : α → List PV} {k : Nat} (he : ∀ x, (enc x).length = k) (hk : 0 < k) {l : List α} {i : Nat} (h : i < l.length) (H : Heap) : ld true k (.fp (l.flatMap enc) (i * k)) H = some (.agg ((enc l[i]).map .p)) := by
  rw [ldAgg_fp, rows_part he (List.getElem?_eq_getElem h)]
  rw [rows_length he]
  calc i * k + k = (i + 1) * k := by rw [Nat.add_mul, Nat.one_mul]
    _ ≤ l.length * k := Nat.mul_le_mul_right _ h

theorem callV_fn (g : FuncId) (a c xs : List AV) (lo : List Nat) (H : Heap) : callV cfg O (.fn g a c) xs lo H = callA cfg O g (a ++ xs ++ c) lo H := rfl
theorem call164 (z : Int) (o : AObj) (lo : List Nat) : ∃ b, callA cfg O 134 [I z, .ptr 0 0] lo [.box ((lkE p f).map .p), o] = some (B b, [.box ((lkE p f).map .p), o]) := by
  cases h : wi z 0 (wr (f.2.1 - 1)) with
  | true =>
    refine ⟨false, callA_same (rs := [B false]) rfl ?_⟩
    rw [f134_eq]
    simp only [ldA02 (lk_len p f) (by decide), call141, h, core]
    exact leave3_p (.v (.bool false)) lo _
  | false =>
    refine ⟨!wi z (wr (0 - (f.2.2.2.1.2.length : Int))) (-1), callA_same (rs := [B _]) rfl ?_⟩
    rw [f134_eq]
    have hu : ∀ n : Int, un .neg (I n) = some (I (wr (0 - n))) := fun n => rfl
    simp only [ldA02 (lk_len p f) (by decide), call141, h, Nat.zero_add, Nat.reduceAdd, ldB02, lk6, hu, call139, core]
    exact leave3_p (.v (.bool _)) lo _
theorem call142 (g : A_Fn) (hg : g.2.2.2.1.2.length < 2 ^ 63) (lo : List Nat) (H : Heap) : ∃ b, callA cfg O 94 [lkV p f, fnV g] lo H = some (B b, H) := by
  have asked : Asked false 1 (V g.2.2.2.1.1 false g.2.2.2.1.2) (.fn 134 [] [.ptr 0 0]) g.2.2.2.1.2.length [.box ((lkE p f).map .p), .box ((enc_Fn g).map .p)] := by
    intro i hi
    refine ⟨_, _, idxV hi, ldV hi _, fun lo => ?_⟩
    exact call164 p f _ _ lo
  obtain ⟨b, hb⟩ := call71 hg (lenA_sl _ _ _ _) asked []
  refine ⟨!b, callA_args (H' := []) (rs := [B (!b)]) rfl (pureArgsC (pureAgg _ _) (pureArgs1 (pureAgg _ _))) ?_ rfl⟩
  rw [f94_eq]
  simp only [boxAgg0, box12, ldB12, fn3, Nat.zero_add, hb, core, leave0_B]

/-- What is sure of an order that is right. -/
def Good (n : Nat) (i : A_Ins) : Prop := (i.1 = 13 ∨ i.1 = 14 → 0 ≤ i.2.1 ∧ i.2.1 < n) ∧ (i.1 = 15 ∨ i.1 = 30 → 0 ≤ i.2.2.1 ∧ i.2.2.1 < n)
structure POk (p : A_Prog) : Prop where
  fns : p.1.2.length < 2 ^ 63
  each : ∀ g ∈ p.1.2, g.2.2.2.1.2.length < 2 ^ 63 ∧ g.2.2.2.2.2.length < 2 ^ 63
theorem call98 (hp : POk p) (hf : f.2.2.2.2.2.length < 2 ^ 63) (at' : Int) (i : A_Ins) : ∃ b, (∀ lo H, callA cfg O 54 [lkV p f, I at', inV i] lo H = some (B b, H)) ∧ (b = true → Good f.2.2.2.2.2.length i) := by
  suffices h : ∃ b, O.ent 54 [lkV p f, I at', inV i] [] [] = some ([B b], []) ∧ (b = true → Good f.2.2.2.2.2.length i) by
    obtain ⟨b, h1, h2⟩ := h
    exact ⟨b, fun lo H => callA_args (H' := []) (rs := [B b]) rfl (pureArgsC (pureAgg _ _) (pureArgsC (pureP _ _) (pureArgs1 (pureAgg _ _)))) h1 rfl, h2⟩
  have no : ∀ {r : Res}, r = some ([B false], []) → ∃ b, r = some ([B b], []) ∧ (b = true → Good f.2.2.2.2.2.length i) := fun h => ⟨false, h, fun e => by cases e⟩
  by_cases ho : 1 ≤ i.1 ∧ i.1 < 39
  case neg =>
    apply no
    rw [f54_eq]
    simp only [boxAgg0, box12, ldB12, in0, Nat.zero_add, call138_out ho, emp_eq, core, leave0_B]
  obtain ⟨e0, e1, e2, e3⟩ := form_at ho
  cases w0 : wi i.2.2.2.2 0 2000 with
  | false =>
    apply no
    rw [f54_eq]
    simp only [boxAgg0, box12, ldB12, in0, in4, Nat.zero_add, call138_in ho, e0, call139, w0, core, leave0_B]
  | true =>
  cases w1 : nm p f (fc i.1).1 i.2.1 with
  | false =>
    apply no
    rw [f54_eq]
    simp only [boxAgg0, box12, ldB12, ldA02 (lk_len p f) (by decide), in0, in1, in4, Nat.zero_add, call138_in ho, e0, e1, call139, call140, w0, w1, core, leave0_B]
  | true =>
  cases w2 : nm p f (fc i.1).2.1 i.2.2.1 with
  | false =>
    apply no
    rw [f54_eq]
    simp only [boxAgg0, box12, ldB12, ldA02 (lk_len p f) (by decide), in0, in1, in2, in4, Nat.zero_add, call138_in ho, e0, e1, e2, call139, call140, w0, w1, w2, core, leave0_B]
  | true =>
  cases w3 : nm p f (fc i.1).2.2 i.2.2.2.1 with
  | false =>
    apply no
    rw [f54_eq]
    simp only [boxAgg0, box12, ldB12, ldA02 (lk_len p f) (by decide), in0, in1, in2, in3, in4, Nat.zero_add, call138_in ho, e0, e1, e2, e3, call139, call140, w0, w1, w2, w3, core, leave0_B]
  | true =>
  have w : wr ((f.2.2.2.2.2.length : Int) - 1) = f.2.2.2.2.2.length - 1 := wrap_id (by omega)
  have good : Good f.2.2.2.2.2.length i := by
    refine ⟨fun h => ?_, fun h => ?_⟩
    · have : (fc i.1).1 = 97 := by rcases h with h | h <;> rw [h] <;> rfl
      rw [this] at w1
      have : nm p f 97 i.2.1 = wi i.2.1 0 (wr ((f.2.2.2.2.2.length : Int) - 1)) := rfl
      rw [this, w, wi_iff] at w1
      omega
    · have : (fc i.1).2.1 = 97 := by rcases h with h | h <;> rw [h] <;> rfl
      rw [this] at w2
      have : nm p f 97 i.2.2.1 = wi i.2.2.1 0 (wr ((f.2.2.2.2.2.length : Int) - 1)) := rfl
      rw [this, w, wi_iff] at w2
      omega
  suffices h : ∃ b, O.ent 54 [lkV p f, I at', inV i] [] [] = some ([B b], []) from h.imp fun b h => ⟨h, fun _ => good⟩
  rw [f54_eq]
  by_cases q1 : i.1 = 14
  · refine ⟨decide (i.2.1 ≤ at'), ?_⟩
    simp only [boxAgg0, box12, ldB12, ldA02 (lk_len p f) (by decide), in0, in1, in2, in3, in4, Nat.zero_add, call138_in ho, e0, e1, e2, e3, call139, call140, w0, w1, w2, w3, core, leave0_B]
    simp only [q1, core, leave0_B]
  by_cases q2 : i.1 = 19
  · refine ⟨decide (wr (i.2.2.1 + i.2.2.2.1) ≤ f.2.1), ?_⟩
    simp only [boxAgg0, box12, ldB02, ldB12, lk4, ldA02 (lk_len p f) (by decide), in0, in1, in2, in3, in4, Nat.zero_add, Nat.reduceAdd, call138_in ho, e0, e1, e2, e3, call139, call140, w0, w1, w2, w3, core, leave0_B]
    simp only [q2, Int.reduceEq, core, leave0_B]
  by_cases q3 : i.1 = 27
  · refine ⟨wi (wr (i.2.2.1 + i.2.2.2.1)) 0 (wr (f.2.1 - 1)), ?_⟩
    simp only [boxAgg0, box12, ldB02, ldB12, lk4, ldA02 (lk_len p f) (by decide), in0, in1, in2, in3, in4, Nat.zero_add, Nat.reduceAdd, call138_in ho, e0, e1, e2, e3, call139, call140, call141, w0, w1, w2, w3, core, leave0_B]
    simp only [q3, Int.reduceEq, core, leave0_B]
  by_cases q4 : i.1 = 26
  · have hb : 1 ≤ i.2.2.1 ∧ i.2.2.1 < p.1.2.length := by
      have : (fc i.1).2.1 = 102 := by rw [q4]; rfl
      rw [this] at w2
      have : nm p f 102 i.2.2.1 = wi i.2.2.1 1 (wr ((p.1.2.length : Int) - 1)) := rfl
      have hl := hp.fns
      rw [this, show wr ((p.1.2.length : Int) - 1) = p.1.2.length - 1 from wrap_id (by omega), wi_iff] at w2
      omega
    have hi : i.2.2.1.toNat < p.1.2.length := by omega
    obtain ⟨b, hb2⟩ := call142 p f p.1.2[i.2.2.1.toNat] (hp.each _ (List.getElem_mem hi)).1 [] [.box ((lkE p f).map .p), .box ((enc_Ins i).map .p)]
    refine ⟨b, ?_⟩
    simp only [boxAgg0, box12, ldB02, ldB12, lk0, lk4, ldA02 (lk_len p f) (by decide), in0, in1, in2, in3, in4, Nat.zero_add, Nat.reduceAdd, call138_in ho, e0, e1, e2, e3, call139, call140, call141, w0, w1, w2, w3, idxL (show 0 ≤ i.2.2.1 ∧ i.2.2.1 < p.1.2.length by omega), ldRow len_Fn5 (by decide) hi, hb2, core, leave0_B]
    simp only [q4, Int.reduceEq, core, leave0_B]
  by_cases q5 : i.1 = 32
  · refine ⟨f.2.2.1, ?_⟩
    simp only [boxAgg0, box12, ldB02, ldB12, lk5, ldA02 (lk_len p f) (by decide), in0, in1, in2, in3, in4, Nat.zero_add, Nat.reduceAdd, call138_in ho, e0, e1, e2, e3, call139, call140, call141, w0, w1, w2, w3, core, leave0_B]
    simp only [q5, Int.reduceEq, core, leave0_B]
  refine ⟨true, ?_⟩
  simp only [boxAgg0, box12, ldB02, ldB12, lk5, ldA02 (lk_len p f) (by decide), in0, in1, in2, in3, in4, Nat.zero_add, Nat.reduceAdd, call138_in ho, e0, e1, e2, e3, call139, call140, call141, w0, w1, w2, w3, q1, q2, q3, q4, q5, core, leave0_B]

end Ir
end Go.Proofs.YtfdnamedmjhcfaaDoor

set_option linter.unusedVariables false
set_option linter.unusedSimpArgs false
set_option maxRecDepth 100000
namespace Go.Proofs.YtfdnamedmjhcfaaDoor
open Go Go.AM
namespace Ir

/-! ### Lists of tries -/
def eT (q : Int × Int) : List PV := [Ia q.1, Ia q.2]
theorem eT_len (q : Int × Int) : (eT q).length = 2 := rfl
abbrev tC (l : List (Int × Int)) : List PV := l.flatMap eT
theorem tC_len (l : List (Int × Int)) : (tC l).length = l.length * 2 := rows_length eT_len l
theorem neqT (a b c d : Int) : bin .neq (.agg 2 [(0, .int), (1, .int)]) (.agg [I a, I b]) (.agg [I c, I d]) = some (B !(a == c && (b == d && true))) := rfl
theorem ent165 {n1 n2 : Option Bool} {t1 t2 : Bool} (l m : List (Int × Int)) (hl : l.length < 2 ^ 63) : ∃ b, O.ent 135 [.p (.sl n1 t1 l.length (tC l)), .p (.sl n2 t2 m.length (tC m))] [] [] = some ([B b], []) := by
  rw [f135_eq]
  by_cases h : (l.length : Int) = m.length
  · have go : ∀ (c i : Nat), l.length - i = c → i ≤ l.length → ∃ b, L135_10 [.p (.sl n1 t1 l.length (tC l)), .p (.sl n2 t2 m.length (tC m)), I l.length, I i] [] [] = some ([B b], []) := by
      intro c
      induction c with
      | zero =>
        intro i hc hi
        have : i = l.length := by omega
        subst this
        refine ⟨true, ?_⟩
        rw [L135_10_eq]
        simp only [Int.lt_irrefl, core, leave0_B]
      | succ c ih =>
        intro i hc hi
        have h1 : i < l.length := by omega
        have h2 : i < m.length := by omega
        have hlt : (i : Int) < l.length := by omega
        have hlt2 : (i : Int) < m.length := by omega
        have w : IntKind.i64.wrap ((i : Int) + 1) = ((i + 1 : Nat) : Int) := by rw [wrap_id (by omega), nxt]
        have i1 := idxL (sz := 2) (nl := n1) (t := t1) (n := l.length) (xs := tC l) (i := (i : Int)) ⟨by omega, hlt⟩
        have i2 := idxL (sz := 2) (nl := n2) (t := t2) (n := m.length) (xs := tC m) (i := (i : Int)) ⟨by omega, hlt2⟩
        have q1 : ld true 2 (.fp (tC l) (i * 2)) [] = some (.agg [I l[i].1, I l[i].2]) := ldRow eT_len (by decide) h1 []
        have q2 : ld true 2 (.fp (tC m) (i * 2)) [] = some (.agg [I m[i].1, I m[i].2]) := ldRow eT_len (by decide) h2 []
        rw [Int.toNat_natCast] at i1 i2
        rw [L135_10_eq]
        cases hb : !(l[i].1 == m[i].1 && (l[i].2 == m[i].2 && true)) with
        | true =>
          refine ⟨false, ?_⟩
          simp only [hlt, i1, i2, q1, q2, neqT, hb, core, leave0_B]
        | false =>
          obtain ⟨b, hr⟩ := ih (i + 1) (by omega) (by omega)
          refine ⟨b, ?_⟩
          simp only [hlt, i1, i2, q1, q2, neqT, hb, w, core, leave0_B]
          exact hr
    obtain ⟨b, hb⟩ := go l.length 0 (by omega) (by omega)
    refine ⟨b, ?_⟩
    simp only [← h, core]
    exact hb
  · refine ⟨false, ?_⟩
    simp only [h, core, leave0_B]

/-- A list of tries that is frozen. -/
def TP (x : PV) : Prop := ∃ b tg l, x = .sl (some b) tg l.length (tC l) ∧ (b = true → l = []) ∧ l.length ≤ 20
theorem TP.nil : TP nilS := ⟨true, true, [], rfl, fun _ => rfl, by simp⟩
/-- A list of tries, frozen or this call's own. -/
def TL (H : Heap) (todo : AV) (l : List (Int × Int)) (a : AV) : Prop :=
  (∃ b tg, a = .p (.sl (some b) tg l.length (tC l)) ∧ (b = true → l = [])) ∨ ∃ id g, a = .row id g 0 l.length ∧ 4 ≤ id ∧ H[id]? = some (.row g 2 (tC l)) ∧ 0 < l.length ∧ ∀ g' n', todo ≠ .row id g' 0 n'
/-- What is to be done. -/
def TD (H : Heap) (todo : AV) (tl : List Int) : Prop :=
  (todo = .p nilS ∧ tl = []) ∨ ∃ id g xs, todo = .row id g 0 tl.length ∧ 4 ≤ id ∧ H[id]? = some (.row g 1 xs) ∧ xs.take tl.length = tl.map Ia

theorem TD.app {H : Heap} {todo : AV} {tl : List Int} (h : TD H todo tl) (hl : tl.length < 2 ^ 40) (h4 : 4 ≤ H.length) (z : Int) :
    ∃ todo' H', appA 1 8 todo (.p (.sl (some false) true 1 [Ia z])) H = some (todo', H') ∧ TD H' todo' (tl ++ [z]) ∧ H.length ≤ H'.length ∧ ∀ (id : Nat) o, H[id]? = some o → (∀ g n, todo ≠ .row id g 0 n) → H'[id]? = some o := by
  have hc : appA 1 8 todo (.p (.sl (some false) true 1 [Ia z])) H = appTo 1 8 todo 1 [Ia z] H := rfl
  rw [hc]
  rcases h with ⟨rfl, rfl⟩ | ⟨id, g, xs, rfl, hid, ho, hx⟩
  · refine ⟨.row H.length 0 0 1, H ++ [.row 0 1 [Ia z]], rfl, .inr ⟨H.length, 0, [Ia z], rfl, h4, by simp, rfl⟩, by simp, fun id o ho _ => push_get? ho _⟩
  · have hlt := getElem?_lt ho
    have hle : tl.length ≤ xs.length := by
      have := congrArg List.length hx
      simp only [List.length_take, List.length_map] at this
      omega
    refine ⟨.row id (g + 1) 0 (tl.length + 1), H.set id (.row (g + 1) 1 (tl.map Ia ++ [Ia z])), ?_, .inr ⟨id, g + 1, _, by simp, hid, by simp [hlt]; rfl, ?_⟩, by simp, ?_⟩
    · simp only [appTo, ho]
      rw [if_pos ⟨trivial, trivial, by omega, by unfold room; omega⟩]
      simp only [List.drop_zero, Nat.mul_one, hx]
    · rw [List.take_of_length_le (by simp)]; simp
    · intro j o hj hn
      rw [List.getElem?_set_ne]
      · exact hj
      · rintro rfl; exact hn g _ rfl
theorem TD.keep {H H' : Heap} {todo : AV} {tl : List Int} (h : TD H todo tl) (hk : ∀ (id : Nat) o, 4 ≤ id → (∃ g n, todo = .row id g 0 n) → H[id]? = some o → H'[id]? = some o) : TD H' todo tl := by
  rcases h with h | ⟨id, g, xs, rfl, hid, ho, hx⟩
  · exact .inl h
  · exact .inr ⟨id, g, xs, rfl, hid, hk _ _ hid ⟨_, _, rfl⟩ ho, hx⟩

/-- A list of tries is put into its place. -/
theorem putOut {H : Heap} {todo a : AV} {l : List (Int × Int)} {out : List PV} {j : Nat} (ha : TL H todo l a) (hl : l.length ≤ 20) (h2 : H[2]? = some (.row 0 1 out)) (hj : j < out.length) :
    ∃ H' x, stA 1 (.rptr 2 0 j) a [] H = some H' ∧ TP x ∧ H'[2]? = some (.row 0 1 (out.set j x)) ∧ H'.length = H.length ∧ ∀ (id : Nat) o, id ≠ 2 → H[id]? = some o → (∀ g n, a ≠ .row id g 0 n) → H'[id]? = some o := by
  rcases ha with ⟨b, tg, rfl, hb⟩ | ⟨id, g, rfl, hid, ho, h0, hd⟩
  · refine ⟨_, _, stA_row h2 hj, ⟨b, tg, l, rfl, hb, hl⟩, by simp [getElem?_lt h2], by simp, fun id o hn ho _ => by rw [List.getElem?_set_ne (by omega)]; exact ho⟩
  · have hlt := getElem?_lt ho
    have hlt2 := getElem?_lt h2
    refine ⟨(H.set id (.row (g + 1) 2 [])).set 2 (.row 0 1 (out.set j (.sl (some false) false l.length (tC l)))), .sl (some false) false l.length (tC l), ?_, ⟨false, false, l, rfl, ⟨(fun e => by cases e), hl⟩⟩, by simp [hlt2], by simp, ?_⟩
    · have e2 : (H.set id (.row (g + 1) 2 []))[2]? = some (.row 0 1 out) := by rw [List.getElem?_set_ne (by omega)]; exact h2
      have et : toPVs H [.row id g 0 l.length] = some ([.sl (some false) false l.length (tC l)], H.set id (.row (g + 1) 2 [])) := by
        simp only [toPVs, toPV, ho]
        rw [if_pos ⟨trivial, by rw [tC_len]; omega⟩]
        simp only [h0, if_true, List.drop_zero, obs, oms]
        rw [List.take_of_length_le (by rw [tC_len]; omega)]
      simp only [stA, h2]
      rw [if_pos ⟨trivial, rfl, by omega⟩]
      simp only [AV.cells, et, obs, e2, and_self, if_true, splice]
    · intro k o hk hko hn
      rw [List.getElem?_set_ne (by omega), List.getElem?_set_ne]
      · exact hko
      · rintro rfl; exact hn g _ rfl

/-! ### The walk's state -/
variable (f : A_Fn)
def wb (todo : AV) (bad : Bool) : List AV := [I f.1, I f.2.1, B f.2.2.1, .p (.sl f.2.2.2.1.1 false f.2.2.2.1.2.length (f.2.2.2.1.2.map Ia)), .p (.sl f.2.2.2.2.1 false f.2.2.2.2.2.length (f.2.2.2.2.2.flatMap enc_Ins)), .row 1 0 0 f.2.2.2.2.2.length, .row 2 0 0 f.2.2.2.2.2.length, todo, B bad]
theorem wb4 (todo : AV) (bad : Bool) : (wb f todo bad)[4]? = some (.p (.sl f.2.2.2.2.1 false f.2.2.2.2.2.length (f.2.2.2.2.2.flatMap enc_Ins))) := _root_.id rfl
theorem wb5 (todo : AV) (bad : Bool) : (wb f todo bad)[5]? = some (.row 1 0 0 f.2.2.2.2.2.length) := _root_.id rfl
theorem wb6 (todo : AV) (bad : Bool) : (wb f todo bad)[6]? = some (.row 2 0 0 f.2.2.2.2.2.length) := _root_.id rfl
theorem wb7 (todo : AV) (bad : Bool) : (wb f todo bad)[7]? = some todo := _root_.id rfl
theorem wb8 (todo : AV) (bad : Bool) : (wb f todo bad)[8]? = some (B bad) := _root_.id rfl
def bC (l : List Bool) : List PV := l.map fun b => .v (.bool b)
structure Wk (H : Heap) (todo : AV) (tl : List Int) (seen : List Bool) (bad : Bool) : Prop where
  box : H[3]? = some (.box (wb f todo bad))
  sn : H[1]? = some (.row 0 1 (bC seen))
  ls : seen.length = f.2.2.2.2.2.length
  ot : ∃ out, H[2]? = some (.row 0 1 out) ∧ out.length = f.2.2.2.2.2.length ∧ ∀ x ∈ out, TP x
  td : TD H todo tl
  ti : ∀ z ∈ tl, 0 ≤ z ∧ z < f.2.2.2.2.2.length
/-- What is left to do. -/
def meas (seen : List Bool) (tl : List Int) : Nat := seen.count false + tl.length
variable {f}
theorem Wk.setBad {H : Heap} {todo : AV} {tl : List Int} {seen : List Bool} {bad : Bool} (h : Wk f H todo tl seen bad) : stA 1 (.ptr 3 8) (B true) [] H = some (H.set 3 (.box (wb f todo true))) ∧ Wk f (H.set 3 (.box (wb f todo true))) todo tl seen true := by
  have hlt := getElem?_lt h.box
  refine ⟨stA_box (n := 1) (off := 8) (y := B true) h.box rfl (by simp [wb]) rfl rfl (by simp [wb]), by simp [hlt], ?_, h.ls, ?_, ?_, h.ti⟩
  · rw [List.getElem?_set_ne (by omega)]; exact h.sn
  · obtain ⟨out, h1, h2⟩ := h.ot
    exact ⟨out, by rw [List.getElem?_set_ne (by omega)]; exact h1, h2⟩
  · exact h.td.keep fun id o hi _ ho => by rw [List.getElem?_set_ne (by omega)]; exact ho
theorem Wk.setTodo {H : Heap} {todo todo' : AV} {tl tl' : List Int} {seen : List Bool} {bad : Bool} (h : Wk f H todo tl seen bad) {H' : Heap} (hk : ∀ (id : Nat) o, id < 4 → H[id]? = some o → H'[id]? = some o) (ht : TD H' todo' tl') (hi : ∀ z ∈ tl', 0 ≤ z ∧ z < f.2.2.2.2.2.length) (hl : todo'.leaf = true) (hc : todo'.cells = [todo']) :
    stA 1 (.ptr 3 7) todo' [] H' = some (H'.set 3 (.box (wb f todo' bad))) ∧ Wk f (H'.set 3 (.box (wb f todo' bad))) todo' tl' seen bad := by
  have hb := hk 3 _ (by omega) h.box
  have hlt := getElem?_lt hb
  refine ⟨?_, by simp [hlt], ?_, h.ls, ?_, ?_, hi⟩
  · rw [stA_box (n := 1) (off := 7) (y := todo') hb (by rw [hc]; rfl) (by simp [wb]) (by rw [hc]; simp [hl]) rfl (by simp [wb]), hc]
    rfl
  · rw [List.getElem?_set_ne (by omega)]; exact hk _ _ (by omega) h.sn
  · obtain ⟨out, h1, h2⟩ := h.ot
    exact ⟨out, by rw [List.getElem?_set_ne (by omega)]; exact hk _ _ (by omega) h1, h2⟩
  · exact ht.keep fun id o hi _ ho => by rw [List.getElem?_set_ne (by omega)]; exact ho
theorem TD.leaf {H : Heap} {todo : AV} {tl : List Int} (h : TD H todo tl) : todo.leaf = true ∧ todo.cells = [todo] := by
  rcases h with ⟨rfl, _⟩ | ⟨id, g, xs, rfl, _⟩ <;> exact ⟨rfl, rfl⟩
end Ir
end Go.Proofs.YtfdnamedmjhcfaaDoor

set_option linter.unusedVariables false
set_option linter.unusedSimpArgs false
set_option maxRecDepth 100000
namespace Go.Proofs.YtfdnamedmjhcfaaDoor
open Go Go.AM
namespace Ir
variable {f : A_Fn}
theorem nilc (id off : Nat) : nilCheckA (.ptr id off) = some (.ptr id off) := _root_.id rfl
/-- A state that another leads to. -/
def Leads (f : A_Fn) (H H' : Heap) (M : Nat) : Prop := (∃ todo tl seen bad, Wk f H' todo tl seen bad ∧ meas seen tl ≤ M) ∧ H.length ≤ H'.length ∧ ∀ (id : Nat) xs, 3 < id → H[id]? = some (.box xs) → H'[id]? = some (.box xs)

theorem TL.len {H : Heap} {todo a : AV} {l : List (Int × Int)} (h : TL H todo l a) (H' : Heap) : lenA .slice a H' = some (I l.length) := by
  rcases h with ⟨b, tg, rfl, _⟩ | ⟨id, g, rfl, _⟩ <;> rfl
theorem TL.pure {H : Heap} {todo a : AV} {l : List (Int × Int)} (h : TL H todo l a) : ∃ n t b, pureArg H a = some (.p (.sl n t l.length (tC l)), b) := by
  rcases h with ⟨b, tg, rfl, _⟩ | ⟨id, g, rfl, _, ho, _⟩
  · exact ⟨_, _, _, rfl⟩
  · refine ⟨none, false, true, ?_⟩
    show pureLeaf H (.row id g 0 l.length) = _
    simp only [pureLeaf, ho]
    rw [if_pos ⟨trivial, by rw [tC_len]; omega⟩, List.drop_zero, List.take_of_length_le (by rw [tC_len]; omega)]
theorem TL.notRow {H : Heap} {todo a : AV} {l : List (Int × Int)} (h : TL H todo l a) {H' : Heap} {tl : List Int} (ht : TD H' todo tl) {id : Nat} {o : AObj} (hid : id < 4 ∨ (∃ xs, H[id]? = some (.box xs)) ∨ ∃ g n, todo = .row id g 0 n) : ∀ g n, a ≠ .row id g 0 n := by
  rcases h with ⟨b, tg, rfl, _⟩ | ⟨id', g', rfl, h4, ho, h0, hd⟩
  · intro g n e; cases e
  · intro g n e
    cases e
    rcases hid with h | ⟨xs, h⟩ | ⟨g, n, h⟩
    · omega
    · rw [h] at ho; cases ho
    · exact hd _ _ h

theorem call165 {H : Heap} {todo a : AV} {l : List (Int × Int)} (h : TL H todo l a) {x : PV} (hx : TP x) : ∃ b, callA cfg O 135 [.p x, a] [] H = some (B b, H) := by
  obtain ⟨b1, tg, m, rfl, _, hm⟩ := hx
  obtain ⟨n, t, b2, hp⟩ := h.pure
  obtain ⟨b, hb⟩ := ent165 (n1 := some b1) (n2 := n) (t1 := tg) (t2 := t) m l (by omega)
  refine ⟨b, callA_rows (rs := [B b]) (ys := [.p (.sl (some b1) tg m.length (tC m)), .p (.sl n t l.length (tC l))]) (b := b2) rfl ?_ hb rfl rfl⟩
  show (pureArg H _).bind _ = _
  rw [show pureArg H (.p (.sl (some b1) tg m.length (tC m))) = some (.p (.sl (some b1) tg m.length (tC m)), false) from rfl, obs]
  show ((pureArg H a).bind _).map _ = _
  rw [hp]
  simp only [obs, oms, pureArgs, Bool.false_or, Bool.or_false]

theorem bC_get {seen : List Bool} {j : Nat} (h : j < seen.length) : (bC seen)[j]? = some (.v (.bool seen[j])) := by
  rw [bC, List.getElem?_map, List.getElem?_eq_getElem h]; rfl
theorem bC_set (seen : List Bool) (j : Nat) (b : Bool) : (bC seen).set j (.v (.bool b)) = bC (seen.set j b) := by
  rw [bC, bC, List.map_set]
theorem count_set : ∀ (l : List Bool) (j : Nat) (h : j < l.length), l[j] = false → (l.set j true).count false + 1 = l.count false
  | [], j, h, _ => absurd h (by simp)
  | x :: l, 0, h, e => by simp only [List.getElem_cons_zero] at e; subst e; simp
  | x :: l, j + 1, h, e => by
    simp only [List.getElem_cons_succ] at e
    have := count_set l j (by simpa using h) e
    simp only [List.set_cons_succ, List.count_cons]
    omega

theorem come {H : Heap} {todo a : AV} {tl : List Int} {seen : List Bool} {bad : Bool} {l : List (Int × Int)} (h : Wk f H todo tl seen bad) (hn : f.2.2.2.2.2.length < 2 ^ 30) (htl : meas seen tl < 2 ^ 35) {z : Int} (hz : 0 ≤ z) (ha : TL H todo l a) (hl : l.length < 2 ^ 40) :
    ∃ H', callA cfg O 95 [.ptr 3 0, I z, a] [] H = some (.tup [], H') ∧ Leads f H H' (meas seen tl) := by
  suffices hs : ∃ H', O.ent 95 [.ptr 3 0, I z, a] [] H = some ([], H') ∧ Leads f H H' (meas seen tl) by
    obtain ⟨H', h1, h2⟩ := hs
    exact ⟨H', callA_keep (rs := []) rfl h1, h2⟩
  have hlv : ∀ H', leave 1 [] [] H' = some ([], H') := fun _ => rfl
  have h3 := getElem?_lt h.box
  obtain ⟨sb1, sb2⟩ := h.setBad
  have badL : Leads f H (H.set 3 (.box (wb f todo true))) (meas seen tl) := ⟨⟨_, _, _, _, sb2, Nat.le_refl _⟩, by simp, fun id xs hi ho => by rw [List.getElem?_set_ne (by omega)]; exact ho⟩
  rw [f95_eq]
  by_cases c1 : (f.2.2.2.2.2.length : Int) ≤ z
  · refine ⟨_, ?_, badL⟩
    simp only [nilc, ld_box h.box, wb4, Nat.zero_add, Nat.reduceAdd, c1, sb1, hlv, core]
  by_cases c2 : (20 : Int) < l.length
  · refine ⟨_, ?_, badL⟩
    simp only [nilc, ld_box h.box, wb4, Nat.zero_add, Nat.reduceAdd, c1, c2, ha.len, sb1, hlv, core]
  have hj : z.toNat < f.2.2.2.2.2.length := by omega
  have hj1 : z.toNat < seen.length := by rw [h.ls]; exact hj
  have e17 : idxA 1 (.row 1 0 0 f.2.2.2.2.2.length) (I z) = some (.rptr 1 0 z.toNat) := by rw [idxA_row ⟨hz, by omega⟩, Nat.zero_add, Nat.mul_one]
  have e28 : idxA 1 (.row 2 0 0 f.2.2.2.2.2.length) (I z) = some (.rptr 2 0 z.toNat) := by rw [idxA_row ⟨hz, by omega⟩, Nat.zero_add, Nat.mul_one]
  have e18 : ld false 1 (.rptr 1 0 z.toNat) H = some (B seen[z.toNat]) := by rw [ld_row h.sn, bC_get hj1]; rfl
  obtain ⟨out, ho, hol, hop⟩ := h.ot
  have hj2 : z.toNat < out.length := by rw [hol]; exact hj
  cases hsj : seen[z.toNat] with
  | true =>
    have hx : out[z.toNat]? = some out[z.toNat] := List.getElem?_eq_getElem hj2
    have e42 : ld false 1 (.rptr 2 0 z.toNat) H = some (.p out[z.toNat]) := by rw [ld_row ho, hx]; rfl
    obtain ⟨b, hb⟩ := call165 ha (hop _ (List.getElem_mem hj2))
    cases b with
    | true =>
      refine ⟨H, ?_, ⟨⟨_, _, _, _, h, Nat.le_refl _⟩, Nat.le_refl _, fun _ _ _ h => h⟩⟩
      simp only [nilc, ld_box h.box, wb4, wb5, wb6, Nat.zero_add, Nat.reduceAdd, c1, c2, ha.len, e17, e28, e18, e42, hsj, hb, hlv, core]
    | false =>
      refine ⟨_, ?_, badL⟩
      simp only [nilc, ld_box h.box, wb4, wb5, wb6, Nat.zero_add, Nat.reduceAdd, c1, c2, ha.len, e17, e28, e18, e42, hsj, hb, sb1, hlv, core]
  | false =>
    have s1 : stA 1 (.rptr 1 0 z.toNat) (B true) [] H = some (H.set 1 (.row 0 1 (bC (seen.set z.toNat true)))) := by
      rw [stA_row h.sn (by rw [bC, List.length_map]; exact hj1), bC_set]
    have hlt1 := getElem?_lt h.sn
    have k1 : ∀ (id : Nat) o, id ≠ 1 → H[id]? = some o → (H.set 1 (.row 0 1 (bC (seen.set z.toNat true))))[id]? = some o := fun id o hi ho => by rw [List.getElem?_set_ne (by omega)]; exact ho
    have ha1 : TL (H.set 1 (.row 0 1 (bC (seen.set z.toNat true)))) todo l a := by
      rcases ha with h | ⟨id, g, rfl, h4, ho, h0, hd⟩
      · exact .inl h
      · exact .inr ⟨id, g, rfl, h4, k1 _ _ (by omega) ho, h0, hd⟩
    obtain ⟨H2, x, s2, hx, q2, ql, k2⟩ := putOut ha1 (by omega) (k1 2 _ (by omega) ho) hj2
    have nr : ∀ id, id < 4 → ∀ g n, a ≠ .row id g 0 n := fun id hi => ha.notRow h.td (o := .hole) (.inl hi)
    have nt : ∀ id, id < 4 → ∀ g n, todo ≠ .row id g 0 n := fun id hi g n e => by
      rcases h.td with ⟨e', _⟩ | ⟨id', g', xs, e', h4, _⟩
      · rw [e'] at e; cases e
      · rw [e'] at e; cases e; omega
    have w2 : ∀ (id : Nat) o, id ≠ 1 → id ≠ 2 → H[id]? = some o → (∀ g n, a ≠ .row id g 0 n) → H2[id]? = some o := fun id o h1 h2 ho hr => k2 id o h2 (k1 id o h1 ho) hr
    have td2 : TD H2 todo tl := h.td.keep fun id o hi ht ho => w2 id o (by omega) (by omega) ho (ha.notRow h.td (o := .hole) (.inr (.inr ht)))
    have W2 : Wk f H2 todo tl (seen.set z.toNat true) bad := by
      refine ⟨w2 3 _ (by omega) (by omega) h.box (nr 3 (by omega)), ?_, by rw [List.length_set]; exact h.ls, ⟨_, q2, by rw [List.length_set]; exact hol, ?_⟩, td2, h.ti⟩
      · exact k2 1 _ (by omega) (by simp [hlt1]) (nr 1 (by omega))
      · intro y hy
        rcases List.mem_or_eq_of_mem_set hy with h | h
        · exact hop y h
        · rw [h]; exact hx
    have cs := count_set seen z.toNat hj1 hsj
    unfold meas at htl
    obtain ⟨todo', H3, s3, td3, hlen3, k3⟩ := td2.app (by omega) (by rw [ql]; simp; omega) z
    obtain ⟨s4, W4⟩ := W2.setTodo (H' := H3) (todo' := todo') (tl' := tl ++ [z]) (fun id o hi ho => k3 id o ho (nt id hi)) td3 (by
      intro y hy
      rcases List.mem_append.mp hy with h' | h'
      · exact h.ti y h'
      · have : y = z := by simpa using h'
        subst this; exact ⟨hz, by omega⟩) td3.leaf.1 td3.leaf.2
    refine ⟨_, ?_, ⟨⟨_, _, _, _, W4, ?_⟩, ?_, ?_⟩⟩
    · simp only [nilc, ld_box h.box, ld_box W2.box, wb4, wb5, wb6, wb7, Nat.zero_add, Nat.reduceAdd, c1, c2, ha.len, e17, e28, e18, hsj, s1, s2, lit1, s3, s4, hlv, core]
    · unfold meas; simp only [List.length_append, List.length_cons, List.length_nil]; omega
    · simp only [List.length_set] at ql ⊢; omega
    · intro id xs hi hb
      have hnt : ∀ g n, todo ≠ .row id g 0 n := fun g n e => by
        rcases h.td with ⟨e', _⟩ | ⟨id', g', xs', e', h4, ho', _⟩
        · rw [e'] at e; cases e
        · rw [e'] at e; cases e; rw [hb] at ho'; cases ho'
      rw [List.getElem?_set_ne (by omega)]
      exact k3 id _ (w2 id _ (by omega) (by omega) hb (ha.notRow h.td (o := .hole) (.inr (.inl ⟨_, hb⟩)))) hnt
end Ir
end Go.Proofs.YtfdnamedmjhcfaaDoor

set_option linter.unusedVariables false
set_option linter.unusedSimpArgs false
set_option maxRecDepth 100000
namespace Go.Proofs.YtfdnamedmjhcfaaDoor
open Go Go.AM
namespace Ir
variable {f : A_Fn}
theorem Wk.ext {H H' : Heap} {todo : AV} {tl : List Int} {seen : List Bool} {bad : Bool} (h : Wk f H todo tl seen bad) (hk : ∀ (id : Nat) o, H[id]? = some o → H'[id]? = some o) : Wk f H' todo tl seen bad := by
  obtain ⟨out, h1, h2⟩ := h.ot
  exact ⟨hk _ _ h.box, hk _ _ h.sn, h.ls, ⟨out, hk _ _ h1, h2⟩, h.td.keep fun id o _ _ ho => hk _ _ ho, h.ti⟩
theorem Leads.of {H H' : Heap} {todo : AV} {tl : List Int} {seen : List Bool} {bad : Bool} {M : Nat} (h : Wk f H' todo tl seen bad) (hm : meas seen tl ≤ M) (hl : H.length ≤ H'.length) (hk : ∀ (id : Nat) xs, 3 < id → H[id]? = some (.box xs) → H'[id]? = some (.box xs)) : Leads f H H' M := ⟨⟨_, _, _, _, h, hm⟩, hl, hk⟩
theorem Leads.pre {H H1 H' : Heap} {M : Nat} (h : Leads f H1 H' M) (hl : H.length ≤ H1.length) (hk : ∀ (id : Nat) xs, 3 < id → H[id]? = some (.box xs) → H1[id]? = some (.box xs)) : Leads f H H' M :=
  ⟨h.1, by have := h.2.1; omega, fun id xs hi ho => h.2.2 id xs hi (hk id xs hi ho)⟩
theorem Leads.mono {H H' : Heap} {M M' : Nat} (h : Leads f H H' M) (hm : M ≤ M') : Leads f H H' M' := by
  obtain ⟨⟨a, b, c, d, h1, h2⟩, h3⟩ := h
  exact ⟨⟨a, b, c, d, h1, by omega⟩, h3⟩

/-- A list of tries cloned, one more put to it. -/
theorem cloneApp {b tg : Bool} {l : List (Int × Int)} (hb : b = true → l = []) (hl : l.length < 2 ^ 40) (H : Heap) (q : Int × Int) :
    ∃ c H1, callA cfg O 136 [.p (.sl (some b) tg l.length (tC l))] [] H = some (c, H1) ∧ H.length ≤ H1.length ∧ (∀ (id : Nat) o, H[id]? = some o → H1[id]? = some o) ∧
      ∃ H3 id g, appA 2 16 c (.p (.sl (some false) true 1 (eT q))) H1 = some (.row id g 0 (l ++ [q]).length, H3) ∧ H.length ≤ id ∧ H3[id]? = some (.row g 2 (tC (l ++ [q]))) ∧ H.length ≤ H3.length ∧ ∀ (id : Nat) o, H[id]? = some o → H3[id]? = some o := by
  have hq : tC [q] = eT q := by simp
  cases b with
  | true =>
    have := hb rfl
    subst this
    have h1 : O.ent 136 [.p (.sl (some true) tg 0 [])] [] H = some ([.p nilS], H) := by rw [f136_eq]; rfl
    refine ⟨.p nilS, H, ?_, Nat.le_refl _, fun _ _ h => h, H ++ [.row 0 2 (eT q)], H.length, 0, rfl, Nat.le_refl _, by simp, by simp, fun id o ho => push_get? ho _⟩
    unfold callA
    show (O.ent 136 [.p (.sl (some true) tg 0 [])] [] H).bind (fun r => oneH H (ret r.1) r.2) = _
    rw [h1, obs]
    exact if_pos (.inl rfl)
  | false =>
    have e1 : appA 2 16 (.p (.sl (some false) true 0 [])) (.p (.sl (some false) tg l.length (tC l))) H = some (.row H.length 0 0 l.length, H ++ [.row 0 2 (tC l)]) := by
      have : cellsA 2 (.p (.sl (some false) tg l.length (tC l))) H = some (l.length, tC l) := if_pos (tC_len l)
      rw [appA, this, obs]
      show (if _ then _ else _) = _
      rw [if_neg (by simp), if_pos ⟨rfl, .inl rfl, by unfold room; omega⟩, Nat.zero_add, List.nil_append]
    have h1 : O.ent 136 [.p (.sl (some false) tg l.length (tC l))] [] H = some ([.row H.length 0 0 l.length], H ++ [.row 0 2 (tC l)]) := by
      rw [f136_eq]
      have e0 : bin .eql .slice (.p (.sl (some false) tg l.length (tC l))) (.p nilS) = some (B false) := rfl
      have e2 : litA false 2 [] H = some (.p (.sl (some false) true 0 []), H) := rfl
      simp only [e0, e1, e2, core]
      rfl
    have e3 : appA 2 16 (.row H.length 0 0 l.length) (.p (.sl (some false) true 1 (eT q))) (H ++ [AObj.row 0 2 (tC l)]) = some (AV.row H.length 1 0 (l ++ [q]).length, (H ++ [AObj.row 0 2 (tC l)]).set H.length (AObj.row 1 2 (tC (l ++ [q])))) := by
      show appTo 2 16 (.row H.length 0 0 l.length) 1 (eT q) _ = _
      simp only [appTo, List.getElem?_concat_length]
      rw [if_pos ⟨trivial, trivial, by rw [tC_len]; omega, by unfold room; omega⟩, List.drop_zero, List.take_of_length_le (by rw [tC_len]; omega)]
      simp
    refine ⟨_, _, ?_, by simp, fun id o ho => push_get? ho _, _, H.length, 1, e3, Nat.le_refl _, by simp, by simp, fun id o ho => ?_⟩
    · unfold callA
      show (O.ent 136 [.p (.sl (some false) tg l.length (tC l))] [] H).bind (fun r => oneH H (ret r.1) r.2) = _
      rw [h1, obs]
      exact if_pos (.inr ⟨_, rfl⟩)
    · rw [List.getElem?_set_ne (by have := getElem?_lt ho; omega)]
      exact push_get? ho _

theorem L35 {H : Heap} {todo a : AV} {tl : List Int} {seen : List Bool} {bad : Bool} {l : List (Int × Int)} (h : Wk f H todo tl seen bad) (hn : f.2.2.2.2.2.length < 2 ^ 30) (htl : meas seen tl < 2 ^ 35) {z : Int} (hz : 0 ≤ z ∧ z < f.2.2.2.2.2.length) (ha : TL H todo l a) (hl : l.length < 2 ^ 40) :
    ∃ H', L96_35 [.ptr 3 0, I z, a] [] H = some ([], H') ∧ Leads f H H' (meas seen tl) := by
  obtain ⟨H', h1, h2⟩ := come h hn htl (z := z + 1) (by omega) ha hl
  refine ⟨H', ?_, h2⟩
  rw [L96_35_eq]
  simp only [bin_add, obs, wrap_id (show -9223372036854775808 ≤ z + 1 ∧ z + 1 < 9223372036854775808 by omega), h1]
  rfl

theorem litP_one (x y : Int) : litP 2 [.agg [I x, I y]] = some (.p (.sl (some false) true 1 (eT (x, y)))) := rfl
theorem build2 (a b : Int) : buildA [I 0, I 0] [(0, 1, I a), (1, 1, I b)] = some (.agg [I a, I b]) := rfl
theorem cutT {b tg : Bool} {l : List (Int × Int)} (h0 : l ≠ []) (H : Heap) : ∃ tg', cutA 2 (.p (.sl (some b) tg l.length (tC l))) none (some (I ((l.length : Int) - 1))) none H = some (.p (.sl (some b) tg' l.dropLast.length (tC l.dropLast))) := by
  have hl : 0 < l.length := List.length_pos_iff.mpr h0
  refine ⟨tg && decide (((l.length : Int) - 1) = l.length), ?_⟩
  rw [cutA_hi ⟨by omega, by omega⟩]
  have e : ((l.length : Int) - 1).toNat = l.dropLast.length := by rw [List.length_dropLast]; omega
  have e2 : (tC l).take (l.dropLast.length * 2) = tC l.dropLast := by
    have h1 : tC l = tC l.dropLast ++ tC [l.getLast h0] := by rw [tC, tC, tC, ← List.flatMap_append, List.dropLast_concat_getLast h0]
    rw [h1]
    exact List.take_left' (tC_len _)
  rw [e, e2]

theorem from' {H : Heap} {todo : AV} {tl : List Int} {seen : List Bool} {bad : Bool} (h : Wk f H todo tl seen bad) (hn : f.2.2.2.2.2.length < 2 ^ 30) (htl : meas seen tl < 2 ^ 35) (h5 : 5 ≤ H.length) (hg : ∀ i ∈ f.2.2.2.2.2, Good f.2.2.2.2.2.length i) {z : Int} (hz : 0 ≤ z ∧ z < f.2.2.2.2.2.length) :
    ∃ H', callA cfg O 96 [.ptr 3 0, I z] [] H = some (.tup [], H') ∧ Leads f H H' (meas seen tl) := by
  suffices hs : ∃ H', O.ent 96 [.ptr 3 0, I z] [] H = some ([], H') ∧ Leads f H H' (meas seen tl) by
    obtain ⟨H', h1, h2⟩ := hs
    exact ⟨H', callA_keep (rs := []) rfl h1, h2⟩
  have hj : z.toNat < f.2.2.2.2.2.length := by omega
  obtain ⟨i, hi⟩ : ∃ i, f.2.2.2.2.2[z.toNat] = i := ⟨_, rfl⟩
  have gi : Good f.2.2.2.2.2.length i := hi ▸ hg _ (List.getElem_mem hj)
  obtain ⟨out, ho, hol, hop⟩ := h.ot
  have hj2 : z.toNat < out.length := by rw [hol]; exact hj
  obtain ⟨b, tg, l, hx, hbl, hl20⟩ := hop _ (List.getElem_mem hj2)
  have hlv : ∀ H', leave 1 [] [] H' = some ([], H') := fun _ => rfl
  have x5 : idxA 5 (.p (.sl f.2.2.2.2.1 false f.2.2.2.2.2.length (f.2.2.2.2.2.flatMap enc_Ins))) (I z) = some (.fp (f.2.2.2.2.2.flatMap enc_Ins) (z.toNat * 5)) := idxL hz
  have x6 : ld true 5 (.fp (f.2.2.2.2.2.flatMap enc_Ins) (z.toNat * 5)) H = some (inV i) := by rw [ldRow len_Ins5 (by decide) hj, hi]
  have x9 : ldX false 1 (.ptr 3 6) H = some (.row 2 0 0 f.2.2.2.2.2.length) := by
    show (if 3 + 1 = H.length then none else _) = _
    rw [if_neg (by omega), ld_box h.box]; rfl
  have x10 : idxA 1 (.row 2 0 0 f.2.2.2.2.2.length) (I z) = some (.rptr 2 0 z.toNat) := by rw [idxA_row hz, Nat.zero_add, Nat.mul_one]
  have x11 : ldX false 1 (.rptr 2 0 z.toNat) H = some (.p (.sl (some b) tg l.length (tC l))) := by
    show ld false 1 (.rptr 2 0 z.toNat) H = _
    rw [ld_row ho, List.getElem?_eq_getElem hj2, hx]; rfl
  have r12 : boxO [] [I 0, I 0, I 0, I 0, I 0] H = some (.ptr H.length 0, H ++ [.box ([Ia 0, Ia 0, Ia 0, Ia 0, Ia 0].map .p)]) := boxO_p [Ia 0, Ia 0, Ia 0, Ia 0, Ia 0] H
  have r13 : stX 5 (.ptr H.length 0) (inV i) [] (H ++ [.box ([Ia 0, Ia 0, Ia 0, Ia 0, Ia 0].map .p)]) = some (H ++ [.box ((enc_Ins i).map .p)]) := by
    show (if H.length + 1 = (H ++ [_]).length then _ else _) = _
    rw [if_pos (by simp)]
    exact stA_new rfl rfl (by decide)
  generalize hH1 : H ++ [.box ((enc_Ins i).map .p)] = H1 at r13
  have kk : ∀ (id : Nat) o, H[id]? = some o → H1[id]? = some o := fun id o ho => hH1 ▸ push_get? ho _
  have hl1 : H.length < H1.length := by rw [← hH1]; simp
  have h1b : H1[H.length]? = some (.box ((enc_Ins i).map .p)) := by rw [← hH1]; simp
  have W1 := h.ext kk
  have tl1 : TL H1 todo l (.p (.sl (some b) tg l.length (tC l))) := .inl ⟨b, tg, rfl, hbl⟩
  have fl : ∀ j, ld false 1 (.ptr H.length j) H1 = ((enc_Ins i)[j]?).map .p := fun j => by rw [ld_box h1b, List.getElem?_map]
  have pre : ∀ {H' : Heap} {M : Nat}, Leads f H1 H' M → Leads f H H' M := fun hl => hl.pre (by omega) fun id xs _ ho => kk id _ ho
  rw [f96_eq]
  by_cases q28 : i.1 = 28
  · refine ⟨H1, ?_, pre (.of W1 (Nat.le_refl _) (Nat.le_refl _) fun _ _ _ h => h)⟩
    simp only [nilc, ld_box h.box, wb4, Nat.zero_add, Nat.reduceAdd, x5, x6, x9, x10, x11, r12, r13, fl, in0, core]
    simp only [q28, hlv, core]
  by_cases q29 : i.1 = 29
  · refine ⟨H1, ?_, pre (.of W1 (Nat.le_refl _) (Nat.le_refl _) fun _ _ _ h => h)⟩
    simp only [nilc, ld_box h.box, wb4, Nat.zero_add, Nat.reduceAdd, x5, x6, x9, x10, x11, r12, r13, fl, in0, core]
    simp only [q29, Int.reduceEq, hlv, core]
  by_cases q13 : i.1 = 13
  · obtain ⟨H', c1, c2⟩ := come W1 hn htl (z := i.2.1) (gi.1 (.inl q13)).1 tl1 (by omega)
    refine ⟨H', ?_, pre c2⟩
    simp only [nilc, ld_box h.box, wb4, Nat.zero_add, Nat.reduceAdd, x5, x6, x9, x10, x11, r12, r13, fl, in0, in1, in2, c1, core]
    simp only [q13, Int.reduceEq, hlv, core]
  by_cases q14 : i.1 = 14
  · obtain ⟨H', c1, c2⟩ := come W1 hn htl (z := i.2.1) (gi.1 (.inr q14)).1 tl1 (by omega)
    refine ⟨H', ?_, pre c2⟩
    simp only [nilc, ld_box h.box, wb4, Nat.zero_add, Nat.reduceAdd, x5, x6, x9, x10, x11, r12, r13, fl, in0, in1, in2, c1, core]
    simp only [q14, Int.reduceEq, hlv, core]
  by_cases q15 : i.1 = 15
  · obtain ⟨H2, c1, c2⟩ := come W1 hn htl (z := i.2.2.1) (gi.2 (.inl q15)).1 tl1 (by omega)
    obtain ⟨⟨todo', tl', seen', bad', W2, hm⟩, hl2, hk2⟩ := c2
    obtain ⟨H', c3, c4⟩ := L35 W2 hn (by omega) hz (.inl ⟨b, tg, rfl, hbl⟩) (by omega)
    refine ⟨H', ?_, pre ((c4.mono hm).pre hl2 hk2)⟩
    simp only [nilc, ld_box h.box, wb4, Nat.zero_add, Nat.reduceAdd, x5, x6, x9, x10, x11, r12, r13, fl, in0, in1, in2, c1, core]
    simp only [q15, Int.reduceEq, hlv, c3, core]
  by_cases q30 : i.1 = 30
  · obtain ⟨H2, c1, c2⟩ := come W1 hn htl (z := i.2.2.1) (gi.2 (.inr q30)).1 tl1 (by omega)
    obtain ⟨⟨todo', tl', seen', bad', W2, hm⟩, hl2, hk2⟩ := c2
    obtain ⟨c, H3, e1, hl3, k3, H4, id, g, e2, hid, e3, hl4, k4⟩ := cloneApp hbl (by omega) H2 (i.2.1, i.2.2.1)
    have W4 := W2.ext k4
    have b3 : H3[H.length]? = some (.box ((enc_Ins i).map .p)) := k3 _ _ (hk2 _ _ (by omega) h1b)
    have fl3 : ∀ j, ld false 1 (.ptr H.length j) H3 = ((enc_Ins i)[j]?).map .p := fun j => by rw [ld_box b3, List.getElem?_map]
    have tl4 : TL H4 todo' (l ++ [(i.2.1, i.2.2.1)]) (.row id g 0 (l ++ [(i.2.1, i.2.2.1)]).length) := by
      refine .inr ⟨id, g, rfl, by omega, e3, by simp, fun g' n' e => ?_⟩
      rcases W2.td with ⟨e', _⟩ | ⟨id', g', xs', e', h4, ho', _⟩
      · rw [e'] at e; cases e
      · rw [e'] at e; cases e; have := getElem?_lt ho'; omega
    obtain ⟨H', c3, c4⟩ := L35 W4 hn (by omega) hz tl4 (by simp; omega)
    refine ⟨H', ?_, pre ((c4.mono hm).pre (by omega) fun j xs hj ho => k4 _ _ (hk2 _ _ hj ho))⟩
    simp only [nilc, ld_box h.box, wb4, Nat.zero_add, Nat.reduceAdd, x5, x6, x9, x10, x11, r12, r13, fl, in0, in1, in2, c1, core]
    simp only [q30, Int.reduceEq, hlv, core]
    rw [e1]
    simp only [fl3, in1, in2, build2, litP_one, e2, c3, core]
  by_cases q31 : i.1 = 31
  · by_cases h0 : l = []
    · obtain ⟨s1, s2⟩ := W1.setBad
      have hb3 := getElem?_lt W1.box
      refine ⟨_, ?_, pre (.of s2 (Nat.le_refl _) (by simp) fun id xs hi ho => by rw [List.getElem?_set_ne (by omega)]; exact ho)⟩
      simp only [nilc, ld_box h.box, wb4, Nat.zero_add, Nat.reduceAdd, x5, x6, x9, x10, x11, r12, r13, fl, in0, in1, in2, core]
      simp only [q31, Int.reduceEq, h0, List.length_nil, Int.natCast_zero, s1, hlv, nilc, Nat.zero_add, core]
    · have hp : 0 < l.length := List.length_pos_iff.mpr h0
      obtain ⟨tg', ec⟩ := cutT (b := b) (tg := tg) h0 H1
      obtain ⟨H', c3, c4⟩ := L35 W1 hn htl hz (l := l.dropLast) (.inl ⟨b, tg', rfl, fun e => absurd (hbl e) h0⟩) (by rw [List.length_dropLast]; omega)
      refine ⟨H', ?_, pre c4⟩
      have hz0 : ¬ (l.length : Int) = 0 := by omega
      have w : IntKind.i64.wrap ((l.length : Int) - 1) = (l.length : Int) - 1 := wrap_id (by omega)
      simp only [nilc, ld_box h.box, wb4, Nat.zero_add, Nat.reduceAdd, x5, x6, x9, x10, x11, r12, r13, fl, in0, in1, in2, core]
      simp only [q31, Int.reduceEq, hz0, w, ec, c3, core]
  · obtain ⟨H', c3, c4⟩ := L35 W1 hn htl hz tl1 (by omega)
    refine ⟨H', ?_, pre c4⟩
    simp only [nilc, ld_box h.box, wb4, Nat.zero_add, Nat.reduceAdd, x5, x6, x9, x10, x11, r12, r13, fl, in0, in1, in2, q28, q29, q13, q14, q15, q30, q31, c3, core]
end Ir
end Go.Proofs.YtfdnamedmjhcfaaDoor

set_option linter.unusedVariables false
set_option linter.unusedSimpArgs false
set_option maxRecDepth 100000
namespace Go.Proofs.YtfdnamedmjhcfaaDoor
open Go Go.AM
namespace Ir
variable {f : A_Fn}
theorem TD.len {H : Heap} {todo : AV} {tl : List Int} (h : TD H todo tl) (H' : Heap) : lenA .slice todo H' = some (I tl.length) := by
  rcases h with ⟨rfl, rfl⟩ | ⟨id, g, xs, rfl, _⟩ <;> rfl
theorem frz_out {H : Heap} {todo : AV} {tl : List Int} {seen : List Bool} {bad : Bool} (h : Wk f H todo tl seen bad) (b : Bool) : ∃ x y, leave 0 [] [.row 2 0 0 f.2.2.2.2.2.length, .row 1 0 0 f.2.2.2.2.2.length, B b] H = some ([.p x, .p y, B b], []) := by
  obtain ⟨out, ho, hol, _⟩ := h.ot
  have e1 : ∃ x, frzA H (.row 2 0 0 f.2.2.2.2.2.length) = some (.p x, H.set 2 (.row 1 1 [])) := by
    refine ⟨.sl (if 0 < f.2.2.2.2.2.length then some false else none) false f.2.2.2.2.2.length ((out.drop 0).take (f.2.2.2.2.2.length * 1)), ?_⟩
    show (toPV H (.row 2 0 0 f.2.2.2.2.2.length)).map _ = _
    simp only [toPV, ho]
    rw [if_pos ⟨trivial, by omega⟩]
    rfl
  obtain ⟨x, e1⟩ := e1
  have h1 : (H.set 2 (.row 1 1 []))[1]? = some (.row 0 1 (bC seen)) := by rw [List.getElem?_set_ne (by omega)]; exact h.sn
  have e2 : ∃ y, frzA (H.set 2 (.row 1 1 [])) (.row 1 0 0 f.2.2.2.2.2.length) = some (.p y, (H.set 2 (.row 1 1 [])).set 1 (.row 1 1 [])) := by
    refine ⟨.sl (if 0 < f.2.2.2.2.2.length then some false else none) false f.2.2.2.2.2.length (((bC seen).drop 0).take (f.2.2.2.2.2.length * 1)), ?_⟩
    show (toPV (H.set 2 (.row 1 1 [])) (.row 1 0 0 f.2.2.2.2.2.length)).map _ = _
    simp only [toPV, h1]
    rw [if_pos ⟨trivial, by rw [bC, List.length_map, h.ls]; omega⟩]
    rfl
  obtain ⟨y, e2⟩ := e2
  refine ⟨x, y, leave0_all (ps := [x, y, .v (.bool b)]) (H' := (H.set 2 (.row 1 1 [])).set 1 (.row 1 1 [])) ?_⟩
  simp only [frzAll, e1, e2, obs, oms]
  rfl

theorem loop99 (hn : f.2.2.2.2.2.length < 2 ^ 30) (hg : ∀ i ∈ f.2.2.2.2.2, Good f.2.2.2.2.2.length i) : ∀ (M : Nat) {H : Heap} {todo : AV} {tl : List Int} {seen : List Bool} {bad : Bool}, Wk f H todo tl seen bad → meas seen tl ≤ M → M < 2 ^ 35 →
    ∃ x y b, L55_8 [.ptr 3 0] [] H = some ([.p x, .p y, B b], []) := by
  intro M
  induction M with
  | zero =>
    intro H todo tl seen bad h hm hM
    have h0 : tl.length = 0 := by unfold meas at hm; omega
    obtain ⟨x, y, hx⟩ := frz_out h (!bad)
    refine ⟨x, y, !bad, ?_⟩
    rw [L55_8_eq]
    simp only [nilc, ld_box h.box, wb5, wb6, wb7, wb8, Nat.zero_add, Nat.reduceAdd, h.td.len, h0, Int.natCast_zero, Int.lt_irrefl, hx, core]
  | succ M ih =>
    intro H todo tl seen bad h hm hM
    by_cases h0 : (0 : Int) < tl.length
    case neg =>
      obtain ⟨x, y, hx⟩ := frz_out h (!bad)
      refine ⟨x, y, !bad, ?_⟩
      rw [L55_8_eq]
      simp only [nilc, ld_box h.box, wb5, wb6, wb7, wb8, Nat.zero_add, Nat.reduceAdd, h.td.len, h0, hx, core]
    cases bad with
    | true =>
      obtain ⟨x, y, hx⟩ := frz_out h (!true)
      refine ⟨x, y, !true, ?_⟩
      rw [L55_8_eq]
      simp only [nilc, ld_box h.box, wb5, wb6, wb7, wb8, Nat.zero_add, Nat.reduceAdd, h.td.len, h0, core]
      exact hx
    | false =>
      have hk : tl.length - 1 < tl.length := by omega
      have w : IntKind.i64.wrap ((tl.length : Int) - 1) = ((tl.length - 1 : Nat) : Int) := by
        unfold meas at hm
        rw [wrap_id (by omega)]; omega
      have td := h.td
      rcases td with ⟨_, e⟩ | ⟨id, g, xs, et, hid, ho, hx⟩
      · rw [e] at h0; simp at h0
      have hlt := getElem?_lt ho
      have e20 : idxA 1 todo (I ((tl.length - 1 : Nat) : Int)) = some (.rptr id g (tl.length - 1)) := by
        rw [et, idxA_row ⟨by omega, by omega⟩, Nat.zero_add, Nat.mul_one, Int.toNat_natCast]
      have hxs : xs[tl.length - 1]? = some (Ia tl[tl.length - 1]) := by
        have : (xs.take tl.length)[tl.length - 1]? = xs[tl.length - 1]? := by rw [List.getElem?_take]; simp [hk]
        rw [← this, hx, List.getElem?_map, List.getElem?_eq_getElem hk]; rfl
      have e21 : ld false 1 (.rptr id g (tl.length - 1)) H = some (I tl[tl.length - 1]) := by rw [ld_row ho, hxs]; rfl
      have e30 : cutA 1 todo none (some (I ((tl.length - 1 : Nat) : Int))) none H = some (.row id g 0 (tl.length - 1)) := by
        rw [et, cutA_row_hi ho ⟨by omega, by omega⟩, Int.toNat_natCast]
      have td' : TD H (.row id g 0 (tl.length - 1)) tl.dropLast := by
        refine .inr ⟨id, g, xs, by rw [List.length_dropLast], hid, ho, ?_⟩
        rw [List.length_dropLast]
        have : xs.take (tl.length - 1) = (xs.take tl.length).take (tl.length - 1) := by rw [List.take_take]; congr 1; omega
        rw [this, hx, ← List.map_take, List.dropLast_eq_take]
      obtain ⟨s1, W1⟩ := h.setTodo (H' := H) (todo' := .row id g 0 (tl.length - 1)) (tl' := tl.dropLast) (fun _ _ _ h => h) td' (fun z hz => h.ti z ((List.dropLast_sublist tl).subset hz)) rfl rfl
      have hz := h.ti _ (List.getElem_mem hk)
      have hm1 : meas seen tl.dropLast ≤ M := by unfold meas at hm ⊢; rw [List.length_dropLast]; omega
      obtain ⟨H', c1, ⟨todo2, tl2, seen2, bad2, W2, hm2⟩, _⟩ := from' W1 hn (by omega) (by rw [List.length_set]; omega) hg hz
      obtain ⟨x, y, b, hr⟩ := ih W2 (by omega) (by omega)
      refine ⟨x, y, b, ?_⟩
      rw [L55_8_eq]
      simp only [nilc, ld_box h.box, wb5, wb6, wb7, wb8, Nat.zero_add, Nat.reduceAdd, h.td.len, h0, w, e20, e21, e30, s1, c1, hr, core]

theorem zeros1 (x : PV) : ∀ n, zerosA n [x] = List.replicate n x
  | 0 => rfl
  | n + 1 => by
    have := zeros1 x n
    rw [zerosA] at this ⊢
    rw [List.replicate_succ, List.flatten_cons, this, List.replicate_succ]; rfl
theorem fill0 {n : Nat} (hn : n < 2 ^ 30) (o : AObj) : fillRow 2 0 1 1 [(.v (.bool false))] (I n) (I n) [o, .hole, .hole] = some (.row 1 0 0 n, [o, .row 0 1 (bC (List.replicate n false)), .hole]) := by
  show (if _ then _ else _) = _
  rw [if_pos ⟨by omega, by omega, by unfold room; omega, by decide, by simp⟩, Int.toNat_natCast, zeros1, bC, List.map_replicate]
  rfl
theorem fill1 {n : Nat} (hn : n < 2 ^ 30) (o o' : AObj) : fillRow 2 1 1 24 [nilS] (I n) (I n) [o, o', .hole] = some (.row 2 0 0 n, [o, o', .row 0 1 (List.replicate n nilS)]) := by
  show (if _ then _ else _) = _
  rw [if_pos ⟨by omega, by omega, by unfold room; omega, by decide, by simp⟩, Int.toNat_natCast, zeros1]
  rfl
theorem ent99 (hn : f.2.2.2.2.2.length < 2 ^ 30) (hg : ∀ i ∈ f.2.2.2.2.2, Good f.2.2.2.2.2.length i) : ∃ x y b, O.ent 55 [fnV f] [] [] = some ([.p x, .p y, B b], []) := by
  have hh : [AObj.box ((enc_Fn f).map .p)] ++ List.replicate 2 AObj.hole = [AObj.box ((enc_Fn f).map .p), .hole, .hole] := rfl
  have l1 : ldS true 5 (.ptr 0 0) [AObj.box ((enc_Fn f).map .p), .hole, .hole] = some (fnV f) := by
    rw [ldS_ptr, ldAgg_box (xs := (enc_Fn f).map .p) rfl (by rw [List.length_map, len_Fn5]; decide) (by rw [List.length_map, len_Fn5]; decide)]
    rfl
  have l2 : ∀ o o', ldS false 1 (.ptr 0 4) [AObj.box ((enc_Fn f).map .p), o, o'] = some (.p (.sl f.2.2.2.2.1 false f.2.2.2.2.2.length (f.2.2.2.2.2.flatMap enc_Ins))) := fun o o' => by
    rw [ldS_ptr, ld_box (xs := (enc_Fn f).map .p) rfl]; rfl
  have hb : buildA [(I 0), (I 0), (B false), (.p nilS), (.p nilS), (.p nilS), (.p nilS), (.p nilS), (B false)] [(0, 5, fnV f), (5, 1, .row 1 0 0 f.2.2.2.2.2.length), (6, 1, .row 2 0 0 f.2.2.2.2.2.length)] = some (.agg (wb f (.p nilS) false)) := rfl
  have hx : ∀ o1 o2 o3 : AObj, boxO [] (AV.cells (.agg (wb f (.p nilS) false))) [o1, o2, o3] = some (.ptr 3 0, [o1, o2, o3, .box (wb f (.p nilS) false)]) := fun _ _ _ => rfl
  have W : Wk f [AObj.box ((enc_Fn f).map .p), .row 0 1 (bC (List.replicate f.2.2.2.2.2.length false)), .row 0 1 (List.replicate f.2.2.2.2.2.length nilS), .box (wb f (.p nilS) false)] (.p nilS) [] (List.replicate f.2.2.2.2.2.length false) false :=
    ⟨rfl, rfl, List.length_replicate, ⟨_, rfl, List.length_replicate, fun x hx => by rw [List.eq_of_mem_replicate hx]; exact .nil⟩, .inl ⟨rfl, rfl⟩, fun z hz => by cases hz⟩
  have hm : meas (List.replicate f.2.2.2.2.2.length false) [] ≤ f.2.2.2.2.2.length := by
    unfold meas
    simp
  obtain ⟨H', c1, ⟨todo2, tl2, seen2, bad2, W2, hm2⟩, _⟩ := come W hn (by omega) (z := 0) (by omega) (a := .p nilS) (l := []) (.inl ⟨true, true, rfl, fun _ => rfl⟩) (by decide)
  obtain ⟨x, y, b, hr⟩ := loop99 hn hg _ W2 hm2 (by omega)
  refine ⟨x, y, b, ?_⟩
  rw [f55_eq]
  simp only [boxAgg0, hh, l1, l2, Nat.zero_add, fill0 hn, fill1 hn, hb, hx, c1, hr, core]
theorem call99 (hn : f.2.2.2.2.2.length < 2 ^ 30) (hg : ∀ i ∈ f.2.2.2.2.2, Good f.2.2.2.2.2.length i) (lo : List Nat) (H : Heap) : ∃ x y b, callA cfg O 55 [fnV f] lo H = some (.tup [.p x, .p y, B b], H) := by
  obtain ⟨x, y, b, h⟩ := ent99 hn hg
  exact ⟨x, y, b, callA_args (rs := [.p x, .p y, B b]) rfl (pureArgs1 (pureAgg _ _)) h rfl⟩

/-! ### A function -/
abbrev pgV (p : A_Prog) : AV := .agg ((enc_Prog p).map .p)
theorem len_Prog3 (p : A_Prog) : (enc_Prog p).length = 3 := rfl
theorem getElem?_pre {H0 H : Heap} {id : Nat} {o : AObj} (h : H0[id]? = some o) (l : List AObj) (e : H = H0 ++ l) : H[id]? = some o := by rw [e]; exact push_get? h l
theorem loop47 (p : A_Prog) (hp : POk p) (hn : f.2.2.2.2.2.length < 2 ^ 30) : ∀ (c i : Nat) (H : Heap), f.2.2.2.2.2.length - i = c → i ≤ f.2.2.2.2.2.length → (∀ j (h : j < f.2.2.2.2.2.length), j < i → Good f.2.2.2.2.2.length f.2.2.2.2.2[j]) → H[1]? = some (.box ((enc_Fn f).map .p)) → H[2]? = some (.box ((lkE p f).map .p)) →
    ∃ b, L24_12 [.ptr 1 0, .ptr 2 0, .p (.sl f.2.2.2.2.1 false f.2.2.2.2.2.length (f.2.2.2.2.2.flatMap enc_Ins)), I f.2.2.2.2.2.length, I i] [] H = some ([B b], []) ∧ (b = true → ∀ i ∈ f.2.2.2.2.2, Good f.2.2.2.2.2.length i) := by
  intro c
  induction c with
  | zero =>
    intro i H hc hi hg h1 h2
    have : i = f.2.2.2.2.2.length := by omega
    subst this
    have g : ∀ i ∈ f.2.2.2.2.2, Good f.2.2.2.2.2.length i := fun i hi => by
      obtain ⟨j, hj, rfl⟩ := List.getElem_of_mem hi
      exact hg j hj hj
    obtain ⟨x, y, b, hb⟩ := call99 hn g [] H
    refine ⟨b, ?_, fun _ => g⟩
    have e11 : ld true 5 (.ptr 1 0) H = some (fnV f) := by
      rw [ldAgg_box h1 (by rw [List.length_map, len_Fn5]; decide) (by rw [List.length_map, len_Fn5]; decide)]; rfl
    rw [L24_12_eq]
    simp only [Int.lt_irrefl, e11, hb, core, leave0_B]
  | succ c ih =>
    intro i H hc hi hg h1 h2
    have hj : i < f.2.2.2.2.2.length := by omega
    have hlt : (i : Int) < f.2.2.2.2.2.length := by omega
    have w : IntKind.i64.wrap ((i : Int) + 1) = ((i + 1 : Nat) : Int) := by rw [wrap_id (by omega), nxt]
    obtain ⟨q, hq⟩ : ∃ q, f.2.2.2.2.2[i] = q := ⟨_, rfl⟩
    obtain ⟨b, hb, hgood⟩ := call98 p f hp (by omega) i q
    have x2 := idxL (sz := 5) (nl := f.2.2.2.2.1) (t := false) (n := f.2.2.2.2.2.length) (xs := f.2.2.2.2.2.flatMap enc_Ins) (i := (i : Int)) ⟨by omega, hlt⟩
    rw [Int.toNat_natCast] at x2
    have x3 : ld true 5 (.fp (f.2.2.2.2.2.flatMap enc_Ins) (i * 5)) H = some (inV q) := by rw [ldRow len_Ins5 (by decide) hj, hq]
    have r4 : boxO [] [I 0, I 0, I 0, I 0, I 0] H = some (.ptr H.length 0, H ++ [.box ([Ia 0, Ia 0, Ia 0, Ia 0, Ia 0].map .p)]) := boxO_p [Ia 0, Ia 0, Ia 0, Ia 0, Ia 0] H
    have r5 : stA 5 (.ptr H.length 0) (inV q) [] (H ++ [.box ([Ia 0, Ia 0, Ia 0, Ia 0, Ia 0].map .p)]) = some (H ++ [.box ((enc_Ins q).map .p)]) := stA_new rfl rfl (by decide)
    have x6 : ld true 8 (.ptr 2 0) (H ++ [.box ((enc_Ins q).map .p)]) = some (lkV p f) := by
      rw [ldAgg_box (push_get? h2 _) (by rw [List.length_map, lk_len]; decide) (by rw [List.length_map, lk_len]; decide)]; rfl
    have x7 : ld true 5 (.ptr H.length 0) (H ++ [.box ((enc_Ins q).map .p)]) = some (inV q) := ldA (len_Ins5 q) (by decide) H
    cases b with
    | false =>
      refine ⟨false, ?_, fun e => by cases e⟩
      rw [L24_12_eq]
      simp only [hlt, x2, x3, r4, r5, x6, x7, hb, core, leave0_B]
    | true =>
      obtain ⟨b2, hr, hgd⟩ := ih (i + 1) (H ++ [.box ((enc_Ins q).map .p)]) (by omega) (by omega) (fun j h hji => by
        by_cases e : j = i
        · subst e; rw [hq]; exact hgood rfl
        · exact hg j h (by omega)) (push_get? h1 _) (push_get? h2 _)
      refine ⟨b2, ?_, hgd⟩
      rw [L24_12_eq]
      simp only [hlt, x2, x3, r4, r5, x6, x7, hb, w, hr, core]
theorem call47 (p : A_Prog) (hp : POk p) (hn : f.2.2.2.2.2.length < 2 ^ 30) (lo : List Nat) (H : Heap) : ∃ b, callA cfg O 24 [pgV p, fnV f] lo H = some (B b, H) ∧ (b = true → 1 ≤ f.2.1 ∧ ∀ i ∈ f.2.2.2.2.2, Good f.2.2.2.2.2.length i) := by
  suffices h : ∃ b, O.ent 24 [pgV p, fnV f] [] [] = some ([B b], []) ∧ (b = true → 1 ≤ f.2.1 ∧ ∀ i ∈ f.2.2.2.2.2, Good f.2.2.2.2.2.length i) from
    h.imp fun b h => ⟨callA_args (rs := [B b]) rfl (pureArgsC (pureAgg _ _) (pureArgs1 (pureAgg _ _))) h.1 rfl, h.2⟩
  have x3 : ld true 3 (.ptr 0 0) [.box ((enc_Prog p).map .p), .box ((enc_Fn f).map .p)] = some (pgV p) := ldA02 (len_Prog3 p) (by decide) _
  have x4 : ld true 5 (.ptr 1 0) [.box ((enc_Prog p).map .p), .box ((enc_Fn f).map .p)] = some (fnV f) := ldA (len_Fn5 f) (by decide) [_]
  have x5 : buildA [(.p nilS), (.p nilS), (.p nilS), (I 0), (I 0), (B false), (.p nilS), (.p nilS)] [(0, 3, pgV p), (3, 5, fnV f)] = some (lkV p f) := rfl
  have r6 : ∀ o1 o2 : AObj, boxO [] [(.p nilS), (.p nilS), (.p nilS), (I 0), (I 0), (B false), (.p nilS), (.p nilS)] [o1, o2] = some (.ptr 2 0, [o1, o2, .box ([nilS, nilS, nilS, Ia 0, Ia 0, .v (.bool false), nilS, nilS].map .p)]) := fun o1 o2 => boxO_p [nilS, nilS, nilS, Ia 0, Ia 0, .v (.bool false), nilS, nilS] [o1, o2]
  have r7 : ∀ o1 o2 : AObj, stA 8 (.ptr 2 0) (lkV p f) [] [o1, o2, .box ([nilS, nilS, nilS, Ia 0, Ia 0, .v (.bool false), nilS, nilS].map .p)] = some [o1, o2, .box ((lkE p f).map .p)] := fun o1 o2 => stA_new (H := [o1, o2]) rfl rfl (by decide)
  have fl : ∀ (o1 o3 : AObj) (j : Nat), ld false 1 (.ptr 1 j) [o1, .box ((enc_Fn f).map .p), o3] = ((enc_Fn f)[j]?).map .p := fun o1 o3 j => by rw [ld_box (xs := (enc_Fn f).map .p) rfl, List.getElem?_map]
  rw [f24_eq]
  by_cases c1 : f.1 < 0
  · refine ⟨false, ?_, fun e => by cases e⟩
    simp only [boxAgg0, box12, x3, x4, x5, r6, r7, fl, fn0, fn1, Nat.zero_add, c1, core, leave0_B]
  by_cases c2 : f.2.1 < 1
  · refine ⟨false, ?_, fun e => by cases e⟩
    simp only [boxAgg0, box12, x3, x4, x5, r6, r7, fl, fn0, fn1, Nat.zero_add, c1, c2, core, leave0_B]
  by_cases c3 : f.2.1 < f.1
  · refine ⟨false, ?_, fun e => by cases e⟩
    simp only [boxAgg0, box12, x3, x4, x5, r6, r7, fl, fn0, fn1, Nat.zero_add, c1, c2, c3, core, leave0_B]
  obtain ⟨b, hb, hgd⟩ := loop47 p hp hn f.2.2.2.2.2.length 0 [.box ((enc_Prog p).map .p), .box ((enc_Fn f).map .p), .box ((lkE p f).map .p)] (by omega) (by omega) (fun j _ h => absurd h (by omega)) rfl rfl
  refine ⟨b, ?_, fun h => ⟨by omega, hgd h⟩⟩
  simp only [boxAgg0, box12, x3, x4, x5, r6, r7, fl, fn0, fn1, fn4, Nat.zero_add, c1, c2, c3, core]
  exact hb
theorem leave3_pp (x : PV) (lo : List Nat) (H l : Heap) : leave 3 (H.length :: lo) [.p x] (H ++ l) = some ([.p x], H) := by
  show some ([AV.p x], (H ++ l).take H.length) = _
  rw [List.take_left]
theorem call46 (p : A_Prog) (hp : POk p) (g : A_Fn) (hn : g.2.2.2.2.2.length < 2 ^ 30) (lo : List Nat) : ∃ b, callA cfg O 23 [fnV g, .ptr 0 0] lo [.box ((enc_Prog p).map .p)] = some (B b, [.box ((enc_Prog p).map .p)]) ∧ (b = false → 1 ≤ g.2.1 ∧ ∀ i ∈ g.2.2.2.2.2, Good g.2.2.2.2.2.length i) := by
  obtain ⟨b, hb, hr⟩ := call47 (f := g) p hp hn ([AObj.box ((enc_Prog p).map .p)].length :: lo) [.box ((enc_Prog p).map .p), .box ((enc_Fn g).map .p)]
  refine ⟨!b, callA_same (rs := [B (!b)]) rfl ?_, fun h => hr (by cases b with | true => rfl | false => cases h)⟩
  have x3 : ld true 3 (.ptr 0 0) [.box ((enc_Prog p).map .p), .box ((enc_Fn g).map .p)] = some (pgV p) := ldA02 (len_Prog3 p) (by decide) _
  have x4 : ld true 5 (.ptr 1 0) [.box ((enc_Prog p).map .p), .box ((enc_Fn g).map .p)] = some (fnV g) := ldA (len_Fn5 g) (by decide) [_]
  rw [f23_eq]
  simp only [box12, x3, x4, hb, core]
  exact leave3_pp (.v (.bool (!b))) lo [.box ((enc_Prog p).map .p)] [.box ((enc_Fn g).map .p)]
end Ir
end Go.Proofs.YtfdnamedmjhcfaaDoor

set_option linter.unusedVariables false
set_option linter.unusedSimpArgs false
set_option maxRecDepth 100000
namespace Go.Proofs.YtfdnamedmjhcfaaDoor
open Go Go.AM
namespace Ir
abbrev vlV (v : A_Val) : AV := .agg ((enc_Val v).map .p)
theorem len_Val2 (v : A_Val) : (enc_Val v).length = 2 := rfl
theorem va0 (v : A_Val) : (enc_Val v)[0]? = some (Ia v.1) := _root_.id rfl
theorem va1 (v : A_Val) : (enc_Val v)[1]? = some (Ia v.2) := _root_.id rfl

/-! ### Right -/
/-- The bits of a float. -/
def fbits (n : Int) : Nat := (IntKind.u64.wrap n).toNat
def notNan (n : Int) : Bool := FloatKind.f64.format.order (fbits n) (fbits n) == some .eq
theorem call137 (v : A_Val) (lo : List Nat) (H : Heap) : callA cfg O 89 [vlV v] lo H = some (.p (.v (.float .f64 (fbits v.2))), H) := by
  refine callA_args (rs := [.p (.v (.float .f64 (fbits v.2)))]) rfl (pureArgs1 (pureAgg _ _)) (H' := []) ?_ rfl
  have h1 : ∀ n : Int, conv (.int .u64) (I n) = some (.p (.v (.int .u64 (IntKind.u64.wrap n)))) := fun n => rfl
  have h2 : ∀ (n : Int) (H : Heap), callA cfg O 130 [.p (.v (.int .u64 n))] [] H = some (.p (.v (.float .f64 n.toNat)), H) := fun n H => by
    refine callA_pure (xs := [.v (.int .u64 n)]) (rs := [.p (.v (.float .f64 n.toNat))]) (H' := []) rfl ?_ rfl
    show O.ent 130 [.p (.v (.int .u64 n))] [] [] = _
    rw [f130_eq]; rfl
  rw [f89_eq]
  simp only [boxAgg0, ldB0, va1, Nat.zero_add, h1, h2, core]
  rfl
theorem eqlF (a b : Nat) : bin .eql .float (.p (.v (.float .f64 a))) (.p (.v (.float .f64 b))) = some (B (FloatKind.f64.format.order a b == some .eq)) := rfl
/-- P114. -/
def rightV (v : A_Val) : Bool :=
  if v.1 = 0 then decide (v.2 = 0) else if v.1 = 1 then wi v.2 0 1 else if v.1 = 2 then wi v.2 (-2147483648) 2147483647
  else if v.1 = 3 then (notNan v.2 || decide (v.2 = 9221120237041090561)) else if v.1 = 4 ∨ v.1 = 5 then decide (0 ≤ v.2) else if v.1 = 6 then wi v.2 0 15 else false
theorem call96 (v : A_Val) (lo : List Nat) (H : Heap) : callA cfg O 52 [vlV v] lo H = some (B (rightV v), H) := by
  refine callA_args (rs := [B (rightV v)]) rfl (pureArgs1 (pureAgg _ _)) (H' := []) ?_ rfl
  rw [f52_eq, rightV]
  simp only [boxAgg0, ldB0, ldA0 (len_Val2 v) (by decide), va0, va1, Nat.zero_add, call136, call137, eqlF, core, leave0_B, decide_eq_true_eq]
  by_cases h0 : v.1 = 0
  · simp only [h0, if_true]
  by_cases h1 : v.1 = 1
  · simp only [h0, h1, if_true, if_false]; rfl
  by_cases h2 : v.1 = 2
  · simp only [h0, h1, h2, if_true, if_false]; rfl
  by_cases h3 : v.1 = 3
  · simp only [h0, h1, h2, h3, if_true, if_false]
    cases hn : notNan v.2 with
    | true =>
      unfold notNan at hn
      simp only [hn, Int.reduceEq, core, leave0_B]; rfl
    | false =>
      unfold notNan at hn
      simp only [hn, Int.reduceEq, core, leave0_B]; rfl
  by_cases h4 : v.1 = 4
  · simp only [h0, h1, h2, h3, h4, true_or, if_true, if_false]; rfl
  by_cases h5 : v.1 = 5
  · simp only [h0, h1, h2, h3, h4, h5, or_true, if_true, if_false]; rfl
  by_cases h6 : v.1 = 6
  · simp only [h0, h1, h2, h3, h4, h5, h6, or_self, if_true, if_false]; rfl
  simp only [h0, h1, h2, h3, h4, h5, h6, or_self, if_true, if_false]

/-! ### Strings -/
abbrev sP (s : ByteArray) : PV := .v (.string s)
abbrev SV (nl : Option Bool) (tg : Bool) (l : List ByteArray) : AV := .p (.sl nl tg l.length (l.map sP))
theorem ldS' {l : List ByteArray} {i : Nat} (h : i < l.length) (H : Heap) : ld false 1 (.fp (l.map sP) i) H = some (S l[i]) := by
  rw [ld_fp, List.getElem?_map, List.getElem?_eq_getElem h]; rfl
theorem idxS {nl : Option Bool} {tg : Bool} {l : List ByteArray} {i : Nat} (h : i < l.length) : idxA 1 (SV nl tg l) (I i) = some (.fp (l.map sP) i) := by
  rw [idxL ⟨by omega, by omega⟩, Int.toNat_natCast, Nat.mul_one]
theorem call93 {n1 n2 : Option Bool} {t1 t2 : Bool} (l m : List ByteArray) (hl : l.length < 2 ^ 63) (lo : List Nat) (H : Heap) : ∃ b, callA cfg O 49 [SV n1 t1 l, SV n2 t2 m] lo H = some (B b, H) := by
  suffices h : ∃ b, O.ent 49 [SV n1 t1 l, SV n2 t2 m] [] [] = some ([B b], []) from
    h.imp fun b h => callA_pure (xs := [.sl n1 t1 l.length (l.map sP), .sl n2 t2 m.length (m.map sP)]) (rs := [B b]) rfl h rfl
  rw [f49_eq]
  by_cases h : (l.length : Int) = m.length
  · have go : ∀ (c i : Nat), l.length - i = c → i ≤ l.length → ∃ b, L49_10 [SV n1 t1 l, SV n2 t2 m, I l.length, I i] [] [] = some ([B b], []) := by
      intro c
      induction c with
      | zero =>
        intro i hc hi
        have : i = l.length := by omega
        subst this
        refine ⟨true, ?_⟩
        rw [L49_10_eq]
        simp only [Int.lt_irrefl, core, leave0_B]
      | succ c ih =>
        intro i hc hi
        have h1 : i < l.length := by omega
        have h2 : i < m.length := by omega
        have hlt : (i : Int) < l.length := by omega
        have w : IntKind.i64.wrap ((i : Int) + 1) = ((i + 1 : Nat) : Int) := by rw [wrap_id (by omega), nxt]
        rw [L49_10_eq]
        cases hb : !(l[i].data.toList == m[i].data.toList) with
        | true =>
          refine ⟨false, ?_⟩
          simp only [hlt, idxS h1, idxS h2, ldS' h1, ldS' h2, bin_neqS, hb, core, leave0_B]
        | false =>
          obtain ⟨b, hr⟩ := ih (i + 1) (by omega) (by omega)
          refine ⟨b, ?_⟩
          simp only [hlt, idxS h1, idxS h2, ldS' h1, ldS' h2, bin_neqS, hb, w, core, leave0_B]
          exact hr
    obtain ⟨b, hb⟩ := go l.length 0 (by omega) (by omega)
    refine ⟨b, ?_⟩
    simp only [← h, core]
    exact hb
  · refine ⟨false, ?_⟩
    simp only [h, core, leave0_B]
/-- The words' text. -/
def wText : ByteArray := ⟨#[107, 105, 110, 100, 32, 114, 97, 110, 103, 101, 32, 122, 101, 114, 111, 32, 105, 110, 100, 101, 120, 32, 108, 97, 114, 103, 101, 32, 100, 101, 101, 112, 32, 115, 116, 97, 116, 101, 32, 99, 111, 117, 110, 116, 32, 110, 105, 108, 32, 98, 111, 111, 108, 32, 105, 110, 116, 32, 102, 108, 111, 97, 116, 32, 116, 101, 120, 116, 32, 111, 98, 106, 101, 99, 116, 32, 108, 105, 115, 116, 32, 102, 117, 110, 99, 116, 105, 111, 110, 32, 103, 101, 110, 101, 114, 97, 116, 111, 114, 32, 108, 111, 99, 107, 32, 119, 101, 97, 107]⟩
def words : List ByteArray := (Lib.fields wText.data.toList).map fun l => ⟨l.toArray⟩
theorem words_str : strWords wText = words.map sP := by rw [words, strWords, List.map_map]; rfl
theorem words_ok : (decide (wText.size < 65536) && wText.data.toList.all (fun b => decide (b.toNat < 128)) && !(strWords wText).isEmpty) = true := by kernel_rfl
theorem words_len : words.length < 2 ^ 30 := by
  have : (decide (words.length < 2 ^ 30)) = true := by kernel_rfl
  exact of_decide_eq_true this
theorem call134 (lo : List Nat) (H : Heap) : callA cfg O 86 [S wText] lo H = some (SV (some false) true words, H) := by
  refine callA_pure (xs := [.v (.string wText)]) (rs := [SV (some false) true words]) (H' := []) rfl ?_ rfl
  have : O.ent 86 [S wText] [] [] = fieldsRun [S wText] [] := by rw [O_ent]; kernel_rfl
  show O.ent 86 [S wText] [] [] = _
  rw [this, fieldsRun, if_pos words_ok, words_str, List.length_map]
theorem call92 (lo : List Nat) (H : Heap) : callA cfg O 48 [] lo H = some (SV (some false) true words, H) := by
  refine callA_pure (xs := []) (rs := [SV (some false) true words]) (H' := []) rfl ?_ rfl
  show O.ent 48 [] [] [] = _
  rw [f48_eq]
  show (callA cfg O 86 [S wText] [] []).bind _ = _
  rw [call134, obs]
  rfl
theorem key_str : KeyEnc .str (fun s : ByteArray => S s) where
  ok _ := rfl
  eq a b := by
    rw [bin_eqlS]
    by_cases h : a = b
    · subst h; simp
    · have h2 : ¬ a.data = b.data := fun e => h (by cases a; cases b; simp only at e; rw [e])
      simp [h, h2]
  same a := by
    show (a.toList == a.toList) = true
    simp
end Ir
end Go.Proofs.YtfdnamedmjhcfaaDoor

set_option linter.unusedVariables false
set_option linter.unusedSimpArgs false
set_option maxRecDepth 100000
namespace Go.Proofs.YtfdnamedmjhcfaaDoor
open Go Go.AM
namespace Ir
theorem pg0 (p : A_Prog) : (enc_Prog p)[0]? = some (.sl p.1.1 false p.1.2.length (p.1.2.flatMap enc_Fn)) := _root_.id rfl
theorem pg1 (p : A_Prog) : (enc_Prog p)[1]? = some (.sl p.2.1.1 false p.2.1.2.length (p.2.1.2.flatMap enc_Val)) := _root_.id rfl
theorem pg2 (p : A_Prog) : (enc_Prog p)[2]? = some (.sl p.2.2.1 false p.2.2.2.length (p.2.2.2.map sP)) := _root_.id rfl

/-! ### Tables -/
theorem call95 (p : A_Prog) (v : A_Val) {H : Heap} (h : H[0]? = some (.box ((enc_Prog p).map .p))) (lo : List Nat) : ∃ b, callA cfg O 51 [vlV v, .ptr 0 0] lo H = some (B b, H) := by
  suffices hs : ∃ b, O.ent 51 [vlV v, .ptr 0 0] lo H = some ([B b], H) from hs.imp fun b h => callA_same (rs := [B b]) rfl h
  have hx : ∀ j, ld false 1 (.ptr H.length j) (H ++ [.box ((enc_Val v).map .p)]) = ((enc_Val v)[j]?).map .p := fun j => ldB _ _ _ _
  have ha : ld true 2 (.ptr H.length 0) (H ++ [.box ((enc_Val v).map .p)]) = some (vlV v) := ldA (len_Val2 v) (by decide) H
  have hp : ∀ j, ld false 1 (.ptr 0 j) (H ++ [.box ((enc_Val v).map .p)]) = ((enc_Prog p)[j]?).map .p := fun j => by rw [ld_box (push_get? h _), List.getElem?_map]
  have hv : ∀ b : Bool, leave 3 (H.length :: lo) [B b] (H ++ [.box ((enc_Val v).map .p)]) = some ([B b], H) := fun b => leave3_pp _ _ _ _
  rw [f51_eq]
  cases h1 : rightV v with
  | false =>
    refine ⟨true, ?_⟩
    simp only [boxAgg, ha, hx, va0, va1, Nat.zero_add, call96, h1, hv, core]
  | true =>
  by_cases h2 : v.1 = 5
  · refine ⟨true, ?_⟩
    simp only [boxAgg, ha, hx, va0, va1, Nat.zero_add, call96, h1, h2, hv, core]
  by_cases h3 : v.1 = 4
  · refine ⟨decide ((p.2.2.2.length : Int) ≤ v.2), ?_⟩
    simp only [boxAgg, ha, hx, va0, va1, hp, pg2, Nat.zero_add, call96, h1, h3, Int.reduceEq, hv, core]
  · refine ⟨false, ?_⟩
    simp only [boxAgg, ha, hx, va0, va1, hp, pg2, Nat.zero_add, call96, h1, h2, h3, hv, core]
theorem aget1 (kvs : List (Kv ByteArray)) (h : ∀ k, aget kvs k = none ∨ aget kvs k = some (I 1)) (k : ByteArray) : (aget kvs k).getD (I 0) = I 0 ∨ (aget kvs k).getD (I 0) = I 1 := by
  rcases h k with e | e <;> rw [e]
  · exact .inl rfl
  · exact .inr rfl
theorem loop44 (p : A_Prog) (hc : p.2.1.2.length < 2 ^ 63) {nl : Option Bool} {l : List ByteArray} (hl : l.length < 2 ^ 63) : ∀ (n i : Nat) (H : Heap) (kvs : List (Kv ByteArray)) (c : Nat), l.length - i = n → i ≤ l.length → H[0]? = some (.box ((enc_Prog p).map .p)) → H[1]? = some (mapObj (fun s => S s) kvs c) → WfM kvs c → (∀ k, aget kvs k = none ∨ aget kvs k = some (I 1)) →
    ∃ b, L21_14 [.ptr 0 0, .mp 1, SV nl false l, I l.length, I i] [] H = some ([B b], []) := by
  intro n
  induction n with
  | zero =>
    intro i H kvs c hn hi h0 h1 hw hk
    have : i = l.length := by omega
    subst this
    have asked : Asked true 2 (.p (.sl p.2.1.1 false p.2.1.2.length (p.2.1.2.flatMap enc_Val))) (.fn 51 [] [.ptr 0 0]) p.2.1.2.length H := by
      intro i hi
      have x2 := idxL (sz := 2) (nl := p.2.1.1) (t := false) (n := p.2.1.2.length) (xs := p.2.1.2.flatMap enc_Val) (i := (i : Int)) ⟨by omega, by omega⟩
      rw [Int.toNat_natCast] at x2
      exact ⟨_, _, x2, ldRow len_Val2 (by decide) hi H, fun lo => call95 p _ h0 lo⟩
    obtain ⟨b, hb⟩ := call94 hc (lenA_sl _ _ _ _) asked []
    refine ⟨!b, ?_⟩
    have hp : ∀ j, ld false 1 (.ptr 0 j) H = ((enc_Prog p)[j]?).map .p := fun j => by rw [ld_box h0, List.getElem?_map]
    rw [L21_14_eq]
    simp only [Int.lt_irrefl, hp, pg1, Nat.zero_add, hb, core, leave0_B]
  | succ n ih =>
    intro i H kvs c hn hi h0 h1 hw hk
    have hlt : (i : Int) < l.length := by omega
    have hj : i < l.length := by omega
    have w : IntKind.i64.wrap ((i : Int) + 1) = ((i + 1 : Nat) : Int) := by rw [wrap_id (by omega), nxt]
    have lk := map_look (z := I 0) key_str h1 l[i]
    rw [L21_14_eq]
    rcases aget1 kvs hk l[i] with e | e
    · rw [e] at lk
      obtain ⟨b, hr⟩ := ih (i + 1) (H.set 1 (mapObj (fun s => S s) (aput kvs l[i] (I 1) c) (if (aget kvs l[i]).isSome then c else c + 1))) _ _ (by omega) (by omega) (by rw [List.getElem?_set_ne (by omega)]; exact h0) (by simp [getElem?_lt h1]) (hw.put l[i] (I 1)) (fun k => by
        rw [aget_put]
        by_cases e : k = l[i]
        · rw [if_pos e]; exact .inr rfl
        · rw [if_neg e]; exact hk k)
      refine ⟨b, ?_⟩
      have pu := map_put key_str h1 hw l[i] (v := I 1) (lo := []) rfl
      simp only [hlt, idxS hj, ldS' hj, lk, Int.reduceEq, pu, w, hr, core]
    · rw [e] at lk
      refine ⟨false, ?_⟩
      simp only [hlt, idxS hj, ldS' hj, lk, core, leave0_B]
theorem call44 (p : A_Prog) (hc : p.2.1.2.length < 2 ^ 63) (ht : p.2.2.2.length < 2 ^ 63) (lo : List Nat) (H : Heap) : ∃ b, callA cfg O 21 [pgV p] lo H = some (B b, H) := by
  suffices h : ∃ b, O.ent 21 [pgV p] [] [] = some ([B b], []) from
    h.imp fun b h => callA_args (rs := [B b]) rfl (pureArgs1 (pureAgg _ _)) h rfl
  rw [f21_eq]
  by_cases h1 : (p.2.2.2.length : Int) < words.length
  · refine ⟨false, ?_⟩
    simp only [boxAgg0, ldB0, pg2, Nat.zero_add, call92, h1, core, leave0_B]
  have hw := words_len
  have hcut : cutA 1 (.p (.sl p.2.2.1 false p.2.2.2.length (p.2.2.2.map sP))) none (some (I words.length)) none [.box ((enc_Prog p).map .p)] = some (SV p.2.2.1 (false && decide ((words.length : Int) = p.2.2.2.length)) (p.2.2.2.take words.length)) := by
    have hlen : (p.2.2.2.take words.length).length = words.length := by rw [List.length_take, Nat.min_eq_left (by omega)]
    rw [cutA_hi ⟨by omega, by omega⟩, Int.toNat_natCast, Nat.mul_one, ← List.map_take]
    show _ = some (AV.p (.sl _ _ (p.2.2.2.take words.length).length _))
    rw [hlen]
  obtain ⟨b, hb⟩ := call93 (n1 := p.2.2.1) (t1 := (false && decide ((words.length : Int) = p.2.2.2.length))) (n2 := some false) (t2 := true) (p.2.2.2.take words.length) words (by rw [List.length_take]; omega) [] [.box ((enc_Prog p).map .p)]
  cases b with
  | false =>
    refine ⟨false, ?_⟩
    simp only [boxAgg0, ldB0, pg2, Nat.zero_add, call92, h1, hcut, hb, core, leave0_B]
  | true =>
    obtain ⟨b, hr⟩ := loop44 p hc ht (nl := p.2.2.1) p.2.2.2.length 0 [.box ((enc_Prog p).map .p), mapObj (fun s => S s) [] 0] [] 0 (by omega) (by omega) rfl rfl .nil (fun k => .inl rfl)
    refine ⟨b, ?_⟩
    have hm : mkMap [.box ((enc_Prog p).map .p)] = (.mp 1, [.box ((enc_Prog p).map .p), mapObj (fun s => S s) ([] : List (Kv ByteArray)) 0]) := rfl
    have hp : ∀ (o : AObj) j, ld false 1 (.ptr 0 j) [.box ((enc_Prog p).map .p), o] = ((enc_Prog p)[j]?).map .p := fun o j => ldB02 _ _ _ _
    simp only [boxAgg0, ldB0, hp, pg2, Nat.zero_add, call92, h1, hcut, hb, hm, core]
    exact hr

/-! ### Large -/
theorem call90 (s : ByteArray) (lo : List Nat) (H : Heap) : ∃ b, callA cfg O 46 [S s] lo H = some (B b, H) := by
  refine ⟨decide ((200 : Int) < s.size), callA_pure (xs := [.v (.string s)]) (rs := [B _]) (H' := []) rfl ?_ rfl⟩
  show O.ent 46 [S s] [] [] = _
  rw [f46_eq]
  simp only [lenA_str, core, leave0_B]
theorem call91 (g : A_Fn) (lo : List Nat) (H : Heap) : ∃ b, callA cfg O 47 [fnV g] lo H = some (B b, H) ∧ (b = false → g.2.2.2.2.2.length ≤ 600 ∧ g.2.1 ≤ 60) := by
  suffices h : ∃ b, O.ent 47 [fnV g] [] [] = some ([B b], []) ∧ (b = false → g.2.2.2.2.2.length ≤ 600 ∧ g.2.1 ≤ 60) from
    h.imp fun b h => ⟨callA_args (rs := [B b]) rfl (pureArgs1 (pureAgg _ _)) h.1 rfl, h.2⟩
  rw [f47_eq]
  by_cases h : (600 : Int) < g.2.2.2.2.2.length
  · refine ⟨true, ?_, fun e => by cases e⟩
    simp only [boxAgg0, ldB0, fn4, fn1, Nat.zero_add, h, core, leave0_B]
  · refine ⟨decide ((60 : Int) < g.2.1), ?_, fun e => ⟨by omega, by have := of_decide_eq_false e; omega⟩⟩
    simp only [boxAgg0, ldB0, fn4, fn1, Nat.zero_add, h, core, leave0_B]
/-- What the arguments' sizes are. -/
structure POk2 (p : A_Prog) : Prop extends POk p where
  consts : p.2.1.2.length < 2 ^ 63
  texts : p.2.2.2.length < 2 ^ 63
theorem asked_fns (p : A_Prog) (v1 : AV) (H : Heap) (h : ∀ g ∈ p.1.2, ∀ lo, ∃ b, callV cfg O v1 [fnV g] lo H = some (B b, H)) : Asked true 5 (.p (.sl p.1.1 false p.1.2.length (p.1.2.flatMap enc_Fn))) v1 p.1.2.length H := by
  intro i hi
  have x2 := idxL (sz := 5) (nl := p.1.1) (t := false) (n := p.1.2.length) (xs := p.1.2.flatMap enc_Fn) (i := (i : Int)) ⟨by omega, by omega⟩
  rw [Int.toNat_natCast] at x2
  exact ⟨_, _, x2, ldRow len_Fn5 (by decide) hi H, fun lo => h _ (List.getElem_mem hi) lo⟩
theorem askedP_fns {Q : A_Fn → Prop} (p : A_Prog) (v1 : AV) (H : Heap) (h : ∀ g ∈ p.1.2, ∀ lo, ∃ b, callV cfg O v1 [fnV g] lo H = some (B b, H) ∧ (b = false → Q g)) : AskedP (fun i => ∀ g, p.1.2[i]? = some g → Q g) true 5 (.p (.sl p.1.1 false p.1.2.length (p.1.2.flatMap enc_Fn))) v1 p.1.2.length H := by
  intro i hi
  have x2 := idxL (sz := 5) (nl := p.1.1) (t := false) (n := p.1.2.length) (xs := p.1.2.flatMap enc_Fn) (i := (i : Int)) ⟨by omega, by omega⟩
  rw [Int.toNat_natCast] at x2
  refine ⟨_, _, x2, ldRow len_Fn5 (by decide) hi H, fun lo => ?_⟩
  obtain ⟨b, h1, h2⟩ := h _ (List.getElem_mem hi) lo
  refine ⟨b, h1, fun hb g hg => ?_⟩
  rw [List.getElem?_eq_getElem hi] at hg
  cases hg
  exact h2 hb
theorem call43 (p : A_Prog) (hp : POk2 p) (lo : List Nat) (H : Heap) : ∃ b, callA cfg O 20 [pgV p] lo H = some (B b, H) ∧ (b = false → p.1.2.length ≤ 60 ∧ ∀ g ∈ p.1.2, g.2.2.2.2.2.length ≤ 600 ∧ g.2.1 ≤ 60) := by
  suffices h : ∃ b, O.ent 20 [pgV p] [] [] = some ([B b], []) ∧ (b = false → p.1.2.length ≤ 60 ∧ ∀ g ∈ p.1.2, g.2.2.2.2.2.length ≤ 600 ∧ g.2.1 ≤ 60) from
    h.imp fun b h => ⟨callA_args (rs := [B b]) rfl (pureArgs1 (pureAgg _ _)) h.1 rfl, h.2⟩
  rw [f20_eq]
  by_cases h1 : (60 : Int) < p.1.2.length
  · refine ⟨true, ?_, fun e => by cases e⟩
    simp only [boxAgg0, ldB0, pg0, Nat.zero_add, h1, core, leave0_B]
  by_cases h2 : (200 : Int) < p.2.1.2.length
  · refine ⟨true, ?_, fun e => by cases e⟩
    simp only [boxAgg0, ldB0, pg0, pg1, Nat.zero_add, h1, h2, core, leave0_B]
  by_cases h3 : (200 : Int) < p.2.2.2.length
  · refine ⟨true, ?_, fun e => by cases e⟩
    simp only [boxAgg0, ldB0, pg0, pg1, pg2, Nat.zero_add, h1, h2, h3, core, leave0_B]
  have a1 : Asked false 1 (SV p.2.2.1 false p.2.2.2) (.fn 46 [] []) p.2.2.2.length [.box ((enc_Prog p).map .p)] := by
    intro i hi
    exact ⟨_, _, idxS hi, ldS' hi _, fun lo => call90 _ lo _⟩
  obtain ⟨b1, hb1⟩ := call89 hp.texts (lenA_sl _ _ _ _) a1 []
  cases b1 with
  | true =>
    refine ⟨true, ?_, fun e => by cases e⟩
    simp only [boxAgg0, ldB0, pg0, pg1, pg2, Nat.zero_add, h1, h2, h3, hb1, core, leave0_B]
  | false =>
    obtain ⟨b2, hb2, hf2⟩ := call45P hp.fns (lenA_sl _ _ _ _) (askedP_fns p (.fn 47 [] []) [.box ((enc_Prog p).map .p)] fun g _ lo => call91 g lo _) []
    refine ⟨b2, ?_, fun h => ⟨by omega, fun g hg => ?_⟩⟩
    rotate_left
    · obtain ⟨i, hi, rfl⟩ := List.getElem_of_mem hg
      exact hf2 h i hi _ (List.getElem?_eq_getElem hi)
    simp only [boxAgg0, ldB0, pg0, pg1, pg2, Nat.zero_add, h1, h2, h3, hb1, hb2, core, leave0_B]

/-! ### Check -/
theorem callChk (p : A_Prog) (hp : POk2 p) : ∃ e : Int, (e = 0 → 0 < p.1.2.length ∧ p.1.2.length ≤ 60 ∧ ∀ g ∈ p.1.2, 1 ≤ g.2.1 ∧ g.2.1 ≤ 60 ∧ g.2.2.2.2.2.length ≤ 600 ∧ ∀ i ∈ g.2.2.2.2.2, Good g.2.2.2.2.2.length i) ∧ ∀ (lo : List Nat) (H : Heap), callA cfg O 7 [pgV p] lo H = some (I e, H) := by
  suffices h : ∃ e : Int, (e = 0 → 0 < p.1.2.length ∧ p.1.2.length ≤ 60 ∧ ∀ g ∈ p.1.2, 1 ≤ g.2.1 ∧ g.2.1 ≤ 60 ∧ g.2.2.2.2.2.length ≤ 600 ∧ ∀ i ∈ g.2.2.2.2.2, Good g.2.2.2.2.2.length i) ∧ O.ent 7 [pgV p] [] [] = some ([I e], []) by
    obtain ⟨e, h0, h⟩ := h
    exact ⟨e, h0, fun lo H => callA_args (rs := [I e]) rfl (pureArgs1 (pureAgg _ _)) h rfl⟩
  rw [f7_eq]
  have x2 : ld true 3 (.ptr 0 0) [.box ((enc_Prog p).map .p)] = some (pgV p) := ldA0 (len_Prog3 p) (by decide)
  obtain ⟨b1, hb1, hn⟩ := call43 p hp [] [.box ((enc_Prog p).map .p)]
  cases b1 with
  | true =>
    refine ⟨2, (fun e => by omega), ?_⟩
    simp only [boxAgg0, x2, hb1, core, leave0_I]
  | false =>
  obtain ⟨b2, hb2⟩ := call44 p hp.consts hp.texts [] [.box ((enc_Prog p).map .p)]
  cases b2 with
  | false =>
    refine ⟨3, (fun e => by omega), ?_⟩
    simp only [boxAgg0, x2, hb1, hb2, core, leave0_I]
  | true =>
  by_cases h3 : (p.1.2.length : Int) = 0
  · refine ⟨3, (fun e => by omega), ?_⟩
    simp only [boxAgg0, x2, hb1, hb2, ldB0, pg0, Nat.zero_add, h3, core, leave0_I]
  have h0 : 0 < p.1.2.length := by omega
  have x14 : idxA 5 (.p (.sl p.1.1 false p.1.2.length (p.1.2.flatMap enc_Fn))) (I 0) = some (.fp (p.1.2.flatMap enc_Fn) 0) := idxL ⟨by omega, by omega⟩
  have fl : ∀ j (H : Heap), j < 5 → ld false 1 (.fp (p.1.2.flatMap enc_Fn) j) H = ((enc_Fn p.1.2[0])[j]?).map .p := fun j H hj => by
    have := rows_get (ps := p.1.2) (i := 0) len_Fn5 (List.getElem?_eq_getElem h0) hj
    rw [Nat.zero_mul, Nat.zero_add] at this
    rw [ld_fp, this]
  have fl0 := fun H => fl 0 H (by decide)
  have fl2 := fun H => fl 2 H (by decide)
  have fl3 := fun H => fl 3 H (by decide)
  by_cases h4 : p.1.2[0].1 = 0
  case neg =>
    refine ⟨3, (fun e => by omega), ?_⟩
    simp only [boxAgg0, x2, hb1, hb2, ldB0, pg0, Nat.zero_add, h3, x14, fl0, fn0, h4, core, leave0_I]
  by_cases h5 : (0 : Int) < p.1.2[0].2.2.2.1.2.length
  · refine ⟨3, (fun e => by omega), ?_⟩
    simp only [boxAgg0, x2, hb1, hb2, ldB0, pg0, Nat.zero_add, h3, x14, fl0, fl3, fn0, fn3, h4, h5, core, leave0_I]
  cases h6 : p.1.2[0].2.2.1 with
  | true =>
    refine ⟨3, (fun e => by omega), ?_⟩
    simp only [boxAgg0, x2, hb1, hb2, ldB0, pg0, Nat.zero_add, h3, x14, fl0, fl2, fl3, fn0, fn2, fn3, h4, h5, h6, core, leave0_I]
  | false =>
    obtain ⟨b3, hb3, hf3⟩ := call45P hp.fns (lenA_sl _ _ _ _) (askedP_fns (Q := fun g => 1 ≤ g.2.1 ∧ ∀ i ∈ g.2.2.2.2.2, Good g.2.2.2.2.2.length i) p (.fn 23 [] [.ptr 0 0]) [.box ((enc_Prog p).map .p)] fun g hg lo => call46 p hp.toPOk g (by have := (hn rfl).2 g hg; omega) lo) []
    cases b3 with
    | true =>
      refine ⟨3, (fun e => by omega), ?_⟩
      simp only [boxAgg0, x2, hb1, hb2, ldB0, pg0, Nat.zero_add, h3, x14, fl0, fl2, fl3, fn0, fn2, fn3, h4, h5, h6, hb3, core, leave0_I]
    | false =>
      refine ⟨0, (fun _ => ⟨h0, (hn rfl).1, fun g hg => ?_⟩), ?_⟩
      · obtain ⟨i, hi, rfl⟩ := List.getElem_of_mem hg
        have h1 := hf3 rfl i hi _ (List.getElem?_eq_getElem hi)
        have h2 := (hn rfl).2 _ hg
        exact ⟨h1.1, h2.2, h2.1, h1.2⟩
      simp only [boxAgg0, x2, hb1, hb2, ldB0, pg0, Nat.zero_add, h3, x14, fl0, fl2, fl3, fn0, fn2, fn3, h4, h5, h6, hb3, core, leave0_I]
end Ir
end Go.Proofs.YtfdnamedmjhcfaaDoor
