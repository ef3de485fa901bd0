import Derived.Test.YtangmjeafnkfaaaESnapPatches
import Derived.Test.YtangmjeafnkfaaaEAliasAparts
import Derived.Test.YtangmjeafnkfaaaTy
set_option linter.unusedVariables false
set_option linter.unusedSimpArgs false
namespace Go.Proofs.Ytangmjeafnkfaaa
open Go Go.AM
namespace Alias

def frm (op : Int) : List PV × Bool :=
  if op = 1 then ([Ia 0, Ia 0, Ia 1073741824, .v (.bool false), .v (.bool true), Ia 0], true)
  else if op = 2 then ([Ia 0, Ia 0, Ia 0, .v (.bool true), .v (.bool true), Ia 0], true)
  else if op = 3 then ([Ia 0, Ia 0, Ia 0, .v (.bool false), .v (.bool true), Ia 0], true)
  else if op = 4 then ([Ia 1, Ia 0, Ia 6, .v (.bool false), .v (.bool false), Ia 2], true)
  else if op = 5 then ([Ia 1, Ia 0, Ia 1, .v (.bool false), .v (.bool false), Ia 2], true)
  else if op = 6 then ([Ia 1, Ia 0, Ia 0, .v (.bool true), .v (.bool false), Ia 2], true)
  else if op = 7 then ([Ia 2, Ia 3, Ia 10, .v (.bool false), .v (.bool true), Ia 1], true)
  else if op = 8 then ([Ia 1, Ia 11, Ia 12, .v (.bool false), .v (.bool true), Ia 1], true)
  else if op = 9 then ([Ia 1, Ia 1, Ia 7, .v (.bool false), .v (.bool false), Ia 2], true)
  else if op = 10 then ([Ia 1, Ia 0, Ia 99, .v (.bool false), .v (.bool true), Ia 0], true)
  else if op = 11 then ([Ia 2, Ia 0, Ia 99, .v (.bool false), .v (.bool false), Ia 0], true)
  else if op = 12 then ([Ia 2, Ia 1, Ia 1073741824, .v (.bool false), .v (.bool false), Ia 2], true)
  else if op = 13 then ([Ia 2, Ia 0, Ia 0, .v (.bool false), .v (.bool true), Ia 2], true)
  else if op = 14 then ([Ia 3, Ia 0, Ia 0, .v (.bool false), .v (.bool false), Ia 2], true)
  else if op = 15 then ([Ia 1, Ia 0, Ia 0, .v (.bool false), .v (.bool true), Ia 0], true)
  else if op = 16 then ([Ia 0, Ia 1, Ia 3, .v (.bool false), .v (.bool true), Ia 2], true)
  else if op = 17 then ([Ia 2, Ia 0, Ia 0, .v (.bool false), .v (.bool false), Ia 1], true)
  else if op = 18 then ([Ia 0, Ia 0, Ia 0, .v (.bool false), .v (.bool true), Ia 2], true)
  else if op = 19 then ([Ia 0, Ia 1, Ia 1073741824, .v (.bool false), .v (.bool false), Ia 2], true)
  else ([Ia 0, Ia 0, Ia 0, .v (.bool false), .v (.bool false), Ia 0], false)
def tl (op : Int) : Bool := decide (op ∈ ([1, 2, 3, 7, 8, 10, 13, 15, 16, 18] : List Int))
theorem ent134 (op : Int) : ∃ a b c d f, ∃ H', frm op = ([a, b, c, d, .v (.bool (tl op)), f], (frm op).2) ∧ O.ent 134 [I op] [] [] = some ([.agg ((frm op).1.map .p), B (frm op).2], H') := by
  by_cases h1 : op = 1
  · subst h1
    have e : frm 1 = ([Ia 0, Ia 0, Ia 1073741824, .v (.bool false), .v (.bool true), Ia 0], true) := by simp [frm]
    refine ⟨Ia 0, Ia 0, Ia 1073741824, .v (.bool false), Ia 0, [.box [I 0, I 0, I 1073741824, B false, B true, I 0]], ?_, ?_⟩
    · rw [e]; simp [tl]
    · rw [e, f134_eq]; rfl
  by_cases h2 : op = 2
  · subst h2
    have e : frm 2 = ([Ia 0, Ia 0, Ia 0, .v (.bool true), .v (.bool true), Ia 0], true) := by simp [frm]
    refine ⟨Ia 0, Ia 0, Ia 0, .v (.bool true), Ia 0, [.box [I 0, I 0, I 0, B true, B true, I 0]], ?_, ?_⟩
    · rw [e]; simp [tl]
    · rw [e, f134_eq]; rfl
  by_cases h3 : op = 3
  · subst h3
    have e : frm 3 = ([Ia 0, Ia 0, Ia 0, .v (.bool false), .v (.bool true), Ia 0], true) := by simp [frm]
    refine ⟨Ia 0, Ia 0, Ia 0, .v (.bool false), Ia 0, [.box [I 0, I 0, I 0, B false, B true, I 0]], ?_, ?_⟩
    · rw [e]; simp [tl]
    · rw [e, f134_eq]; rfl
  by_cases h4 : op = 4
  · subst h4
    have e : frm 4 = ([Ia 1, Ia 0, Ia 6, .v (.bool false), .v (.bool false), Ia 2], true) := by simp [frm]
    refine ⟨Ia 1, Ia 0, Ia 6, .v (.bool false), Ia 2, [.box [I 1, I 0, I 6, B false, B false, I 2]], ?_, ?_⟩
    · rw [e]; simp [tl]
    · rw [e, f134_eq]; rfl
  by_cases h5 : op = 5
  · subst h5
    have e : frm 5 = ([Ia 1, Ia 0, Ia 1, .v (.bool false), .v (.bool false), Ia 2], true) := by simp [frm]
    refine ⟨Ia 1, Ia 0, Ia 1, .v (.bool false), Ia 2, [.box [I 1, I 0, I 1, B false, B false, I 2]], ?_, ?_⟩
    · rw [e]; simp [tl]
    · rw [e, f134_eq]; rfl
  by_cases h6 : op = 6
  · subst h6
    have e : frm 6 = ([Ia 1, Ia 0, Ia 0, .v (.bool true), .v (.bool false), Ia 2], true) := by simp [frm]
    refine ⟨Ia 1, Ia 0, Ia 0, .v (.bool true), Ia 2, [.box [I 1, I 0, I 0, B true, B false, I 2]], ?_, ?_⟩
    · rw [e]; simp [tl]
    · rw [e, f134_eq]; rfl
  by_cases h7 : op = 7
  · subst h7
    have e : frm 7 = ([Ia 2, Ia 3, Ia 10, .v (.bool false), .v (.bool true), Ia 1], true) := by simp [frm]
    refine ⟨Ia 2, Ia 3, Ia 10, .v (.bool false), Ia 1, [.box [I 2, I 3, I 10, B false, B true, I 1]], ?_, ?_⟩
    · rw [e]; simp [tl]
    · rw [e, f134_eq]; rfl
  by_cases h8 : op = 8
  · subst h8
    have e : frm 8 = ([Ia 1, Ia 11, Ia 12, .v (.bool false), .v (.bool true), Ia 1], true) := by simp [frm]
    refine ⟨Ia 1, Ia 11, Ia 12, .v (.bool false), Ia 1, [.box [I 1, I 11, I 12, B false, B true, I 1]], ?_, ?_⟩
    · rw [e]; simp [tl]
    · rw [e, f134_eq]; rfl
  by_cases h9 : op = 9
  · subst h9
    have e : frm 9 = ([Ia 1, Ia 1, Ia 7, .v (.bool false), .v (.bool false), Ia 2], true) := by simp [frm]
    refine ⟨Ia 1, Ia 1, Ia 7, .v (.bool false), Ia 2, [.box [I 1, I 1, I 7, B false, B false, I 2]], ?_, ?_⟩
    · rw [e]; simp [tl]
    · rw [e, f134_eq]; rfl
  by_cases h10 : op = 10
  · subst h10
    have e : frm 10 = ([Ia 1, Ia 0, Ia 99, .v (.bool false), .v (.bool true), Ia 0], true) := by simp [frm]
    refine ⟨Ia 1, Ia 0, Ia 99, .v (.bool false), Ia 0, [.box [I 1, I 0, I 99, B false, B true, I 0]], ?_, ?_⟩
    · rw [e]; simp [tl]
    · rw [e, f134_eq]; rfl
  by_cases h11 : op = 11
  · subst h11
    have e : frm 11 = ([Ia 2, Ia 0, Ia 99, .v (.bool false), .v (.bool false), Ia 0], true) := by simp [frm]
    refine ⟨Ia 2, Ia 0, Ia 99, .v (.bool false), Ia 0, [.box [I 2, I 0, I 99, B false, B false, I 0]], ?_, ?_⟩
    · rw [e]; simp [tl]
    · rw [e, f134_eq]; rfl
  by_cases h12 : op = 12
  · subst h12
    have e : frm 12 = ([Ia 2, Ia 1, Ia 1073741824, .v (.bool false), .v (.bool false), Ia 2], true) := by simp [frm]
    refine ⟨Ia 2, Ia 1, Ia 1073741824, .v (.bool false), Ia 2, [.box [I 2, I 1, I 1073741824, B false, B false, I 2]], ?_, ?_⟩
    · rw [e]; simp [tl]
    · rw [e, f134_eq]; rfl
  by_cases h13 : op = 13
  · subst h13
    have e : frm 13 = ([Ia 2, Ia 0, Ia 0, .v (.bool false), .v (.bool true), Ia 2], true) := by simp [frm]
    refine ⟨Ia 2, Ia 0, Ia 0, .v (.bool false), Ia 2, [.box [I 2, I 0, I 0, B false, B true, I 2]], ?_, ?_⟩
    · rw [e]; simp [tl]
    · rw [e, f134_eq]; rfl
  by_cases h14 : op = 14
  · subst h14
    have e : frm 14 = ([Ia 3, Ia 0, Ia 0, .v (.bool false), .v (.bool false), Ia 2], true) := by simp [frm]
    refine ⟨Ia 3, Ia 0, Ia 0, .v (.bool false), Ia 2, [.box [I 3, I 0, I 0, B false, B false, I 2]], ?_, ?_⟩
    · rw [e]; simp [tl]
    · rw [e, f134_eq]; rfl
  by_cases h15 : op = 15
  · subst h15
    have e : frm 15 = ([Ia 1, Ia 0, Ia 0, .v (.bool false), .v (.bool true), Ia 0], true) := by simp [frm]
    refine ⟨Ia 1, Ia 0, Ia 0, .v (.bool false), Ia 0, [.box [I 1, I 0, I 0, B false, B true, I 0]], ?_, ?_⟩
    · rw [e]; simp [tl]
    · rw [e, f134_eq]; rfl
  by_cases h16 : op = 16
  · subst h16
    have e : frm 16 = ([Ia 0, Ia 1, Ia 3, .v (.bool false), .v (.bool true), Ia 2], true) := by simp [frm]
    refine ⟨Ia 0, Ia 1, Ia 3, .v (.bool false), Ia 2, [.box [I 0, I 1, I 3, B false, B true, I 2]], ?_, ?_⟩
    · rw [e]; simp [tl]
    · rw [e, f134_eq]; rfl
  by_cases h17 : op = 17
  · subst h17
    have e : frm 17 = ([Ia 2, Ia 0, Ia 0, .v (.bool false), .v (.bool false), Ia 1], true) := by simp [frm]
    refine ⟨Ia 2, Ia 0, Ia 0, .v (.bool false), Ia 1, [.box [I 2, I 0, I 0, B false, B false, I 1]], ?_, ?_⟩
    · rw [e]; simp [tl]
    · rw [e, f134_eq]; rfl
  by_cases h18 : op = 18
  · subst h18
    have e : frm 18 = ([Ia 0, Ia 0, Ia 0, .v (.bool false), .v (.bool true), Ia 2], true) := by simp [frm]
    refine ⟨Ia 0, Ia 0, Ia 0, .v (.bool false), Ia 2, [.box [I 0, I 0, I 0, B false, B true, I 2]], ?_, ?_⟩
    · rw [e]; simp [tl]
    · rw [e, f134_eq]; rfl
  by_cases h19 : op = 19
  · subst h19
    have e : frm 19 = ([Ia 0, Ia 1, Ia 1073741824, .v (.bool false), .v (.bool false), Ia 2], true) := by simp [frm]
    refine ⟨Ia 0, Ia 1, Ia 1073741824, .v (.bool false), Ia 2, [.box [I 0, I 1, I 1073741824, B false, B false, I 2]], ?_, ?_⟩
    · rw [e]; simp [tl]
    · rw [e, f134_eq]; rfl
  have e : frm op = ([Ia 0, Ia 0, Ia 0, .v (.bool false), .v (.bool false), Ia 0], false) := by simp [frm, h1, h2, h3, h4, h5, h6, h7, h8, h9, h10, h11, h12, h13, h14, h15, h16, h17, h18, h19]
  have e2 : tl op = false := by simp [tl, h1, h2, h3, h4, h5, h6, h7, h8, h9, h10, h11, h12, h13, h14, h15, h16, h17, h18, h19]
  refine ⟨Ia 0, Ia 0, Ia 0, .v (.bool false), Ia 0, [.box [I 0, I 0, I 0, B false, B false, I 0]], by rw [e, e2], ?_⟩
  have e1 : boxO [] [I 0, I 0, I 0, B false, B false, I 0] [] = some (.ptr 0 0, [.box [I 0, I 0, I 0, B false, B false, I 0]]) := rfl
  rw [e, f134_eq, e1]
  simp only [obs, bin_eql, cond_B, h1, h2, h3, h4, h5, h6, h7, h8, h9, h10, h11, h12, h13, h14, h15, h16, h17, h18, h19, decide_false, Bool.false_eq_true, if_false]
  rfl

theorem call134 (op : Int) (lo : List Nat) (H : Heap) : callA cfg O 134 [I op] lo H = some (.tup [.agg ((frm op).1.map .p), B (frm op).2], H) := by
  obtain ⟨a, b, c, d, f, H', e, h⟩ := ent134 op
  refine callA_args (rs := [_, _]) rfl rfl h ?_
  rw [e]
  rfl

theorem call88 (op : Int) (lo : List Nat) (H : Heap) : callA cfg O 88 [I op] lo H = some (B (tl op), H) := by
  obtain ⟨a, b, c, d, f, H', e, h⟩ := ent134 op
  refine callA_args (H' := [.box [.p a, .p b, .p c, .p d, B (tl op), .p f]]) (rs := [B (tl op)]) rfl rfl ?_ rfl
  rw [f88_eq]
  simp only [call134, obs, extractA_tup, List.getElem?_cons_zero, List.getElem?_cons_succ]
  rw [e]
  rfl

/-! ### Lists of numbers -/
section
variable {nl : Option Bool} {tg : Bool} {zs : List Int}
abbrev V (nl : Option Bool) (tg : Bool) (zs : List Int) : AV := .p (.sl nl tg zs.length (zs.map Ia))

theorem idx {k : Nat} (h : k < zs.length) : idxA 1 (V nl tg zs) (I k) = some (.fp (zs.map Ia) k) := by
  have := idxA_sl (sz := 1) (n := zs.length) (nl := nl) (t := tg) (xs := zs.map Ia) (j := (k : Int)) (by omega)
  simpa using this

theorem ldi {k : Nat} (h : k < zs.length) (H : Heap) : ld false 1 (.fp (zs.map Ia) k) H = some (I zs[k]) := by
  rw [ld_fp, List.getElem?_map, List.getElem?_eq_getElem h]; rfl

theorem hasLoop (hb : zs.length < 2 ^ 63) (x : Int) (lo : List Nat) (H : Heap) : ∀ (c i : Nat), zs.length - i = c → i ≤ zs.length →
    L92_6 [I x, V nl tg zs, I zs.length, I i] lo H = some ([B (decide (x ∈ zs.drop i))], H) := by
  intro c
  induction c with
  | zero =>
    intro i hc hi
    have : i = zs.length := by omega
    subst this
    rw [L92_6_eq]
    simp only [bin_lss, obs, cond_B]
    rw [if_neg (by simp), List.drop_length]
    rfl
  | succ c ih =>
    intro i hc hi
    have hi' : i < zs.length := by omega
    rw [L92_6_eq]
    simp only [bin_lss, obs, cond_B]
    rw [if_pos (by simp <;> omega), idx hi']
    simp only [obs, ldi hi', bin_eql, cond_B, bin_add]
    rw [wrap_id (by omega), show (i : Int) + 1 = ((i + 1 : Nat) : Int) by omega, ih (i + 1) (by omega) (by omega)]
    have hd : (x ∈ zs.drop i) ↔ (x = zs[i] ∨ x ∈ zs.drop (i + 1)) := by rw [List.drop_eq_getElem_cons hi', List.mem_cons]
    by_cases h : x = zs[i]
    · rw [if_pos (by simpa using h), decide_eq_true (hd.mpr (.inl h))]
      rfl
    · rw [if_neg (by simpa using h)]
      have : decide (x ∈ zs.drop i) = decide (x ∈ zs.drop (i + 1)) := decide_eq_decide.mpr (hd.trans ⟨fun e => e.resolve_left h, .inr⟩)
      rw [this]

theorem call92 (hb : zs.length < 2 ^ 63) (x : Int) (lo : List Nat) (H : Heap) : callA cfg O 92 [V nl tg zs, I x] lo H = some (B (decide (x ∈ zs)), H) := by
  refine callA_args (H' := []) (rs := [B (decide (x ∈ zs))]) rfl rfl ?_ rfl
  rw [f92_eq]
  simp only [lenA_sl, obs]
  have := hasLoop (nl := nl) (tg := tg) hb x [] [] _ 0 rfl (by omega)
  rwa [List.drop_zero] at this

theorem eqLoop {n2 : Option Bool} {t2 : Bool} (hb : zs.length < 2 ^ 63) (lo : List Nat) (H : Heap) : ∀ (c i : Nat), zs.length - i = c → i ≤ zs.length →
    L86_10 [V n2 t2 zs, V nl tg zs, I zs.length, I i] lo H = some ([B true], H) := by
  intro c
  induction c with
  | zero =>
    intro i hc hi
    have : i = zs.length := by omega
    subst this
    rw [L86_10_eq]
    simp only [bin_lss, obs, cond_B]
    rw [if_neg (by simp)]
    rfl
  | succ c ih =>
    intro i hc hi
    have hi' : i < zs.length := by omega
    rw [L86_10_eq]
    simp only [bin_lss, obs, cond_B]
    rw [if_pos (by simp <;> omega), idx hi', obs, ldi hi', obs, idx hi', obs, ldi hi']
    simp only [obs, bin_neq, decide_true, Bool.not_true, cond_B, Bool.false_eq_true, if_false, bin_add]
    rw [wrap_id (by omega), show (i : Int) + 1 = ((i + 1 : Nat) : Int) by omega]
    exact ih (i + 1) (by omega) (by omega)

theorem call86 {n2 : Option Bool} {t2 : Bool} (hb : zs.length < 2 ^ 63) (lo : List Nat) (H : Heap) : callA cfg O 86 [V nl tg zs, V n2 t2 zs] lo H = some (B true, H) := by
  refine callA_args (H' := []) (rs := [B true]) rfl rfl ?_ rfl
  rw [f86_eq]
  simp only [lenA_sl, obs, bin_neq, decide_true, Bool.not_true, cond_B, Bool.false_eq_true, if_false]
  exact eqLoop hb [] [] _ 0 rfl (by omega)
end

theorem call91 (op : Int) (lo : List Nat) (H : Heap) : callA cfg O 91 [I op] lo H = some (B (tl op), H) := by
  refine callA_args (H' := []) (rs := [B (tl op)]) rfl rfl ?_ rfl
  rw [f91_eq]
  have e : litA false 1 [I 1, I 2, I 3, I 7, I 8, I 10, I 13, I 15, I 16, I 18] [] = some (V (some false) true [1, 2, 3, 7, 8, 10, 13, 15, 16, 18], []) := rfl
  simp only [e, obs, call92 (nl := some false) (tg := true) (zs := [1, 2, 3, 7, 8, 10, 13, 15, 16, 18]) (by simp)]
  rfl

def fresh (op : Int) : Bool := decide (op = 16) || decide (op = 18)
def bef (op : Int) : Bool := decide (op ∈ ([1, 2, 3] : List Int))

theorem call89 (op : Int) (lo : List Nat) (H : Heap) : callA cfg O 89 [I op] lo H = some (B (fresh op), H) := by
  refine callA_args (H' := []) (rs := [B (fresh op)]) rfl rfl ?_ rfl
  rw [f89_eq]
  unfold fresh
  by_cases h : op = 16
  · simp [-Option.bind_some, obs, h]
  · simp [-Option.bind_some, obs, h]

theorem call90 (op : Int) (lo : List Nat) (H : Heap) : callA cfg O 90 [I op] lo H = some (B (bef op), H) := by
  refine callA_args (H' := []) (rs := [B (bef op)]) rfl rfl ?_ rfl
  rw [f90_eq]
  unfold bef
  by_cases h : op = 1
  · simp [-Option.bind_some, obs, h]
  · by_cases h2 : op = 2
    · simp [-Option.bind_some, obs, h2]
    · simp [-Option.bind_some, obs, h, h2]

/-! ### A closed fact -/
theorem call87 (lo : List Nat) (H : Heap) : callA cfg O 87 [.agg [I 14, I 4, I 5, I 6, I 0, I 0, I 0, I 0]] lo H = some (V none false [4, 5, 6], H) := by
  have e : frm 14 = ([Ia 3, Ia 0, Ia 0, .v (.bool false), .v (.bool false), Ia 2], true) := by simp [frm]
  have key : ∃ H', O.ent 87 [.agg [I 14, I 4, I 5, I 6, I 0, I 0, I 0, I 0]] [] [] = some ([V none false [4, 5, 6]], H') := by
    rw [f87_eq]
    have e1 : boxO [] (AV.cells (.agg [I 14, I 4, I 5, I 6, I 0, I 0, I 0, I 0])) [] = some (.ptr 0 0, [.box [I 14, I 4, I 5, I 6, I 0, I 0, I 0, I 0]]) := rfl
    have l0 : ld false 1 (.ptr 0 0) [.box [I 14, I 4, I 5, I 6, I 0, I 0, I 0, I 0]] = some (I 14) := rfl
    simp only [e1, obs, fldA_ptr, Nat.zero_add, l0, call134, e, extractA_tup, List.getElem?_cons_zero, List.getElem?_cons_succ]
    exact ⟨_, rfl⟩
  obtain ⟨H', h⟩ := key
  exact callA_args rfl rfl h rfl

theorem call35 (lo : List Nat) (H : Heap) : callA cfg O 35 [] lo H = some (B true, H) := by
  refine callA_args (H' := []) (rs := [B true]) rfl rfl ?_ rfl
  rw [f35_eq]
  have e1 : buildA [I 0, I 0, I 0, I 0, I 0, I 0, I 0, I 0] [(0, 1, I 14), (1, 1, I 4), (2, 1, I 5), (3, 1, I 6)] = some (.agg [I 14, I 4, I 5, I 6, I 0, I 0, I 0, I 0]) := rfl
  have e2 : litA false 1 [I 4, I 5, I 6] [] = some (V (some false) true [4, 5, 6], []) := rfl
  have t1 : tl 13 = true := by simp [tl]
  have t2 : tl 11 = false := by simp [tl]
  simp only [e1, e2, obs, call87, call86 (nl := none) (tg := false) (n2 := some false) (t2 := true) (zs := [4, 5, 6]) (by simp), gdH_B, if_true, call88, t1, pickA_B, t2, gd_B, un_not, Bool.not_false]
  rfl

end Alias
end Go.Proofs.Ytangmjeafnkfaaa
