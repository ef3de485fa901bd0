/-
The abstract machine's operations, as rewriting rules.
-/
import Derived.Test.YtfdnamedmjhcfaaDoorAm16
set_option linter.unusedVariables false
set_option linter.unusedSectionVars false
set_option linter.unusedSimpArgs false
namespace Go.AM

abbrev Ia (n : Int) : PV := .v (.int .i64 n)

theorem wrap_id {n : Int} (h : -9223372036854775808 ≤ n ∧ n < 9223372036854775808) : IntKind.i64.wrap n = n := by
  simp only [IntKind.wrap, IntKind.bits, IntKind.signed]
  simp
  omega

/-! None of these rules is 'by rfl' in the simplifier's eyes: else the kernel compares whole texts, step by step. -/
theorem obs {α β : Type} (a : α) (f : α → Option β) : (some a).bind f = f a := _root_.id rfl
theorem oms {α β : Type} (a : α) (f : α → β) : (some a).map f = some (f a) := _root_.id rfl
section
variable {H : Heap}
@[simp] theorem bin_add (a b : Int) : bin .add .int (I a) (I b) = some (I (IntKind.i64.wrap (a + b))) := _root_.id rfl
@[simp] theorem bin_sub (a b : Int) : bin .sub .int (I a) (I b) = some (I (IntKind.i64.wrap (a - b))) := _root_.id rfl
@[simp] theorem bin_mul (a b : Int) : bin .mul .int (I a) (I b) = some (I (IntKind.i64.wrap (a * b))) := _root_.id rfl
@[simp] theorem bin_lss (a b : Int) : bin .lss .int (I a) (I b) = some (B (decide (a < b))) := _root_.id rfl
@[simp] theorem bin_leq (a b : Int) : bin .leq .int (I a) (I b) = some (B (decide (a ≤ b))) := _root_.id rfl
@[simp] theorem bin_gtr (a b : Int) : bin .gtr .int (I a) (I b) = some (B (decide (b < a))) := _root_.id rfl
@[simp] theorem bin_geq (a b : Int) : bin .geq .int (I a) (I b) = some (B (decide (b ≤ a))) := _root_.id rfl
@[simp] theorem bin_eql (a b : Int) : bin .eql .int (I a) (I b) = some (B (decide (a = b))) := by
  show some (B (a == b)) = _
  by_cases h : a = b <;> simp [h]
@[simp] theorem bin_neq (a b : Int) : bin .neq .int (I a) (I b) = some (B (!decide (a = b))) := by
  show some (B (a != b)) = _
  by_cases h : a = b <;> simp [h]
@[simp] theorem bin_eqlB (a b : Bool) : bin .eql .bool (B a) (B b) = some (B (a == b)) := _root_.id rfl
@[simp] theorem bin_neqB (a b : Bool) : bin .neq .bool (B a) (B b) = some (B !(a == b)) := _root_.id rfl
@[simp] theorem un_not (b : Bool) : un .not (B b) = some (B !b) := _root_.id rfl
@[simp] theorem cond_B (b : Bool) (x y : Res) : cond (B b) x y = if b = true then x else y := by cases b <;> rfl
@[simp] theorem gd_B (b w : Bool) (x : Option AV) : gd (B b) w x = if b = w then x else some undefA := _root_.id rfl
@[simp] theorem gd_undef (w : Bool) (x : Option AV) : gd undefA w x = some undefA := _root_.id rfl
@[simp] theorem gdH_B (b w : Bool) (x : Option (AV × Heap)) : gdH (B b) w x H = if b = w then x else some (undefA, H) := _root_.id rfl
@[simp] theorem gdH_undef (w : Bool) (x : Option (AV × Heap)) : gdH undefA w x H = some (undefA, H) := _root_.id rfl
@[simp] theorem pickA_B (b : Bool) (x y : AV) : pickA (B b) x y = some (if b = true then x else y) := by cases b <;> rfl
@[simp] theorem extractA_tup (xs : List AV) (j : Nat) : extractA (.tup xs) j = xs[j]? := _root_.id rfl
@[simp] theorem lenA_sl (nl : Option Bool) (t : Bool) (n : Nat) (xs : List PV) : lenA .slice (.p (.sl nl t n xs)) H = some (I n) := _root_.id rfl
@[simp] theorem lenA_row (id g off n : Nat) : lenA .slice (.row id g off n) H = some (I n) := _root_.id rfl
@[simp] theorem lenA_str (s : ByteArray) : lenA .str (S s) H = some (I s.size) := _root_.id rfl
theorem idxA_sl {sz n : Nat} {nl : Option Bool} {t : Bool} {xs : List PV} {j : Int} (h : 0 ≤ j ∧ j < n) : idxA sz (.p (.sl nl t n xs)) (I j) = some (.fp xs (j.toNat * sz)) := if_pos h
theorem idxA_row {sz id g off n : Nat} {j : Int} (h : 0 ≤ j ∧ j < n) : idxA sz (.row id g off n) (I j) = some (.rptr id g (off + j.toNat * sz)) := if_pos h
@[simp] theorem fldA_fp (o off : Nat) (xs : List PV) : fldA o (.fp xs off) = some (.fp xs (off + o)) := _root_.id rfl
@[simp] theorem fldA_ptr (o id off : Nat) : fldA o (.ptr id off) = some (.ptr id (off + o)) := _root_.id rfl
@[simp] theorem fldA_rptr (o id g off : Nat) : fldA o (.rptr id g off) = some (.rptr id g (off + o)) := _root_.id rfl
@[simp] theorem ld_fp (n o : Nat) (xs : List PV) : ld false n (.fp xs o) H = (xs[o]?).map .p := _root_.id rfl
@[simp] theorem leave0_B (lo : List Nat) (b : Bool) : leave 0 lo [B b] H = some ([B b], []) := _root_.id rfl
@[simp] theorem leave0_I (lo : List Nat) (b : Int) : leave 0 lo [I b] H = some ([I b], []) := _root_.id rfl
end

/-- A pure call of pure arguments. -/
theorem callA_pure {cfg : Cfg} {O : Oracle} {g : FuncId} {xs : List PV} {lo : List Nat} {H H' : Heap} {rs : List AV} (hm : cfg.mode g = 0) (h : O.ent g (xs.map .p) [] [] = some (rs, H')) (hr : rs.all (AV.ltd 0) = true) :
    callA cfg O g (xs.map .p) lo H = some (ret rs, H) := by
  have hp : pureArgs H (xs.map .p) = some (xs.map .p, false) := by
    clear h
    induction xs with
    | nil => rfl
    | cons x xs ih => simp [pureArgs, ih, pureArg, pureLeaf]
  unfold callA
  rw [hm]
  simp only [hp, Option.bind_some, h, hr, Bool.not_false, Bool.true_or, Bool.and_true, if_true]

/-- A pure call whose arguments lead nowhere. -/
theorem callA_args {cfg : Cfg} {O : Oracle} {g : FuncId} {xs : List AV} {lo : List Nat} {H H' : Heap} {rs : List AV} (hm : cfg.mode g = 0) (hp : pureArgs H xs = some (xs, false)) (h : O.ent g xs [] [] = some (rs, H')) (hr : rs.all (AV.ltd 0) = true) :
    callA cfg O g xs lo H = some (ret rs, H) := by
  unfold callA
  rw [hm]
  simp only [hp, Option.bind_some, h, hr, Bool.not_false, Bool.true_or, Bool.and_true, if_true]

/-! ### Slices of structs: rows of so many cells -/
theorem rows_drop {α β : Type} {f : α → List β} {k : Nat} (hf : ∀ p, (f p).length = k) : ∀ (ps : List α) (i : Nat), (ps.flatMap f).drop (i * k) = (ps.drop i).flatMap f := by
  intro ps
  induction ps with
  | nil => intro i; simp
  | cons p ps ih =>
    intro i
    cases i with
    | zero => simp
    | succ i =>
      rw [List.flatMap_cons, Nat.add_mul, Nat.one_mul, Nat.add_comm, ← List.drop_drop]
      rw [show (f p ++ ps.flatMap f).drop k = ps.flatMap f by rw [← hf p]; simp]
      rw [ih i]
      rfl

theorem rows_length {α β : Type} {f : α → List β} {k : Nat} (hf : ∀ p, (f p).length = k) : ∀ (ps : List α), (ps.flatMap f).length = ps.length * k := by
  intro ps
  induction ps with
  | nil => simp
  | cons p ps ih => rw [List.flatMap_cons, List.length_append, ih, hf, List.length_cons, Nat.add_mul]; omega

theorem rows_part {α β : Type} {f : α → List β} {k : Nat} (hf : ∀ p, (f p).length = k) {ps : List α} {i : Nat} {p : α} (hi : ps[i]? = some p) : ((ps.flatMap f).drop (i * k)).take k = f p := by
  rw [rows_drop hf]
  have hlt := getElem?_lt hi
  rw [List.drop_eq_getElem_cons hlt, List.flatMap_cons]
  rw [List.getElem?_eq_getElem hlt] at hi
  cases hi
  conv => lhs; rw [← hf ps[i]]
  simp

theorem rows_get {α β : Type} {f : α → List β} {k : Nat} (hf : ∀ p, (f p).length = k) {ps : List α} {i j : Nat} {p : α} (hi : ps[i]? = some p) (hj : j < k) : (ps.flatMap f)[i * k + j]? = (f p)[j]? := by
  rw [← rows_part hf hi, List.getElem?_take, if_pos hj, List.getElem?_drop]

theorem ldAgg_fp {H : Heap} {n o : Nat} {xs : List PV} (h : o + n ≤ xs.length) : ld true n (.fp xs o) H = some (.agg (((xs.drop o).take n).map .p)) := if_pos h

/-- The rules that each step needs. -/
theorem core : (∀ {α β : Type} (a : α) (f : α → Option β), (some a).bind f = f a) ∧ (∀ {α β : Type} (a : α) (f : α → β), (some a).map f = some (f a)) ∧
    (∀ a b : Int, bin .add .int (I a) (I b) = some (I (IntKind.i64.wrap (a + b)))) ∧ (∀ a b : Int, bin .sub .int (I a) (I b) = some (I (IntKind.i64.wrap (a - b)))) ∧
    (∀ a b : Int, bin .lss .int (I a) (I b) = some (B (decide (a < b)))) ∧ (∀ a b : Int, bin .leq .int (I a) (I b) = some (B (decide (a ≤ b)))) ∧ (∀ a b : Int, bin .gtr .int (I a) (I b) = some (B (decide (b < a)))) ∧ (∀ a b : Int, bin .geq .int (I a) (I b) = some (B (decide (b ≤ a)))) ∧
    (∀ a b : Int, bin .eql .int (I a) (I b) = some (B (decide (a = b)))) ∧ (∀ a b : Int, bin .neq .int (I a) (I b) = some (B (!decide (a = b)))) ∧ (∀ a b : Bool, bin .eql .bool (B a) (B b) = some (B (a == b))) ∧ (∀ a b : Bool, bin .neq .bool (B a) (B b) = some (B !(a == b))) ∧
    (∀ b : Bool, un .not (B b) = some (B !b)) ∧ (∀ (b : Bool) (x y : Res), cond (B b) x y = if b = true then x else y) ∧ (∀ (b w : Bool) (x : Option AV), gd (B b) w x = if b = w then x else some undefA) ∧ (∀ (w : Bool) (x : Option AV), gd undefA w x = some undefA) ∧
    (∀ {H : Heap} (b w : Bool) (x : Option (AV × Heap)), gdH (B b) w x H = if b = w then x else some (undefA, H)) ∧ (∀ {H : Heap} (w : Bool) (x : Option (AV × Heap)), gdH undefA w x H = some (undefA, H)) ∧ (∀ (b : Bool) (x y : AV), pickA (B b) x y = some (if b = true then x else y)) ∧
    (∀ (xs : List AV) (j : Nat), extractA (.tup xs) j = xs[j]?) ∧ (∀ {H : Heap} (nl : Option Bool) (t : Bool) (n : Nat) (xs : List PV), lenA .slice (.p (.sl nl t n xs)) H = some (I n)) ∧ (∀ {H : Heap} (id g off n : Nat), lenA .slice (.row id g off n) H = some (I n)) ∧
    (∀ (o off : Nat) (xs : List PV), fldA o (.fp xs off) = some (.fp xs (off + o))) ∧ (∀ o id off : Nat, fldA o (.ptr id off) = some (.ptr id (off + o))) ∧ (∀ o id g off : Nat, fldA o (.rptr id g off) = some (.rptr id g (off + o))) ∧
    (∀ {α : Type} {a : α} {l : List α}, (a :: l)[0]? = some a) ∧ (∀ {α : Type} {a : α} {l : List α} {i : Nat}, (a :: l)[i + 1]? = l[i]?) ∧ (∀ h : Decidable True, @decide True h = true) ∧ (∀ h : Decidable False, @decide False h = false) ∧
    (∀ {α : Type} {h : Decidable True} (t e : α), @ite α True h t e = t) ∧ (∀ {α : Type} {h : Decidable False} (t e : α), @ite α False h t e = e) ∧ ((true = false) = False) ∧ ((false = true) = False) ∧ ((!true) = false) ∧ ((!false) = true) :=
  ⟨@obs, @oms, bin_add, bin_sub, bin_lss, bin_leq, bin_gtr, bin_geq, bin_eql, bin_neq, bin_eqlB, bin_neqB, un_not, cond_B, gd_B, gd_undef, gdH_B, gdH_undef, pickA_B, extractA_tup, lenA_sl, lenA_row, fldA_fp, fldA_ptr, fldA_rptr, List.getElem?_cons_zero, List.getElem?_cons_succ, decide_true, decide_false, if_true, if_false, Bool.true_eq_false, Bool.false_eq_true, Bool.not_true, Bool.not_false⟩

end Go.AM
