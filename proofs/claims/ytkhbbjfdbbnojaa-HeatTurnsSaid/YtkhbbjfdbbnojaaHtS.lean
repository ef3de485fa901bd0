import Derived.Test.YtkhbbjfdbbnojaaEHeatTurns
import Derived.Test.YtkhbbjfdbbnojaaAm30
set_option linter.unusedVariables false
set_option linter.unusedSimpArgs false
namespace Go.Proofs.Ytkhbbjfdbbnojaa
open Go Go.AM
namespace Ht

abbrev K2 := Int × Int
abbrev Hd := Int × Int × Int × Int × Int × Int
def encH (x : Hd) : List PV := [Ia x.1, Ia x.2.1, Ia x.2.2.1, Ia x.2.2.2.1, Ia x.2.2.2.2.1, Ia x.2.2.2.2.2]
abbrev encK (k : K2) : AV := .agg [I k.1, I k.2]
def ky (x : Hd) : K2 := (x.1, x.2.1)
def avH (x : Hd) : AV := .agg ((encH x).map .p)
theorem lenH (x : Hd) : (encH x).length = 6 := rfl

theorem keyK : KeyEnc (.agg 2 [(0, .int), (1, .int)]) encK where
  ok _ := rfl
  eq a b := by
    show some (B ((a.1 == b.1) && ((a.2 == b.2) && true))) = _
    congr 2
    rw [Bool.and_true]
    by_cases h1 : a.1 = b.1 <;> by_cases h2 : a.2 = b.2 <;> simp [h1, h2, Prod.ext_iff]
  same a := by
    show ((decide (IntKind.i64 = IntKind.i64) && (a.1 == a.1)) && ((decide (IntKind.i64 = IntKind.i64) && (a.2 == a.2)) && true)) = true
    simp

/-! ### What a map of heads and a list of heads have in common -/
def fnd (l : List Hd) (k : K2) : Option Hd := l.find? fun x => decide (ky x = k)
def MI (kvs : List (Kv K2)) (l : List Hd) : Prop := (kvs.map fun p => (p.1, p.2.1)).Perm (l.map fun x => (ky x, avH x))

theorem MI.len {kvs : List (Kv K2)} {l : List Hd} (h : MI kvs l) : kvs.length = l.length := by
  have := h.length_eq
  simpa using this

theorem MI.get {kvs : List (Kv K2)} {c : Nat} {l : List Hd} (h : MI kvs l) (hw : WfM kvs c) (k : K2) : aget kvs k = (fnd l k).map avH := by
  cases hf : fnd l k with
  | none =>
    refine aget_none.mpr fun p hp e => ?_
    have : (p.1, p.2.1) ∈ l.map fun x => (ky x, avH x) := h.mem_iff.mp (List.mem_map.mpr ⟨p, hp, rfl⟩)
    obtain ⟨x, hx, e2⟩ := List.mem_map.mp this
    have h1 := List.find?_eq_none.mp hf x hx
    have e3 := congrArg Prod.fst e2
    simp only at e3
    simp [e3, e] at h1
  | some x =>
    have hx := List.mem_of_find?_eq_some hf
    have hk : ky x = k := by simpa using List.find?_some hf
    have : (ky x, avH x) ∈ kvs.map fun p => (p.1, p.2.1) := h.mem_iff.mpr (List.mem_map.mpr ⟨x, hx, rfl⟩)
    obtain ⟨p, hp, e⟩ := List.mem_map.mp this
    have e1 := congrArg Prod.fst e
    have e2 := congrArg Prod.snd e
    simp only at e1 e2
    have := aget_of_mem hw hp
    rw [e1, e2, hk] at this
    rw [this]
    rfl

def putH (l : List Hd) (x : Hd) : List Hd := l.map fun y => if ky y = ky x then x else y
def klt (a b : K2) : Prop := a.1 < b.1 ∨ (a.1 = b.1 ∧ a.2 < b.2)
instance (a b : K2) : Decidable (klt a b) := by unfold klt; infer_instance
def insH (l : List Hd) (x : Hd) : List Hd := l.takeWhile (fun y => decide (klt (ky y) (ky x))) ++ x :: l.dropWhile (fun y => decide (klt (ky y) (ky x)))

theorem MI.upd {kvs : List (Kv K2)} {c : Nat} {l : List Hd} (h : MI kvs l) (hw : WfM kvs c) (x : Hd) (hx : (fnd l (ky x)).isSome = true) : MI (aput kvs (ky x) (avH x) c) (putH l x) := by
  have hg : (aget kvs (ky x)).isSome = true := by rw [h.get hw]; simpa using hx
  unfold MI aput putH
  rw [if_pos hg]
  have := h.map fun q : K2 × AV => if q.1 = ky x then (ky x, avH x) else q
  rw [List.map_map, List.map_map] at this ⊢
  refine (List.Perm.of_eq (List.map_congr_left fun p _ => ?_)).trans (this.trans (List.Perm.of_eq (List.map_congr_left fun y _ => ?_)))
  · simp only [Function.comp]
    split
    · rename_i e; simp only [e, if_true]
    · rename_i e; simp only [e, if_false]
  · simp only [Function.comp]
    split
    · rfl
    · rfl

theorem MI.ins {kvs : List (Kv K2)} {c : Nat} {l : List Hd} (h : MI kvs l) (hw : WfM kvs c) (x : Hd) (hx : fnd l (ky x) = none) : MI (aput kvs (ky x) (avH x) c) (insH l x) := by
  have hg : aget kvs (ky x) = none := by rw [h.get hw, hx]; rfl
  unfold MI aput insH
  rw [if_neg (by rw [hg]; simp), List.map_append, List.map_append, List.map_cons]
  refine (List.perm_append_comm).trans ?_
  refine List.Perm.trans ?_ List.perm_middle.symm
  refine List.Perm.cons _ ?_
  rw [← List.map_append, List.takeWhile_append_dropWhile]
  exact h

/-! ### What is asked of heads -/
def newH (hot : Int) (k : K2) : Hd := (k.1, k.2, 0, hot, 0, 0)
def turnH : Hd → Hd × Int
  | (a, b, c, m, f, s) =>
    if s = 0 then (if m ≤ c + 1 then ((a, b, c + 1, m, f, 1), 1) else ((a, b, c + 1, m, f, 0), 0))
    else if s = 2 ∨ s = 3 then ((a, b, c, m, f, s), s) else ((a, b, c, m, f, s), 0)
def takenH (good : Bool) : Hd → Hd
  | (a, b, c, m, f, s) => if good = true then (a, b, c, m, f, 2) else if 3 ≤ f + 1 then (a, b, 0, 2 * m, f + 1, 3) else (a, b, 0, 2 * m, f + 1, 0)
def badK (k : K2) : Prop := k.1 < 0 ∨ 60 ≤ k.1 ∨ k.2 < 0 ∨ 600 ≤ k.2
instance (k : K2) : Decidable (badK k) := by unfold badK; infer_instance
def turn (hot : Int) (l : List Hd) (k : K2) : List Hd × Int × Int :=
  if badK k then (l, 0, 1) else
  match fnd l k with
  | none => if 100 ≤ l.length then (l, 0, 2) else (insH l (turnH (newH hot k)).1, (turnH (newH hot k)).2, 0)
  | some x => (putH l (turnH x).1, (turnH x).2, 0)
def taken (l : List Hd) (k : K2) (good : Bool) : List Hd × Int :=
  match fnd l k with
  | none => (l, 5)
  | some x => if x.2.2.2.2.2 = 1 then (putH l (takenH good x), 0) else (l, 8)

structure GH (x : Hd) : Prop where
  lim : 1 ≤ x.2.2.2.1
  cnt : 0 ≤ x.2.2.1 ∧ x.2.2.1 ≤ 8000
  cold : x.2.2.2.2.2 = 0 → x.2.2.1 < x.2.2.2.1
  is : x.2.2.2.2.2 = 0 ∨ x.2.2.2.2.2 = 1 ∨ x.2.2.2.2.2 = 2 ∨ x.2.2.2.2.2 = 3
  few : x.2.2.2.2.2 = 0 ∨ x.2.2.2.2.2 = 1 → x.2.2.2.2.1 ≤ 2
  fl : (x.2.2.2.2.1 = 0 ∧ x.2.2.2.1 ≤ 1000) ∨ (x.2.2.2.2.1 = 1 ∧ x.2.2.2.1 ≤ 2000) ∨ (x.2.2.2.2.1 = 2 ∧ x.2.2.2.1 ≤ 4000) ∨ (x.2.2.2.2.1 = 3 ∧ x.2.2.2.1 ≤ 8000)

theorem GH.new {hot : Int} (h : 1 ≤ hot ∧ hot ≤ 1000) (k : K2) : GH (newH hot k) := by
  unfold newH
  exact ⟨h.1, by simp, fun _ => by simp; omega, .inl rfl, fun _ => by simp, .inl ⟨rfl, h.2⟩⟩
theorem turnH_eq (a b c m f s : Int) : turnH (a, b, c, m, f, s) = if s = 0 then (if m ≤ c + 1 then ((a, b, c + 1, m, f, 1), 1) else ((a, b, c + 1, m, f, 0), 0)) else if s = 2 ∨ s = 3 then ((a, b, c, m, f, s), s) else ((a, b, c, m, f, s), 0) := rfl
theorem takenH_eq (good : Bool) (a b c m f s : Int) : takenH good (a, b, c, m, f, s) = if good = true then (a, b, c, m, f, 2) else if 3 ≤ f + 1 then (a, b, 0, 2 * m, f + 1, 3) else (a, b, 0, 2 * m, f + 1, 0) := rfl
theorem GH.turn {x : Hd} (h : GH x) : GH (turnH x).1 := by
  obtain ⟨a, b, c, m, f, s⟩ := x
  obtain ⟨h1, h2, h3, h4, h5, h6⟩ := h
  simp only at *
  rw [turnH_eq]
  by_cases e : s = 0
  · subst e
    have := h3 rfl
    have := h5 (.inl rfl)
    simp only [if_true]
    split
    · exact ⟨h1, (by simp only; omega), (fun e => by simp at e), .inr (.inl rfl), fun _ => h5 (.inl rfl), h6⟩
    · exact ⟨h1, (by simp only; omega), (fun _ => by simp only; omega), .inl rfl, fun _ => h5 (.inl rfl), h6⟩
  · rw [if_neg e]
    have : GH (a, b, c, m, f, s) := ⟨h1, h2, h3, h4, h5, h6⟩
    split <;> exact this
theorem GH.taken {x : Hd} (h : GH x) (hs : x.2.2.2.2.2 = 1) (good : Bool) : GH (takenH good x) := by
  obtain ⟨a, b, c, m, f, s⟩ := x
  obtain ⟨h1, h2, h3, h4, h5, h6⟩ := h
  simp only at *
  have h7 := h5 (.inr hs)
  rw [takenH_eq]
  cases good with
  | true => exact ⟨h1, h2, (fun e => by simp at e), .inr (.inr (.inl rfl)), (fun e => by simp at e), h6⟩
  | false =>
    simp only [Bool.false_eq_true, if_false]
    split
    · exact ⟨(by simp only; omega), (by simp), (fun e => by simp at e), .inr (.inr (.inr rfl)), (fun e => by simp at e), (by simp only; omega)⟩
    · exact ⟨(by simp only; omega), (by simp), (fun _ => by simp only; omega), .inl rfl, (fun _ => by simp only; omega), (by simp only; omega)⟩
theorem ky_turn (x : Hd) : ky (turnH x).1 = ky x := by
  obtain ⟨a, b, c, m, f, s⟩ := x
  rw [turnH_eq]
  split
  · split <;> rfl
  · split <;> rfl
theorem ky_taken (good : Bool) (x : Hd) : ky (takenH good x) = ky x := by
  obtain ⟨a, b, c, m, f, s⟩ := x
  rw [takenH_eq]
  split
  · rfl
  · split <;> rfl
theorem good_put {l : List Hd} {x : Hd} (h : ∀ y ∈ l, GH y) (hx : GH x) : ∀ y ∈ putH l x, GH y := by
  intro y hy
  obtain ⟨z, hz, rfl⟩ := List.mem_map.mp hy
  split
  · exact hx
  · exact h z hz
theorem ins_mem {l : List Hd} {x y : Hd} (h : y ∈ insH l x) : y = x ∨ y ∈ l := by
  unfold insH at h
  rcases List.mem_append.mp h with e | e
  · exact .inr (List.takeWhile_sublist _ |>.subset e)
  · rcases List.mem_cons.mp e with e | e
    · exact .inl e
    · exact .inr (List.dropWhile_sublist _ |>.subset e)
theorem good_ins {l : List Hd} {x : Hd} (h : ∀ y ∈ l, GH y) (hx : GH x) : ∀ y ∈ insH l x, GH y := by
  intro y hy
  rcases ins_mem hy with e | e
  · rw [e]; exact hx
  · exact h y e
theorem fnd_some {l : List Hd} {k : K2} {x : Hd} (h : fnd l k = some x) : x ∈ l ∧ ky x = k := ⟨List.mem_of_find?_eq_some h, by simpa using List.find?_some h⟩

theorem turn_good {hot : Int} (h0 : 1 ≤ hot ∧ hot ≤ 1000) {l : List Hd} (h : ∀ y ∈ l, GH y) (k : K2) : ∀ y ∈ (turn hot l k).1, GH y := by
  unfold turn
  split
  · exact h
  · split
    · split
      · exact h
      · exact good_ins h (GH.new h0 k).turn
    · rename_i x hx
      exact good_put h (h x (fnd_some hx).1).turn
theorem taken_good {l : List Hd} (h : ∀ y ∈ l, GH y) (k : K2) (good : Bool) : ∀ y ∈ (taken l k good).1, GH y := by
  unfold taken
  split
  · exact h
  · rename_i x hx
    split
    · rename_i hs
      exact good_put h ((h x (fnd_some hx).1).taken hs good)
    · exact h

/-! ### The program's own calls -/
abbrev bxK (k : K2) : AObj := .box [I k.1, I k.2]
theorem bld2 (k : K2) : buildA [(I 0), (I 0)] [(0, 1, I k.1), (1, 1, I k.2)] = some (encK k) := _root_.id rfl
theorem box2 (H : Heap) : boxO [] [(I 0), (I 0)] H = some (.ptr H.length 0, H ++ [.box [I 0, I 0]]) := _root_.id rfl
theorem st2 (H : Heap) (lo : List Nat) (k : K2) : stA 2 (.ptr H.length 0) (encK k) lo (H ++ [.box [I 0, I 0]]) = some (H ++ [bxK k]) := stEA (ys := [Ia k.1, Ia k.2]) rfl rfl (by omega)
theorem ld2 (H : Heap) (k : K2) : ld true 2 (.ptr H.length 0) (H ++ [bxK k]) = some (encK k) := ldEA rfl (by omega)
theorem ld2' (H : Heap) (k : K2) (o : AObj) : ld true 2 (.ptr H.length 0) (H ++ [bxK k] ++ [o]) = some (encK k) := by rw [ldP (by simp)]; exact ld2 H k
abbrev bxH (x : Hd) : AObj := .box ((encH x).map .p)
theorem box6 (H : Heap) : boxO [] [(I 0), (I 0), (I 0), (I 0), (I 0), (I 0)] H = some (.ptr H.length 0, H ++ [bxH (0, 0, 0, 0, 0, 0)]) := _root_.id rfl
theorem st6 (H : Heap) (lo : List Nat) (x y : Hd) : stA 6 (.ptr H.length 0) (avH x) lo (H ++ [bxH y]) = some (H ++ [bxH x]) := stEA (ys := encH x) rfl rfl (by omega)
theorem ld6 (H : Heap) (x : Hd) : ld true 6 (.ptr H.length 0) (H ++ [bxH x]) = some (avH x) := ldEA rfl (by omega)
section
variable (H : Heap) (lo : List Nat) (a b c m f s v : Int)
theorem lf2 : ld false 1 (.ptr H.length (0 + 2)) (H ++ [bxH (a, b, c, m, f, s)]) = some (I c) := ldE H _ 1 2
theorem lf3 : ld false 1 (.ptr H.length (0 + 3)) (H ++ [bxH (a, b, c, m, f, s)]) = some (I m) := ldE H _ 1 3
theorem lf4 : ld false 1 (.ptr H.length (0 + 4)) (H ++ [bxH (a, b, c, m, f, s)]) = some (I f) := ldE H _ 1 4
theorem lf5 : ld false 1 (.ptr H.length (0 + 5)) (H ++ [bxH (a, b, c, m, f, s)]) = some (I s) := ldE H _ 1 5
theorem sf2 : stA 1 (.ptr H.length (0 + 2)) (I v) lo (H ++ [bxH (a, b, c, m, f, s)]) = some (H ++ [bxH (a, b, v, m, f, s)]) := stE (v := Ia v) (j := 2) (by simp [encH])
theorem sf3 : stA 1 (.ptr H.length (0 + 3)) (I v) lo (H ++ [bxH (a, b, c, m, f, s)]) = some (H ++ [bxH (a, b, c, v, f, s)]) := stE (v := Ia v) (j := 3) (by simp [encH])
theorem sf4 : stA 1 (.ptr H.length (0 + 4)) (I v) lo (H ++ [bxH (a, b, c, m, f, s)]) = some (H ++ [bxH (a, b, c, m, v, s)]) := stE (v := Ia v) (j := 4) (by simp [encH])
theorem sf5 : stA 1 (.ptr H.length (0 + 5)) (I v) lo (H ++ [bxH (a, b, c, m, f, s)]) = some (H ++ [bxH (a, b, c, m, f, v)]) := stE (v := Ia v) (j := 5) (by simp [encH])
end
theorem leave1 (lo : List Nat) (H : Heap) (xs : List AV) : leave 1 lo xs H = some (xs, H) := _root_.id rfl
theorem okK (lo : List Nat) (id : Nat) (k : K2) (x : Hd) : okLevels lo id [encK k, avH x] = true := by
  simp only [okLevels, List.all_eq_true]
  intro l _
  rw [Bool.or_eq_true]
  right
  rfl
theorem nilP (id off : Nat) : nilCheckA (.ptr id off) = some (.ptr id off) := _root_.id rfl
theorem ex0 (a b : AV) : extractA (.tup [a, b]) 0 = some a := _root_.id rfl
theorem ex1 (a b : AV) : extractA (.tup [a, b]) 1 = some b := _root_.id rfl

/-- The heads' own place: the variable, and its map. -/
abbrev own (hb mid : Nat) (hot : Int) (kvs : List (Kv K2)) (c : Nat) : List (Nat × AObj) := [(mid, mapObj encK kvs c), (hb, .box [I hot, .mp mid])]

section
variable {H : Heap} {hb mid c : Nat} {hot : Int} {kvs : List (Kv K2)} {ls : List Ll} {l : List Hd}

theorem put_end (hC : Cx H (own hb mid hot kvs c) ls) (hne : hb ≠ mid) (hw : WfM kvs c) (k : K2) (x : Hd) (lo : List Nat) :
    ∃ c' H', mapUpdA (.agg 2 [(0, .int), (1, .int)]) (.mp mid) (encK k) (avH x) lo (H ++ [bxK k] ++ [bxH x]) = some H' ∧ Cx H' (own hb mid hot (aput kvs k (avH x) c) c') ls ∧ WfM (aput kvs k (avH x) c) c' :=
  Cx.mapPut keyK ((hC.push [bxK k]).push [bxH x]) (fun q hq => by simp at hq; rw [hq]; exact hne) hw k (okK lo mid k x)

theorem ent59 (hC : Cx H (own hb mid hot kvs c) ls) (hne : hb ≠ mid) (hw : WfM kvs c) (hm : MI kvs l) (hg : ∀ x ∈ l, GH x) (h0 : 1 ≤ hot ∧ hot ≤ 1000) (k : K2) (lo : List Nat) :
    ∃ H' kvs' c', O.ent 59 [.ptr hb 0, I k.1, I k.2] lo H = some ([I (turn hot l k).2.1, I (turn hot l k).2.2], H') ∧ Cx H' (own hb mid hot kvs' c') ls ∧ WfM kvs' c' ∧ MI kvs' (turn hot l k).1 := by
  have hB : H[hb]? = some (.box [I hot, .mp mid]) := hC.at (by simp)
  have hM : H[mid]? = some (mapObj encK kvs c) := hC.at (by simp)
  have hb1 : ∀ o, ld false 1 (.ptr hb (0 + 1)) (H ++ [o]) = some (.mp mid) := fun o => by rw [ld_box (getE hB)]; rfl
  have hb2 : ∀ o o', ld false 1 (.ptr hb (0 + 1)) (H ++ [o] ++ [o']) = some (.mp mid) := fun o o' => by rw [ld_box (getE (getE hB))]; rfl
  have hb3 : ∀ o o', ld false 1 (.ptr hb (0 + 0)) (H ++ [o] ++ [o']) = some (I hot) := fun o o' => by rw [ld_box (getE (getE hB))]; rfl
  rw [f59_eq]
  by_cases hbad : badK k
  · have e : turn hot l k = (l, 0, 1) := by unfold turn; rw [if_pos hbad]
    rw [e]
    refine ⟨H, kvs, c, ?_, hC, hw, hm⟩
    unfold badK at hbad
    by_cases a1 : k.1 < 0
    · simp only [a1, obs, oms, bin_add, bin_sub, bin_lss, bin_leq, bin_gtr, bin_geq, bin_eql, bin_neq, bin_eqlB, bin_neqB, un_not, cond_B, gd_B, gd_undef, gdH_B, gdH_undef, pickA_B, extractA_tup, lenA_sl, lenA_row, fldA_fp, fldA_ptr, fldA_rptr, List.getElem?_cons_zero, List.getElem?_cons_succ, decide_true, decide_false, if_true, if_false, Bool.true_eq_false, Bool.false_eq_true, Bool.not_true, Bool.not_false]; rfl
    by_cases a2 : 60 ≤ k.1
    · simp only [a1, a2, obs, oms, bin_add, bin_sub, bin_lss, bin_leq, bin_gtr, bin_geq, bin_eql, bin_neq, bin_eqlB, bin_neqB, un_not, cond_B, gd_B, gd_undef, gdH_B, gdH_undef, pickA_B, extractA_tup, lenA_sl, lenA_row, fldA_fp, fldA_ptr, fldA_rptr, List.getElem?_cons_zero, List.getElem?_cons_succ, decide_true, decide_false, if_true, if_false, Bool.true_eq_false, Bool.false_eq_true, Bool.not_true, Bool.not_false]; rfl
    by_cases a3 : k.2 < 0
    · simp only [a1, a2, a3, obs, oms, bin_add, bin_sub, bin_lss, bin_leq, bin_gtr, bin_geq, bin_eql, bin_neq, bin_eqlB, bin_neqB, un_not, cond_B, gd_B, gd_undef, gdH_B, gdH_undef, pickA_B, extractA_tup, lenA_sl, lenA_row, fldA_fp, fldA_ptr, fldA_rptr, List.getElem?_cons_zero, List.getElem?_cons_succ, decide_true, decide_false, if_true, if_false, Bool.true_eq_false, Bool.false_eq_true, Bool.not_true, Bool.not_false]; rfl
    have a4 : 600 ≤ k.2 := by omega
    simp only [a1, a2, a3, a4, obs, oms, bin_add, bin_sub, bin_lss, bin_leq, bin_gtr, bin_geq, bin_eql, bin_neq, bin_eqlB, bin_neqB, un_not, cond_B, gd_B, gd_undef, gdH_B, gdH_undef, pickA_B, extractA_tup, lenA_sl, lenA_row, fldA_fp, fldA_ptr, fldA_rptr, List.getElem?_cons_zero, List.getElem?_cons_succ, decide_true, decide_false, if_true, if_false, Bool.true_eq_false, Bool.false_eq_true, Bool.not_true, Bool.not_false]; rfl
  · have hbad' := hbad
    unfold badK at hbad
    have a1 : ¬ k.1 < 0 := by omega
    have a2 : ¬ 60 ≤ k.1 := by omega
    have a3 : ¬ k.2 < 0 := by omega
    have a4 : ¬ 600 ≤ k.2 := by omega
    have hlook : lookA (.agg 2 [(0, .int), (1, .int)]) (.agg [(I 0), (I 0), (I 0), (I 0), (I 0), (I 0)]) true (.mp mid) (encK k) (H ++ [bxK k]) = some (.tup [((fnd l k).map avH).getD (avH (0, 0, 0, 0, 0, 0)), B (fnd l k).isSome]) := by
      rw [map_look2 keyK (getE hM) k, hm.get hw, Option.isSome_map]
      rfl
    -- what follows on a head
    have tail : ∀ x : Hd, GH x → ∃ H' kvs' c', L59_21 [.ptr hb 0, .ptr H.length 0, .ptr (H ++ [bxK k]).length 0] lo (H ++ [bxK k] ++ [bxH x]) = some ([I (turnH x).2, I 0], H') ∧ Cx H' (own hb mid hot kvs' c') ls ∧ WfM kvs' c' ∧ kvs' = aput kvs k (avH (turnH x).1) c := by
      intro x hx
      have end39 : ∀ (y : Hd) (t : Int), ∃ H' kvs' c', L59_39 [.ptr hb 0, .ptr H.length 0, .ptr (H ++ [bxK k]).length 0, I t] lo (H ++ [bxK k] ++ [bxH y]) = some ([I t, I 0], H') ∧ Cx H' (own hb mid hot kvs' c') ls ∧ WfM kvs' c' ∧ kvs' = aput kvs k (avH y) c := by
        intro y t
        obtain ⟨c', H', e, h1, h2⟩ := put_end hC hne hw k y lo
        refine ⟨H', _, c', ?_, h1, h2, rfl⟩
        rw [L59_39_eq]
        simp only [nilP, fldA_ptr, hb2, ld2', ld6, e, obs, oms, leave1]
      obtain ⟨a, b, n, m, f, s⟩ := x
      obtain ⟨g1, g2, g3, g4, g5, g6⟩ := hx
      simp only at g1 g2 g3 g4 g5 g6
      rw [L59_21_eq]
      by_cases e0 : s = 0
      · subst e0
        simp only [fldA_ptr, lf5, lf2, lf3, sf2, obs, oms, bin_add, bin_sub, bin_lss, bin_leq, bin_gtr, bin_geq, bin_eql, bin_neq, bin_eqlB, bin_neqB, un_not, cond_B, gd_B, gd_undef, gdH_B, gdH_undef, pickA_B, extractA_tup, lenA_sl, lenA_row, fldA_fp, fldA_ptr, fldA_rptr, List.getElem?_cons_zero, List.getElem?_cons_succ, decide_true, decide_false, if_true, if_false, Bool.true_eq_false, Bool.false_eq_true, Bool.not_true, Bool.not_false]
        rw [wrap_id (by omega)]
        by_cases hm1 : m ≤ n + 1
        · have et : turnH (a, b, n, m, f, 0) = ((a, b, n + 1, m, f, 1), 1) := by rw [turnH_eq, if_pos rfl, if_pos hm1]
          rw [et]
          simp only [hm1, sf5, obs, oms, bin_add, bin_sub, bin_lss, bin_leq, bin_gtr, bin_geq, bin_eql, bin_neq, bin_eqlB, bin_neqB, un_not, cond_B, gd_B, gd_undef, gdH_B, gdH_undef, pickA_B, extractA_tup, lenA_sl, lenA_row, fldA_fp, fldA_ptr, fldA_rptr, List.getElem?_cons_zero, List.getElem?_cons_succ, decide_true, decide_false, if_true, if_false, Bool.true_eq_false, Bool.false_eq_true, Bool.not_true, Bool.not_false]
          exact end39 _ _
        · have et : turnH (a, b, n, m, f, 0) = ((a, b, n + 1, m, f, 0), 0) := by rw [turnH_eq, if_pos rfl, if_neg hm1]
          rw [et]
          simp only [hm1, obs, oms, bin_add, bin_sub, bin_lss, bin_leq, bin_gtr, bin_geq, bin_eql, bin_neq, bin_eqlB, bin_neqB, un_not, cond_B, gd_B, gd_undef, gdH_B, gdH_undef, pickA_B, extractA_tup, lenA_sl, lenA_row, fldA_fp, fldA_ptr, fldA_rptr, List.getElem?_cons_zero, List.getElem?_cons_succ, decide_true, decide_false, if_true, if_false, Bool.true_eq_false, Bool.false_eq_true, Bool.not_true, Bool.not_false]
          exact end39 _ _
      · simp only [fldA_ptr, lf5, e0, obs, oms, bin_add, bin_sub, bin_lss, bin_leq, bin_gtr, bin_geq, bin_eql, bin_neq, bin_eqlB, bin_neqB, un_not, cond_B, gd_B, gd_undef, gdH_B, gdH_undef, pickA_B, extractA_tup, lenA_sl, lenA_row, fldA_fp, fldA_ptr, fldA_rptr, List.getElem?_cons_zero, List.getElem?_cons_succ, decide_true, decide_false, if_true, if_false, Bool.true_eq_false, Bool.false_eq_true, Bool.not_true, Bool.not_false]
        by_cases e2 : s = 2
        · subst e2
          have et : turnH (a, b, n, m, f, 2) = ((a, b, n, m, f, 2), 2) := by rw [turnH_eq, if_neg e0, if_pos (.inl rfl)]
          rw [et]
          simp only [lf5, obs, oms, bin_add, bin_sub, bin_lss, bin_leq, bin_gtr, bin_geq, bin_eql, bin_neq, bin_eqlB, bin_neqB, un_not, cond_B, gd_B, gd_undef, gdH_B, gdH_undef, pickA_B, extractA_tup, lenA_sl, lenA_row, fldA_fp, fldA_ptr, fldA_rptr, List.getElem?_cons_zero, List.getElem?_cons_succ, decide_true, decide_false, if_true, if_false, Bool.true_eq_false, Bool.false_eq_true, Bool.not_true, Bool.not_false]
          exact end39 _ _
        · by_cases e3 : s = 3
          · subst e3
            have et : turnH (a, b, n, m, f, 3) = ((a, b, n, m, f, 3), 3) := by rw [turnH_eq, if_neg e0, if_pos (.inr rfl)]
            rw [et]
            simp only [e2, lf5, obs, oms, bin_add, bin_sub, bin_lss, bin_leq, bin_gtr, bin_geq, bin_eql, bin_neq, bin_eqlB, bin_neqB, un_not, cond_B, gd_B, gd_undef, gdH_B, gdH_undef, pickA_B, extractA_tup, lenA_sl, lenA_row, fldA_fp, fldA_ptr, fldA_rptr, List.getElem?_cons_zero, List.getElem?_cons_succ, decide_true, decide_false, if_true, if_false, Bool.true_eq_false, Bool.false_eq_true, Bool.not_true, Bool.not_false]
            exact end39 _ _
          · have et : turnH (a, b, n, m, f, s) = ((a, b, n, m, f, s), 0) := by rw [turnH_eq, if_neg e0, if_neg (by omega)]
            rw [et]
            simp only [e2, e3, obs, oms, bin_add, bin_sub, bin_lss, bin_leq, bin_gtr, bin_geq, bin_eql, bin_neq, bin_eqlB, bin_neqB, un_not, cond_B, gd_B, gd_undef, gdH_B, gdH_undef, pickA_B, extractA_tup, lenA_sl, lenA_row, fldA_fp, fldA_ptr, fldA_rptr, List.getElem?_cons_zero, List.getElem?_cons_succ, decide_true, decide_false, if_true, if_false, Bool.true_eq_false, Bool.false_eq_true, Bool.not_true, Bool.not_false]
            exact end39 _ _
    cases hf : fnd l k with
    | none =>
      simp only [hf, Option.map_none, Option.getD_none, Option.isSome_none] at hlook
      by_cases hlen : 100 ≤ l.length
      · have e : turn hot l k = (l, 0, 2) := by unfold turn; rw [if_neg hbad', hf]; simp only [hlen, if_true]
        rw [e]
        refine ⟨_, kvs, c, ?_, (hC.push [bxK k]).push [bxH (0, 0, 0, 0, 0, 0)], hw, hm⟩
        have hl2 : ((100 : Int) ≤ kvs.length) := by rw [hm.len]; omega
        simp only [a1, a2, a3, a4, bld2, box2, st2, nilP, hb1, ld2, hlook, ex0, ex1, box6, st6, hb2, map_len (getE (getE hM)), hl2, obs, oms, bin_add, bin_sub, bin_lss, bin_leq, bin_gtr, bin_geq, bin_eql, bin_neq, bin_eqlB, bin_neqB, un_not, cond_B, gd_B, gd_undef, gdH_B, gdH_undef, pickA_B, extractA_tup, lenA_sl, lenA_row, fldA_fp, fldA_ptr, fldA_rptr, List.getElem?_cons_zero, List.getElem?_cons_succ, decide_true, decide_false, if_true, if_false, Bool.true_eq_false, Bool.false_eq_true, Bool.not_true, Bool.not_false, leave1]
      · have e : turn hot l k = (insH l (turnH (newH hot k)).1, (turnH (newH hot k)).2, 0) := by unfold turn; rw [if_neg hbad', hf]; simp only [hlen, if_false]
        rw [e]
        have hl2 : ¬ ((100 : Int) ≤ kvs.length) := by rw [hm.len]; omega
        obtain ⟨H', kvs', c', q1, q2, q3, q4⟩ := tail (newH hot k) (GH.new h0 k)
        refine ⟨H', kvs', c', ?_, q2, q3, ?_⟩
        · have hbld : buildA [(I 0), (I 0), (I 0), (I 0), (I 0), (I 0)] [(0, 1, I k.1), (1, 1, I k.2), (3, 1, I hot)] = some (avH (newH hot k)) := rfl
          simp only [a1, a2, a3, a4, bld2, box2, st2, nilP, hb1, ld2, hlook, ex0, ex1, box6, st6, hb2, hb3, map_len (getE (getE hM)), hl2, hbld, obs, oms, bin_add, bin_sub, bin_lss, bin_leq, bin_gtr, bin_geq, bin_eql, bin_neq, bin_eqlB, bin_neqB, un_not, cond_B, gd_B, gd_undef, gdH_B, gdH_undef, pickA_B, extractA_tup, lenA_sl, lenA_row, fldA_fp, fldA_ptr, fldA_rptr, List.getElem?_cons_zero, List.getElem?_cons_succ, decide_true, decide_false, if_true, if_false, Bool.true_eq_false, Bool.false_eq_true, Bool.not_true, Bool.not_false, q1]
        · rw [q4]
          have := hm.ins hw (turnH (newH hot k)).1 (by rw [ky_turn]; exact hf)
          rw [ky_turn] at this
          exact this
    | some x =>
      simp only [hf, Option.map_some, Option.getD_some, Option.isSome_some] at hlook
      have e : turn hot l k = (putH l (turnH x).1, (turnH x).2, 0) := by unfold turn; rw [if_neg hbad', hf]
      rw [e]
      obtain ⟨hx1, hx2⟩ := fnd_some hf
      obtain ⟨H', kvs', c', q1, q2, q3, q4⟩ := tail x (hg x hx1)
      refine ⟨H', kvs', c', ?_, q2, q3, ?_⟩
      · simp only [a1, a2, a3, a4, bld2, box2, st2, nilP, hb1, ld2, hlook, ex0, ex1, box6, st6, hb2, obs, oms, bin_add, bin_sub, bin_lss, bin_leq, bin_gtr, bin_geq, bin_eql, bin_neq, bin_eqlB, bin_neqB, un_not, cond_B, gd_B, gd_undef, gdH_B, gdH_undef, pickA_B, extractA_tup, lenA_sl, lenA_row, fldA_fp, fldA_ptr, fldA_rptr, List.getElem?_cons_zero, List.getElem?_cons_succ, decide_true, decide_false, if_true, if_false, Bool.true_eq_false, Bool.false_eq_true, Bool.not_true, Bool.not_false, q1]
      · rw [q4]
        have := hm.upd hw (turnH x).1 (by rw [ky_turn, hx2, hf]; rfl)
        rw [ky_turn, hx2] at this
        exact this

theorem ent58 (hC : Cx H (own hb mid hot kvs c) ls) (hne : hb ≠ mid) (hw : WfM kvs c) (hm : MI kvs l) (hg : ∀ x ∈ l, GH x) (k : K2) (good : Bool) (lo : List Nat) :
    ∃ H' kvs' c', O.ent 58 [.ptr hb 0, I k.1, I k.2, B good] lo H = some ([I (taken l k good).2], H') ∧ Cx H' (own hb mid hot kvs' c') ls ∧ WfM kvs' c' ∧ MI kvs' (taken l k good).1 := by
  have hB : H[hb]? = some (.box [I hot, .mp mid]) := hC.at (by simp)
  have hM : H[mid]? = some (mapObj encK kvs c) := hC.at (by simp)
  have hb1 : ∀ o, ld false 1 (.ptr hb (0 + 1)) (H ++ [o]) = some (.mp mid) := fun o => by rw [ld_box (getE hB)]; rfl
  have hb2 : ∀ o o', ld false 1 (.ptr hb (0 + 1)) (H ++ [o] ++ [o']) = some (.mp mid) := fun o o' => by rw [ld_box (getE (getE hB))]; rfl
  have hlook : lookA (.agg 2 [(0, .int), (1, .int)]) (.agg [(I 0), (I 0), (I 0), (I 0), (I 0), (I 0)]) true (.mp mid) (encK k) (H ++ [bxK k]) = some (.tup [((fnd l k).map avH).getD (avH (0, 0, 0, 0, 0, 0)), B (fnd l k).isSome]) := by
    rw [map_look2 keyK (getE hM) k, hm.get hw, Option.isSome_map]
    rfl
  rw [f58_eq]
  cases hf : fnd l k with
  | none =>
    simp only [hf, Option.map_none, Option.getD_none, Option.isSome_none] at hlook
    have e : taken l k good = (l, 5) := by unfold taken; rw [hf]
    rw [e]
    refine ⟨_, kvs, c, ?_, (hC.push [bxK k]).push [bxH (0, 0, 0, 0, 0, 0)], hw, hm⟩
    simp only [bld2, box2, st2, nilP, hb1, ld2, hlook, ex0, ex1, box6, st6, obs, oms, bin_add, bin_sub, bin_lss, bin_leq, bin_gtr, bin_geq, bin_eql, bin_neq, bin_eqlB, bin_neqB, un_not, cond_B, gd_B, gd_undef, gdH_B, gdH_undef, pickA_B, extractA_tup, lenA_sl, lenA_row, fldA_fp, fldA_ptr, fldA_rptr, List.getElem?_cons_zero, List.getElem?_cons_succ, decide_true, decide_false, if_true, if_false, Bool.true_eq_false, Bool.false_eq_true, Bool.not_true, Bool.not_false, leave1]
  | some x =>
    simp only [hf, Option.map_some, Option.getD_some, Option.isSome_some] at hlook
    obtain ⟨hx1, hx2⟩ := fnd_some hf
    have hx := hg x hx1
    have end27 : ∀ y : Hd, ∃ H' kvs' c', L58_27 [.ptr hb 0, .ptr H.length 0, .ptr (H ++ [bxK k]).length 0] lo (H ++ [bxK k] ++ [bxH y]) = some ([I 0], H') ∧ Cx H' (own hb mid hot kvs' c') ls ∧ WfM kvs' c' ∧ kvs' = aput kvs k (avH y) c := by
      intro y
      obtain ⟨c', H', e, h1, h2⟩ := put_end hC hne hw k y lo
      refine ⟨H', _, c', ?_, h1, h2, rfl⟩
      rw [L58_27_eq]
      simp only [nilP, fldA_ptr, hb2, ld2', ld6, e, obs, oms, leave1]
    by_cases hs : x.2.2.2.2.2 = 1
    · have e : taken l k good = (putH l (takenH good x), 0) := by unfold taken; rw [hf]; simp only [hs, if_true]
      rw [e]
      obtain ⟨H', kvs', c', q1, q2, q3, q4⟩ := end27 (takenH good x)
      refine ⟨H', kvs', c', ?_, q2, q3, ?_⟩
      · obtain ⟨a, b, n, m, f, s⟩ := x
        simp only at hs
        subst hs
        obtain ⟨g1, g2, g3, g4, g5, g6⟩ := hx
        simp only at g1 g2 g3 g4 g5 g6
        cases good with
        | true =>
          have et : takenH true (a, b, n, m, f, 1) = (a, b, n, m, f, 2) := rfl
          rw [et] at q1
          simp only [bld2, box2, st2, nilP, hb1, ld2, hlook, ex0, ex1, box6, st6, lf5, sf5, obs, oms, bin_add, bin_sub, bin_lss, bin_leq, bin_gtr, bin_geq, bin_eql, bin_neq, bin_eqlB, bin_neqB, un_not, cond_B, gd_B, gd_undef, gdH_B, gdH_undef, pickA_B, extractA_tup, lenA_sl, lenA_row, fldA_fp, fldA_ptr, fldA_rptr, List.getElem?_cons_zero, List.getElem?_cons_succ, decide_true, decide_false, if_true, if_false, Bool.true_eq_false, Bool.false_eq_true, Bool.not_true, Bool.not_false, q1]
        | false =>
          have hw1 : IntKind.i64.wrap (f + 1) = f + 1 := wrap_id (by omega)
          have hw2 : IntKind.i64.wrap (2 * m) = 2 * m := wrap_id (by omega)
          by_cases h3 : 3 ≤ f + 1
          · have et : takenH false (a, b, n, m, f, 1) = (a, b, 0, 2 * m, f + 1, 3) := by rw [takenH_eq]; simp only [Bool.false_eq_true, if_false, h3, if_true]
            rw [et] at q1
            simp only [bld2, box2, st2, nilP, hb1, ld2, hlook, ex0, ex1, box6, st6, lf5, lf4, lf3, hw1, hw2, bin_mul, sf2, sf3, sf4, sf5, h3, obs, oms, bin_add, bin_sub, bin_lss, bin_leq, bin_gtr, bin_geq, bin_eql, bin_neq, bin_eqlB, bin_neqB, un_not, cond_B, gd_B, gd_undef, gdH_B, gdH_undef, pickA_B, extractA_tup, lenA_sl, lenA_row, fldA_fp, fldA_ptr, fldA_rptr, List.getElem?_cons_zero, List.getElem?_cons_succ, decide_true, decide_false, if_true, if_false, Bool.true_eq_false, Bool.false_eq_true, Bool.not_true, Bool.not_false, q1]
          · have et : takenH false (a, b, n, m, f, 1) = (a, b, 0, 2 * m, f + 1, 0) := by rw [takenH_eq]; simp only [Bool.false_eq_true, if_false, h3]
            rw [et] at q1
            simp only [bld2, box2, st2, nilP, hb1, ld2, hlook, ex0, ex1, box6, st6, lf5, lf4, lf3, hw1, hw2, bin_mul, sf2, sf3, sf4, sf5, h3, obs, oms, bin_add, bin_sub, bin_lss, bin_leq, bin_gtr, bin_geq, bin_eql, bin_neq, bin_eqlB, bin_neqB, un_not, cond_B, gd_B, gd_undef, gdH_B, gdH_undef, pickA_B, extractA_tup, lenA_sl, lenA_row, fldA_fp, fldA_ptr, fldA_rptr, List.getElem?_cons_zero, List.getElem?_cons_succ, decide_true, decide_false, if_true, if_false, Bool.true_eq_false, Bool.false_eq_true, Bool.not_true, Bool.not_false, q1]
      · rw [q4]
        have := hm.upd hw (takenH good x) (by rw [ky_taken, hx2, hf]; rfl)
        rw [ky_taken, hx2] at this
        exact this
    · have e : taken l k good = (l, 8) := by unfold taken; rw [hf]; simp only [hs, if_false]
      rw [e]
      refine ⟨_, kvs, c, ?_, (hC.push [bxK k]).push [bxH x], hw, hm⟩
      obtain ⟨a, b, n, m, f, s⟩ := x
      simp only at hs
      simp only [bld2, box2, st2, nilP, hb1, ld2, hlook, ex0, ex1, box6, st6, lf5, hs, obs, oms, bin_add, bin_sub, bin_lss, bin_leq, bin_gtr, bin_geq, bin_eql, bin_neq, bin_eqlB, bin_neqB, un_not, cond_B, gd_B, gd_undef, gdH_B, gdH_undef, pickA_B, extractA_tup, lenA_sl, lenA_row, fldA_fp, fldA_ptr, fldA_rptr, List.getElem?_cons_zero, List.getElem?_cons_succ, decide_true, decide_false, if_true, if_false, Bool.true_eq_false, Bool.false_eq_true, Bool.not_true, Bool.not_false, leave1]
end
end Ht
end Go.Proofs.Ytkhbbjfdbbnojaa
