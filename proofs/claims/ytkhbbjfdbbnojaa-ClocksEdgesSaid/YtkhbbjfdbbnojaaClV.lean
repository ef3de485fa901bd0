import Derived.Test.YtkhbbjfdbbnojaaClU
set_option linter.unusedVariables false
set_option linter.unusedSimpArgs false
namespace Go.Proofs.Ytkhbbjfdbbnojaa
open Go Go.AM
namespace Cl

/-- The last place below j at which p holds. -/
def LastP (p : Nat → Prop) (j : Nat) (o : Option Int) : Prop := ∀ x, o = some x ↔ ∃ i : Nat, x = i ∧ i < j ∧ p i ∧ ∀ k, i < k → k < j → ¬ p k

theorem LastP.zero (p : Nat → Prop) : LastP p 0 none := fun x => ⟨fun h => (by cases h), fun ⟨i, _, h, _⟩ => by omega⟩
theorem LastP.step {p : Nat → Prop} {j : Nat} {o : Option Int} [Decidable (p j)] (h : LastP p j o) : LastP p (j + 1) (if p j then some (j : Int) else o) := by
  intro x
  by_cases hp : p j
  · rw [if_pos hp]
    constructor
    · intro e; cases e; exact ⟨j, rfl, by omega, hp, fun k h1 h2 => by omega⟩
    · rintro ⟨i, rfl, h1, h2, h3⟩
      by_cases e : i = j
      · rw [e]
      · exact (h3 j (by omega) (by omega) hp).elim
  · rw [if_neg hp, h x]
    constructor
    · rintro ⟨i, e, h1, h2, h3⟩
      refine ⟨i, e, by omega, h2, fun k h4 h5 => ?_⟩
      by_cases e2 : k = j
      · rw [e2]; exact hp
      · exact h3 k h4 (by omega)
    · rintro ⟨i, e, h1, h2, h3⟩
      have : i ≠ j := fun e2 => hp (e2 ▸ h2)
      exact ⟨i, e, by omega, h2, fun k h4 h5 => h3 k h4 (by omega)⟩

/-- The places that wait: a made each, and b has undone none since. -/
noncomputable def Wt (a b : Nat → Prop) (j : Nat) : List Int := flt (fun i => dec (a i ∧ ∀ k, i < k → k < j → ¬ b k)) j

theorem flt_none (n : Nat) : flt (fun _ => false) n = [] := by
  induction n with
  | zero => rfl
  | succ n ih => rw [flt_succ, ih]; rfl

theorem Wt_step {a b : Nat → Prop} {j : Nat} [Decidable (a j)] [Decidable (b j)] : Wt a b (j + 1) = (if b j then [] else Wt a b j) ++ if a j then [(j : Int)] else [] := by
  unfold Wt
  rw [flt_succ]
  congr 1
  · by_cases hb : b j
    · rw [if_pos hb, flt_congr (q := fun _ => false), flt_none]
      intro i hi
      cases h : dec (a i ∧ ∀ k, i < k → k < j + 1 → ¬ b k) with
      | false => rfl
      | true => exact ((dec_iff.mp h).2 j hi (by omega) hb).elim
    · rw [if_neg hb]
      refine flt_congr fun i hi => dec_congr ⟨fun h => ⟨h.1, fun k h1 h2 => h.2 k h1 (by omega)⟩, fun h => ⟨h.1, fun k h1 h2 => ?_⟩⟩
      by_cases e : k = j
      · rw [e]; exact hb
      · exact h.2 k h1 (by omega)
  · have e : dec (a j ∧ ∀ k, j < k → k < j + 1 → ¬ b k) = true ↔ a j := by
      rw [dec_iff]
      exact ⟨fun h => h.1, fun h => ⟨h, fun k h1 h2 => by omega⟩⟩
    by_cases ha : a j
    · rw [if_pos ha, if_pos (e.mpr ha)]
    · rw [if_neg ha, if_neg fun h => ha (e.mp h)]

theorem mem_flt {p : Nat → Bool} {n : Nat} {x : Int} : x ∈ flt p n ↔ ∃ i : Nat, x = i ∧ i < n ∧ p i = true := by
  unfold flt
  simp only [List.mem_map, List.mem_filter, List.mem_range]
  constructor
  · rintro ⟨i, ⟨h1, h2⟩, h3⟩; exact ⟨i, h3.symm, h1, h2⟩
  · rintro ⟨i, h3, h1, h2⟩; exact ⟨i, ⟨h1, h2⟩, h3.symm⟩
theorem mem_Wt {a b : Nat → Prop} {j : Nat} {x : Int} : x ∈ Wt a b j ↔ ∃ i : Nat, x = i ∧ i < j ∧ a i ∧ ∀ k, i < k → k < j → ¬ b k := by
  unfold Wt
  rw [mem_flt]
  simp only [dec_iff]

section
variable {l : List E}

/-- Where a weaver stands after j events. -/
structure IV (l : List E) (j : Nat) (la ov : Int → Option Int) (sp fr : List (En Int)) (out : List P2) : Prop where
  la : ∀ t, LastP (fun i => Th l i = t) j (la t)
  ov : ∀ t, LastP (fun i => Kn l i = 17 ∧ Th l i = t) j (ov t)
  sp : ∀ t, cont sp t = Wt (fun i => Kn l i = 11 ∧ Ea l i = t) (fun k => Th l k = t) j
  fr : ∀ t, cont fr t = Wt (fun i => Kn l i = 14 ∧ Ea l i = t) (fun k => Kn l k = 13 ∧ Ea l k = t) j
  mem : ∀ p : P2, p ∈ out ↔ ∃ i y : Nat, p = ((i : Int), (y : Int)) ∧ y < j ∧ ED l i y
  len : out.length ≤ j * 500

theorem mem_opt1 {o : Option Int} {p : Nat → Prop} {j : Nat} (h : LastP p j o) (q : P2) : q ∈ opt1 o j ↔ ∃ i : Nat, q = ((i : Int), (j : Int)) ∧ i < j ∧ p i ∧ ∀ k, i < k → k < j → ¬ p k := by
  cases o with
  | none =>
    simp only [opt1, List.not_mem_nil, false_iff]
    rintro ⟨i, _, h1⟩
    have := (h i).mpr ⟨i, rfl, h1⟩
    cases this
  | some x =>
    obtain ⟨i, rfl, h1⟩ := (h x).mp rfl
    simp only [opt1, List.mem_singleton]
    constructor
    · rintro rfl; exact ⟨i, rfl, h1⟩
    · rintro ⟨i', rfl, h2⟩
      have := (h i').mpr ⟨i', rfl, h2⟩
      cases this
      rfl
theorem Wt_len (a b : Nat → Prop) (j : Nat) : (Wt a b j).length ≤ j := flt_len _ _
theorem mem_wt1 {a b : Nat → Prop} {j : Nat} (q : P2) : q ∈ (Wt a b j).map (fun z => (z, (j : Int))) ↔ ∃ i : Nat, q = ((i : Int), (j : Int)) ∧ i < j ∧ a i ∧ ∀ k, i < k → k < j → ¬ b k := by
  simp only [List.mem_map, mem_Wt]
  constructor
  · rintro ⟨x, ⟨i, rfl, h⟩, rfl⟩; exact ⟨i, rfl, h⟩
  · rintro ⟨i, rfl, h⟩; exact ⟨i, ⟨i, rfl, h⟩, rfl⟩

theorem opt1_len (o : Option Int) (j : Int) : (opt1 o j).length ≤ 1 := by cases o <;> simp [opt1]

theorem IV.step {j : Nat} {la ov la' ov' : Int → Option Int} {sp fr sp' fr' : List (En Int)} {out : List P2} (h : IV l j la ov sp fr out) (hj : j < 200)
    (hla : la' = fun t => if t = Th l j then some (j : Int) else la t) (hov : ov' = fun t => if Kn l j = 17 ∧ t = Th l j then some (j : Int) else ov t)
    (hsp : ∀ t, cont sp' t = (if t = Th l j then [] else cont sp t) ++ if Kn l j = 11 ∧ t = Ea l j then [(j : Int)] else [])
    (hfr : ∀ t, cont fr' t = (if Kn l j = 13 ∧ t = Ea l j then [] else cont fr t) ++ if Kn l j = 14 ∧ t = Ea l j then [(j : Int)] else []) :
    IV l (j + 1) la' ov' sp' fr' (out ++ opt1 (la (Th l j)) j ++ ((cont sp (Th l j)).map fun z => (z, (j : Int))) ++ (if Kn l j = 12 then opt1 (ov (Ea l j)) j else if Kn l j = 13 then (cont fr (Ea l j)).map fun z => (z, (j : Int)) else [])) := by
  have sy : ∀ {a b : Int}, (a = b) = (b = a) := fun {a b} => propext ⟨Eq.symm, Eq.symm⟩
  refine ⟨fun t => ?_, fun t => ?_, fun t => ?_, fun t => ?_, fun p => ?_, ?_⟩
  · have := (h.la t).step
    rw [hla]
    simp only [sy (a := t)]
    exact this
  · have := (h.ov t).step
    rw [hov]
    simp only [sy (a := t)]
    exact this
  · rw [Wt_step, hsp, h.sp]
    simp only [sy (a := t)]
  · rw [Wt_step, hfr, h.fr]
    simp only [sy (a := t)]
  · have key : p ∈ opt1 (la (Th l j)) j ++ ((cont sp (Th l j)).map fun z => (z, (j : Int))) ++ (if Kn l j = 12 then opt1 (ov (Ea l j)) j else if Kn l j = 13 then (cont fr (Ea l j)).map fun z => (z, (j : Int)) else []) ↔ ∃ i : Nat, p = ((i : Int), (j : Int)) ∧ ED l i j := by
      have e1 := mem_opt1 (h.la (Th l j)) p
      have e2 : p ∈ (cont sp (Th l j)).map (fun z => (z, (j : Int))) ↔ ∃ i : Nat, p = ((i : Int), (j : Int)) ∧ i < j ∧ (Kn l i = 11 ∧ Ea l i = Th l j) ∧ ∀ k, i < k → k < j → ¬ Th l k = Th l j := by rw [h.sp]; exact mem_wt1 p
      have e3 : p ∈ (if Kn l j = 12 then opt1 (ov (Ea l j)) j else if Kn l j = 13 then (cont fr (Ea l j)).map fun z => (z, (j : Int)) else []) ↔ ∃ i : Nat, p = ((i : Int), (j : Int)) ∧ i < j ∧ (OV l i j ∨ FR l i j) := by
        by_cases k12 : Kn l j = 12
        · rw [if_pos k12, mem_opt1 (h.ov (Ea l j)) p]
          constructor
          · rintro ⟨i, e, h1, ⟨h2, h3⟩, h4⟩
            exact ⟨i, e, h1, .inl ⟨⟨⟨h2, k12⟩, h3.symm⟩, fun k h5 h6 h7 => h4 k h5 h6 ⟨h7.1, h7.2.trans h3⟩⟩⟩
          · rintro ⟨i, e, h1, ⟨⟨⟨h2, _⟩, h3⟩, h4⟩ | ⟨⟨⟨_, h5⟩, _⟩, _⟩⟩
            · exact ⟨i, e, h1, ⟨h2, h3.symm⟩, fun k h5 h6 h7 => h4 k h5 h6 ⟨h7.1, h7.2.trans h3⟩⟩
            · omega
        · rw [if_neg k12]
          by_cases k13 : Kn l j = 13
          · rw [if_pos k13, h.fr, mem_wt1]
            constructor
            · rintro ⟨i, e, h1, ⟨h2, h3⟩, h4⟩
              exact ⟨i, e, h1, .inr ⟨⟨⟨h2, k13⟩, h3⟩, fun k h5 h6 h7 => h4 k h5 h6 ⟨h7.1, h7.2.trans h3⟩⟩⟩
            · rintro ⟨i, e, h1, ⟨⟨⟨_, h2⟩, _⟩, _⟩ | ⟨⟨⟨h5, _⟩, h6⟩, h7⟩⟩
              · omega
              · exact ⟨i, e, h1, ⟨h5, h6⟩, fun k h8 h9 h10 => h7 k h8 h9 ⟨h10.1, h10.2.trans h6.symm⟩⟩
          · rw [if_neg k13]
            simp only [List.not_mem_nil, false_iff]
            rintro ⟨i, e, h1, ⟨⟨⟨_, h2⟩, _⟩, _⟩ | ⟨⟨⟨_, h2⟩, _⟩, _⟩⟩ <;> omega
      rw [List.mem_append, List.mem_append, e1, e2, e3]
      constructor
      · rintro ((⟨i, e, h1, h2, h3⟩ | ⟨i, e, h1, h2, h3⟩) | ⟨i, e, h1, h2⟩)
        · exact ⟨i, e, h1, .inl ⟨h2, h3⟩⟩
        · exact ⟨i, e, h1, .inr (.inl ⟨h2, h3⟩)⟩
        · exact ⟨i, e, h1, .inr (.inr h2)⟩
      · rintro ⟨i, e, h1, h2 | h2 | h2⟩
        · exact .inl (.inl ⟨i, e, h1, h2.1, h2.2⟩)
        · exact .inl (.inr ⟨i, e, h1, h2.1, h2.2⟩)
        · exact .inr ⟨i, e, h1, h2⟩
    rw [List.append_assoc, List.append_assoc, List.mem_append, ← List.append_assoc, key, h.mem]
    constructor
    · rintro (⟨i, y, e, h1, h2⟩ | ⟨i, e, h2⟩)
      · exact ⟨i, y, e, by omega, h2⟩
      · exact ⟨i, j, e, by omega, h2⟩
    · rintro ⟨i, y, e, h1, h2⟩
      by_cases hy : y = j
      · subst hy; exact .inr ⟨i, e, h2⟩
      · exact .inl ⟨i, y, e, by omega, h2⟩
  · have a1 := opt1_len (la (Th l j)) j
    have a2 : (cont sp (Th l j)).length ≤ j := by rw [h.sp]; exact flt_len _ _
    have a3 : (if Kn l j = 12 then opt1 (ov (Ea l j)) j else if Kn l j = 13 then (cont fr (Ea l j)).map fun z => (z, (j : Int)) else [] : List P2).length ≤ j + 1 := by
      split
      · have := opt1_len (ov (Ea l j)) j; omega
      · split
        · rw [List.length_map, h.fr]
          exact Nat.le_succ_of_le (flt_len _ _)
        · simp
    have a4 := h.len
    simp only [List.length_append, List.length_map]
    omega

theorem m156 : cfg.mode 156 = 1 := rfl

theorem loop128 {nl : Option Bool} {tg : Bool} (hl : l.length ≤ 200) : ∀ (c j : Nat) (X : List (Nat × AObj)) (H : Heap) (o : AV) (out : List P2) (k0 : List (Kv Int)) (c0 : Nat) (sp : List (En Int)) (c1 : Nat) (k2 : List (Kv Int)) (c2 : Nat) (fr : List (En Int)) (c3 : Nat) (la ov : Int → Option Int),
    l.length - j = c → j ≤ l.length → WS X H o out k0 c0 sp c1 k2 c2 fr c3 → Ag k0 la → Ag k2 ov → IV l j la ov sp fr out →
    ∃ X' H' o' out' k0' c0' sp' c1' k2' c2' fr' c3', L128_8 [.ptr 4 0, Rw enc nl tg l, I l.length, I j] [] H = L128_8 [.ptr 4 0, Rw enc nl tg l, I l.length, I l.length] [] H' ∧
      WS X' H' o' out' k0' c0' sp' c1' k2' c2' fr' c3' ∧ (∀ p : P2, p ∈ out' ↔ ∃ i y : Nat, p = ((i : Int), (y : Int)) ∧ y < l.length ∧ ED l i y) ∧ out'.length ≤ 100000 := by
  intro c
  induction c with
  | zero =>
    intro j X H o out k0 c0 sp c1 k2 c2 fr c3 la ov hc hj h hla hov hi
    have : j = l.length := by omega
    subst this
    exact ⟨X, H, o, out, k0, c0, sp, c1, k2, c2, fr, c3, rfl, h, hi.mem, by have := hi.len; omega⟩
  | succ c ih =>
    intro j X H o out k0 c0 sp c1 k2 c2 fr c3 la ov hc hj h hla hov hi
    have hj' : j < l.length := by omega
    have hlt : (j : Int) < l.length := by omega
    have hp := h.push (l.getD j z0) h.five
    obtain ⟨X1, H1, o1, k0', c0', sp', c1', k2', c2', fr', c3', e1, h1, h2, h3, h4, h5⟩ := ent156 hp hla hov
      (fun t => by rw [hi.sp]; exact Nat.lt_of_le_of_lt (flt_len _ _) (by omega)) (fun t => by rw [hi.fr]; exact Nat.lt_of_le_of_lt (flt_len _ _) (by omega)) (by have := hi.len; omega) (j : Int) (l.getD j z0)
    have hi' := hi.step (la' := fun t => if t = Th l j then some (j : Int) else la t) (ov' := fun t => if Kn l j = 17 ∧ t = Th l j then some (j : Int) else ov t) (by omega) rfl rfl h4 h5
    obtain ⟨X2, H2, o2, out2, k0'', c0'', sp'', c1'', k2'', c2'', fr'', c3'', e2, r⟩ := ih (j + 1) X1 H1 o1 _ k0' c0' sp' c1' k2' c2' fr' c3' _ _ (by omega) (by omega) h1 h2 h3 hi'
    refine ⟨X2, H2, o2, out2, k0'', c0'', sp'', c1'', k2'', c2'', fr'', c3'', ?_, r⟩
    rw [← e2, L128_8_eq]
    have c156 : callA cfg O 156 [.ptr 4 0, I j, avE (l.getD j z0)] [] (H ++ [bxE (l.getD j z0)]) = _ := callA_keep m156 e1
    have z12 : ([(I 0), (I 0), (I 0), (I 0), (I 0), (I 0), (I 0), (I 0), (I 0), (I 0), (I 0), (I 0)] : List AV) = (List.replicate 12 (Ia 0)).map .p := rfl
    have hs : stA 12 (.ptr H.length 0) (avE (l.getD j z0)) [] (H ++ [.box ((List.replicate 12 (Ia 0)).map .p)]) = some (H ++ [bxE (l.getD j z0)]) := stA_new rfl rfl (by omega)
    have hl2 : ld true 12 (.ptr H.length 0) (H ++ [bxE (l.getD j z0)]) = some (avE (l.getD j z0)) := ldEA rfl (by omega)
    simp only [hlt, idxE hj', ldEv hj', z12, boxE, hs, hl2, c156, obs, oms, bin_add, bin_sub, bin_lss, bin_leq, bin_gtr, bin_geq, bin_eql, bin_neq, bin_eqlB, bin_neqB, un_not, cond_B, gd_B, gd_undef, gdH_B, gdH_undef, pickA_B, extractA_tup, lenA_sl, lenA_row, fldA_fp, fldA_ptr, fldA_rptr, List.getElem?_cons_zero, List.getElem?_cons_succ, decide_true, decide_false, if_true, if_false, Bool.true_eq_false, Bool.false_eq_true, Bool.not_true, Bool.not_false]
    rw [wrap_id (by omega), nxt]
end
end Cl
end Go.Proofs.Ytkhbbjfdbbnojaa
