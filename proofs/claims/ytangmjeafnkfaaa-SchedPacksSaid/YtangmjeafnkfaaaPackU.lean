import Derived.Test.YtangmjeafnkfaaaPackT
set_option linter.unusedVariables false
set_option linter.unusedSimpArgs false
namespace Go.Proofs.Ytangmjeafnkfaaa
open Go Go.AM
namespace Pack

def upk : Option Int → List (Int × Int) → List Int → Int × List Int
  | _, [], acc => (0, acc)
  | prev, (t, m) :: r, acc =>
    if thr t = false then (1, []) else if m < 1 ∨ prev = some t then (3, []) else if 200 < (acc.length : Int) + m then (2, []) else upk (some t) r (acc ++ List.replicate m.toNat t)

def prevOf (l : List (Int × Int)) (i : Nat) : Option Int := if i = 0 then none else (l[i - 1]?).map (·.1)

section
variable {nl : Option Bool} {tg : Bool} {l : List (Int × Int)}
abbrev W (nl : Option Bool) (tg : Bool) (l : List (Int × Int)) : AV := .p (.sl nl tg l.length (l.flatMap val))

theorem idxw {k : Nat} (h : k < l.length) : idxA 2 (W nl tg l) (I k) = some (.fp (l.flatMap val) (k * 2)) := by
  have := idxA_sl (sz := 2) (n := l.length) (nl := nl) (t := tg) (xs := l.flatMap val) (j := (k : Int)) (by omega)
  simpa using this

theorem wholew {k : Nat} (h : k < l.length) (H : Heap) : ld true 2 (.fp (l.flatMap val) (k * 2)) H = some (.agg [I l[k].1, I l[k].2]) := by
  rw [ldAgg_fp (by rw [rows_length val_len]; omega), rows_part val_len (List.getElem?_eq_getElem h)]
  rfl

theorem part0 {k : Nat} (h : k < l.length) (H : Heap) : ld false 1 (.fp (l.flatMap val) (k * 2 + 0)) H = some (I l[k].1) := by
  rw [ld_fp, rows_get val_len (List.getElem?_eq_getElem h) (by omega)]; rfl
theorem part1 {k : Nat} (h : k < l.length) (H : Heap) : ld false 1 (.fp (l.flatMap val) (k * 2 + 1)) H = some (I l[k].2) := by
  rw [ld_fp, rows_get val_len (List.getElem?_eq_getElem h) (by omega)]; rfl

theorem prev_zero (l : List (Int × Int)) : prevOf l 0 = none := rfl
theorem prev_pos {i : Nat} (h0 : 0 < i) (h : i - 1 < l.length) : prevOf l i = some (l[i - 1]).1 := by
  unfold prevOf
  rw [if_neg (by omega), List.getElem?_eq_getElem h]
  rfl

theorem upk_step {i : Nat} (hi : i < l.length) (acc : List Int) : upk (prevOf l i) (l.drop i) acc =
    if thr l[i].1 = false then (1, []) else if l[i].2 < 1 ∨ prevOf l i = some l[i].1 then (3, []) else if 200 < (acc.length : Int) + l[i].2 then (2, []) else upk (prevOf l (i + 1)) (l.drop (i + 1)) (acc ++ List.replicate l[i].2.toNat l[i].1) := by
  have e : prevOf l (i + 1) = some l[i].1 := by rw [prev_pos (i := i + 1) (by omega) (by simpa using hi)]; rfl
  rw [List.drop_eq_getElem_cons hi, e]
  generalize l[i] = p
  obtain ⟨t, m⟩ := p
  rfl

theorem unLoop (hb : l.length < 2 ^ 63) (lo : List Nat) : ∀ (c i : Nat) (out : AV) (H : Heap) (acc : List Int), l.length - i = c → i ≤ l.length → acc.length ≤ 200 → Lst 1 out H acc.length (acc.map Ia) →
    ∃ nl' tg' H', L59_8 [W nl tg l, out, W nl tg l, I l.length, I i] lo H = some (if (upk (prevOf l i) (l.drop i) acc).1 = 0 then [.p (.sl nl' tg' (upk (prevOf l i) (l.drop i) acc).2.length ((upk (prevOf l i) (l.drop i) acc).2.map Ia)), I 0] else [.p nilS, I (upk (prevOf l i) (l.drop i) acc).1], H') := by
  intro c
  induction c with
  | zero =>
    intro i out H acc hc hi ha hL
    have : i = l.length := by omega
    subst this
    have hu : upk (prevOf l l.length) (l.drop l.length) acc = (0, acc) := by
      rw [List.drop_length]; rfl
    rw [hu]
    obtain ⟨nl', tg', H', e⟩ := hL.leave2 lo (Ia 0)
    refine ⟨nl', tg', H', ?_⟩
    rw [L59_8_eq]
    simp only [bin_lss, obs, cond_B]
    rw [if_neg (by simp)]
    exact e
  | succ c ih =>
    intro i out H acc hc hi ha hL
    have hi' : i < l.length := by omega
    rw [upk_step hi', L59_8_eq]
    simp only [bin_lss, obs, cond_B]
    rw [if_pos (by simp <;> omega), idxw hi', obs, wholew hi', obs, Spool.boxZ]
    have hst : stA 2 (.ptr H.length 0) (.agg [I l[i].1, I l[i].2]) lo (H ++ [.box [I 0, I 0]]) = some (H ++ [.box [I l[i].1, I l[i].2]]) := Spool.st_new (ys := [Ia l[i].1, Ia l[i].2]) rfl rfl
    have hbx : (H ++ [AObj.box [I l[i].1, I l[i].2]])[H.length]? = some (.box [I l[i].1, I l[i].2]) := by simp
    have hl0 : ld false 1 (.ptr H.length 0) (H ++ [.box [I l[i].1, I l[i].2]]) = some (I l[i].1) := by rw [ld_box hbx]; rfl
    have hl1 : ld false 1 (.ptr H.length 1) (H ++ [.box [I l[i].1, I l[i].2]]) = some (I l[i].2) := by rw [ld_box hbx]; rfl
    simp only [obs, hst, oms, fldA_ptr, Nat.zero_add, hl0, hl1, call124, un_not, cond_B]
    cases ht : thr l[i].1 with
    | false =>
      simp only [Bool.not_false, if_true]
      exact ⟨none, false, _, rfl⟩
    | true =>
      simp only [Bool.not_true, Bool.false_eq_true, if_false, bin_lss, obs]
      have hL1 := hL.push [.box [I l[i].1, I l[i].2]]
      -- the second check
      have chk : ∀ K : AV → Res, ((gd (B (decide (l[i].2 < 1))) false (some (I i))).bind fun x13 =>
          (gd (B (decide (l[i].2 < 1))) false (bin .gtr .int x13 (I 0))).bind fun x14 =>
          (gd (B (decide (l[i].2 < 1))) false (some x14)).bind fun x15 =>
          (gd x15 true (some (W nl tg l))).bind fun x16 =>
          (gd x15 true (some (I i))).bind fun x17 =>
          (gd x15 true (bin .sub .int x17 (I 1))).bind fun x18 =>
          (gd x15 true (idxA 2 x16 x18)).bind fun x19 =>
          (gd x15 true (fldA 0 x19)).bind fun x20 =>
          (gd x15 true (ld false 1 x20 (H ++ [.box [I l[i].1, I l[i].2]]))).bind fun x21 =>
          (gd x15 true (some (.ptr H.length 0))).bind fun x22 =>
          (gd x15 true (ld false 1 x22 (H ++ [.box [I l[i].1, I l[i].2]]))).bind fun x23 =>
          (gd x15 true (bin .eql .int x21 x23)).bind fun x24 =>
          (gd (B (decide (l[i].2 < 1))) false (pickA x15 x24 (B false))).bind fun x25 =>
          (pickA (B (decide (l[i].2 < 1))) (B true) x25).bind K) = K (B (decide (l[i].2 < 1 ∨ prevOf l i = some l[i].1))) := by
        intro K
        by_cases h1 : l[i].2 < 1
        · simp only [h1, decide_true, gd_B, Bool.true_eq_false, if_false, obs, gd_undef, pickA_B, if_true, true_or]
        · by_cases h2 : 0 < i
          · have h2' : (0 : Int) < i := by omega
            have hp : i - 1 < l.length := by omega
            simp only [h1, decide_false, gd_B, if_true, obs, bin_gtr, h2', decide_true, bin_sub]
            rw [wrap_id (by omega), show (i : Int) - 1 = ((i - 1 : Nat) : Int) by omega, idxw hp]
            simp only [obs, fldA_fp, part0 hp, hl0, bin_eql, pickA_B, if_true, Bool.false_eq_true, if_false, prev_pos h2 hp, Option.some.injEq, false_or]
          · have : i = 0 := by omega
            subst this
            simp [-Option.bind_some, obs, h1, prev_zero]
      rw [chk]
      simp only [cond_B]
      by_cases hbad : l[i].2 < 1 ∨ prevOf l i = some l[i].1
      · simp only [hbad, decide_true, if_true]
        exact ⟨none, false, _, rfl⟩
      · simp only [hbad, decide_false, Bool.false_eq_true, if_false, hL1.len, obs, bin_sub]
        rw [wrap_id (by omega)]
        simp only [bin_gtr, obs, cond_B]
        by_cases hlg : (200 : Int) < acc.length + l[i].2
        · have hlg' : (200 : Int) - (acc.length : Nat) < l[i].2 := by omega
          simp only [hlg, hlg', decide_true, if_true]
          exact ⟨none, false, _, rfl⟩
        · have hlg' : ¬ ((200 : Int) - (acc.length : Nat) < l[i].2) := by omega
          simp only [hlg, hlg', decide_false, Bool.false_eq_true, if_false]
          obtain ⟨m, hm⟩ : ∃ m : Nat, l[i].2 = m := ⟨l[i].2.toNat, by omega⟩
          have hlit : litA false 1 [I l[i].1] (H ++ [.box [I l[i].1, I l[i].2]]) = some (.p (.sl (some false) true 1 [Ia l[i].1]), H ++ [.box [I l[i].1, I l[i].2]]) := rfl
          obtain ⟨nr, tr, h125⟩ := call125 (nl := some false) (tg := true) l[i].1 m (by omega) (by omega) lo (H ++ [.box [I l[i].1, I l[i].2]])
          rw [hm] at h125 hlit
          obtain ⟨out', H2, ea, hL', _⟩ := hL1.app (bytes := 8) (y := .p (.sl nr tr m (List.replicate m (Ia l[i].1)))) (k := m) (new := List.replicate m (Ia l[i].1)) (by simp [cellsA]) (by simp) (by omega) (by simp only [room]; omega)
          rw [hm] at ea hL1 hl1 ⊢
          simp only [hlit, obs, hl1, h125, ea, bin_add, Int.toNat_natCast]
          rw [wrap_id (by omega), show (i : Int) + 1 = ((i + 1 : Nat) : Int) by omega]
          exact ih (i + 1) out' H2 (acc ++ List.replicate m l[i].1) (by omega) (by omega) (by simp; omega) (by simpa using hL')

/-! ### The document's lists -/
theorem putLoop {i : Nat} (hi : i < l.length) (m : Nat) (hm : l[i].2 = m) (hm2 : m < 9223372036854775808) (hb : l.length < 2 ^ 63) (lo : List Nat) : ∀ (c k : Nat) (out : AV) (H : Heap) (acc : List Int), m - k = c → k ≤ m → acc.length ≤ 200 → Lst 1 out H acc.length (acc.map Ia) →
    (200 < acc.length + (m - k) → ∃ H', L60_22 [W nl tg l, out, I i, I k] lo H = some ([.p nilS, I 2], H')) ∧
    (acc.length + (m - k) ≤ 200 → ∃ out' H', Lst 1 out' H' (acc.length + (m - k)) ((acc ++ List.replicate (m - k) l[i].1).map Ia) ∧ L60_22 [W nl tg l, out, I i, I k] lo H = L60_8 [W nl tg l, out', I (i + 1 : Nat)] lo H') := by
  intro c
  induction c with
  | zero =>
    intro k out H acc hc hk ha hL
    have : k = m := by omega
    subst this
    refine ⟨fun h => by omega, fun _ => ⟨out, H, by simpa using hL, ?_⟩⟩
    rw [L60_22_eq]
    simp only [idxw hi, obs, fldA_fp, part1 hi, hm, bin_lss, cond_B]
    rw [if_neg (by simp)]
    simp only [bin_add, obs]
    rw [wrap_id (by omega), show (i : Int) + 1 = ((i + 1 : Nat) : Int) by omega]
  | succ c ih =>
    intro k out H acc hc hk ha hL
    have hk' : k < m := by omega
    by_cases h200 : acc.length = 200
    · refine ⟨fun _ => ⟨H, ?_⟩, fun h => by omega⟩
      rw [L60_22_eq]
      simp only [idxw hi, obs, fldA_fp, part1 hi, hm, bin_lss, cond_B]
      rw [if_pos (by simp <;> omega)]
      simp only [hL.len, obs, bin_eql, cond_B]
      rw [if_pos (by simp <;> omega)]
      rfl
    · have hlit : litA false 1 [I l[i].1] H = some (.p (.sl (some false) true 1 [Ia l[i].1]), H) := rfl
      obtain ⟨out', H2, ea, hL', _⟩ := hL.app (bytes := 8) (y := .p (.sl (some false) true 1 [Ia l[i].1])) (k := 1) (new := [Ia l[i].1]) (by simp [cellsA]) rfl (by omega) (by simp only [room]; omega)
      have step : L60_22 [W nl tg l, out, I i, I k] lo H = L60_22 [W nl tg l, out', I i, I (k + 1 : Nat)] lo H2 := by
        rw [L60_22_eq]
        simp only [idxw hi, obs, fldA_fp, part1 hi, hm, bin_lss, cond_B]
        rw [if_pos (by simp <;> omega)]
        simp only [hL.len, obs, bin_eql, cond_B]
        rw [if_neg (by simp <;> omega)]
        simp only [part0 hi, obs, hlit, ea, bin_add]
        rw [wrap_id (by omega), show (k : Int) + 1 = ((k + 1 : Nat) : Int) by omega]
      obtain ⟨i1, i2⟩ := ih (k + 1) out' H2 (acc ++ [l[i].1]) (by omega) (by omega) (by simp; omega) (by simpa using hL')
      rw [step]
      rw [List.length_append, List.length_singleton] at i1 i2
      refine ⟨fun h => i1 (by omega), fun h => ?_⟩
      obtain ⟨o3, H3, q1, q2⟩ := i2 (by omega)
      refine ⟨o3, H3, ?_, q2⟩
      rw [show acc.length + (m - k) = acc.length + 1 + (m - (k + 1)) by omega]
      rw [show m - k = (m - (k + 1)) + 1 by omega, List.replicate_succ]
      simpa using q1

theorem refUn (hb : l.length < 2 ^ 63) (hwf : ∀ p ∈ l, p.2 < 9223372036854775808) (lo : List Nat) : ∀ (c i : Nat) (out : AV) (H : Heap) (acc : List Int), l.length - i = c → i ≤ l.length → acc.length ≤ 200 → Lst 1 out H acc.length (acc.map Ia) →
    ∃ nl' tg' H', L60_8 [W nl tg l, out, I i] lo H = some (if (upk (prevOf l i) (l.drop i) acc).1 = 0 then [.p (.sl nl' tg' (upk (prevOf l i) (l.drop i) acc).2.length ((upk (prevOf l i) (l.drop i) acc).2.map Ia)), I 0] else [.p nilS, I (upk (prevOf l i) (l.drop i) acc).1], H') := by
  intro c
  induction c with
  | zero =>
    intro i out H acc hc hi ha hL
    have : i = l.length := by omega
    subst this
    have hu : upk (prevOf l l.length) (l.drop l.length) acc = (0, acc) := by
      rw [List.drop_length]; rfl
    rw [hu]
    obtain ⟨nl', tg', H', e⟩ := hL.leave2 lo (Ia 0)
    refine ⟨nl', tg', H', ?_⟩
    rw [L60_8_eq]
    simp only [lenA_sl, bin_lss, obs, cond_B]
    rw [if_neg (by simp)]
    exact e
  | succ c ih =>
    intro i out H acc hc hi ha hL
    have hi' : i < l.length := by omega
    rw [upk_step hi', L60_8_eq]
    simp only [lenA_sl, bin_lss, obs, cond_B]
    rw [if_pos (by simp <;> omega), idxw hi']
    simp only [obs, fldA_fp, part0 hi', between_eq, thr_between, un_not, cond_B]
    cases ht : thr l[i].1 with
    | false =>
      simp only [Bool.not_false, if_true]
      exact ⟨none, false, _, rfl⟩
    | true =>
      simp only [Bool.not_true, Bool.false_eq_true, if_false, part1 hi', bin_lss, obs]
      have chk : ∀ K : AV → Res, ((gd (B (decide (l[i].2 < 1))) false (some (I i))).bind fun x12 =>
          (gd (B (decide (l[i].2 < 1))) false (bin .gtr .int x12 (I 0))).bind fun x13 =>
          (gd (B (decide (l[i].2 < 1))) false (some x13)).bind fun x14 =>
          (gd x14 true (some (W nl tg l))).bind fun x15 =>
          (gd x14 true (some (I i))).bind fun x16 =>
          (gd x14 true (bin .sub .int x16 (I 1))).bind fun x17 =>
          (gd x14 true (idxA 2 x15 x17)).bind fun x18 =>
          (gd x14 true (fldA 0 x18)).bind fun x19 =>
          (gd x14 true (ld false 1 x19 H)).bind fun x20 =>
          (gd x14 true (some (W nl tg l))).bind fun x21 =>
          (gd x14 true (some (I i))).bind fun x22 =>
          (gd x14 true (idxA 2 x21 x22)).bind fun x23 =>
          (gd x14 true (fldA 0 x23)).bind fun x24 =>
          (gd x14 true (ld false 1 x24 H)).bind fun x25 =>
          (gd x14 true (bin .eql .int x20 x25)).bind fun x26 =>
          (gd (B (decide (l[i].2 < 1))) false (pickA x14 x26 (B false))).bind fun x27 =>
          (pickA (B (decide (l[i].2 < 1))) (B true) x27).bind K) = K (B (decide (l[i].2 < 1 ∨ prevOf l i = some l[i].1))) := by
        intro K
        by_cases h1 : l[i].2 < 1
        · simp only [h1, decide_true, gd_B, Bool.true_eq_false, if_false, obs, gd_undef, pickA_B, if_true, true_or]
        · by_cases h2 : 0 < i
          · have h2' : (0 : Int) < i := by omega
            have hp : i - 1 < l.length := by omega
            simp only [h1, decide_false, gd_B, if_true, obs, bin_gtr, h2', decide_true, bin_sub]
            rw [wrap_id (by omega), show (i : Int) - 1 = ((i - 1 : Nat) : Int) by omega, idxw hp]
            simp only [obs, fldA_fp, part0 hp, part0 hi', idxw hi', bin_eql, pickA_B, if_true, Bool.false_eq_true, if_false, prev_pos h2 hp, Option.some.injEq, false_or]
          · have : i = 0 := by omega
            subst this
            simp [-Option.bind_some, obs, h1, prev_zero]
      rw [chk]
      simp only [cond_B]
      by_cases hbad : l[i].2 < 1 ∨ prevOf l i = some l[i].1
      · simp only [hbad, decide_true, if_true]
        exact ⟨none, false, _, rfl⟩
      · simp only [hbad, decide_false, Bool.false_eq_true, if_false]
        obtain ⟨m, hm⟩ : ∃ m : Nat, l[i].2 = m := ⟨l[i].2.toNat, by omega⟩
        have hw := hwf l[i] (List.getElem_mem hi')
        obtain ⟨i1, i2⟩ := putLoop (nl := nl) (tg := tg) hi' m hm (by omega) hb lo m 0 out H acc rfl (by omega) ha hL
        simp only [Nat.sub_zero] at i1 i2
        by_cases hlg : (200 : Int) < acc.length + l[i].2
        · obtain ⟨H', e⟩ := i1 (by omega)
          simp only [hlg, if_true]
          exact ⟨none, false, H', e⟩
        · obtain ⟨out', H', hL', e⟩ := i2 (by omega)
          simp only [hlg, if_false]
          rw [show (I 0) = I (0 : Nat) from rfl, e, hm, Int.toNat_natCast]
          have := ih (i + 1) out' H' (acc ++ List.replicate m l[i].1) (by omega) (by omega) (by simp; omega) (by simpa using hL')
          exact this

theorem calls (hb : l.length < 2 ^ 63) (hwf : ∀ p ∈ l, p.2 < 9223372036854775808) (lo : List Nat) : ∃ (zs : List Int) (e : Int) (n1 n2 : Option Bool) (t1 t2 : Bool), zs.length ≤ 200 ∧
    (∀ H, callA cfg O 59 [W nl tg l] lo H = some (.tup [.p (.sl n1 t1 zs.length (zs.map Ia)), I e], H)) ∧ (∀ H, callA cfg O 60 [W nl tg l] lo H = some (.tup [.p (.sl n2 t2 zs.length (zs.map Ia)), I e], H)) := by
  obtain ⟨n1, t1, H1, e1⟩ := unLoop (nl := nl) (tg := tg) hb [] l.length 0 (.p nilS) [] [] rfl (by omega) (by simp) (Lst.nil 1 [])
  obtain ⟨n2, t2, H2, e2⟩ := refUn (nl := nl) (tg := tg) hb hwf [] l.length 0 (.p nilS) [] [] rfl (by omega) (by simp) (Lst.nil 1 [])
  have bound : ∀ (r : List (Int × Int)) (p : Option Int) (acc : List Int), acc.length ≤ 200 → (upk p r acc).2.length ≤ 200 := by
    intro r
    induction r with
    | nil => intro p acc h; exact h
    | cons q r ih =>
      intro p acc h
      obtain ⟨t, m⟩ := q
      simp only [upk]
      split
      · simp
      · split
        · simp
        · split
          · simp
          · exact ih _ _ (by simp; omega)
  rw [List.drop_zero] at e1 e2
  have hbd := bound l (prevOf l 0) [] (by simp)
  generalize upk (prevOf l 0) l [] = u at e1 e2 hbd
  have k1 : ∀ (n : Option Bool) (t : Bool) (H1 : Heap), L59_8 [W nl tg l, .p nilS, W nl tg l, I l.length, I (0 : Nat)] [] [] = some ([.p (.sl n t u.2.length (u.2.map Ia)), I 0], H1) ∨ True := fun _ _ _ => .inr trivial
  by_cases hz : u.1 = 0
  · rw [if_pos hz] at e1 e2
    refine ⟨u.2, 0, n1, n2, t1, t2, hbd, fun H => ?_, fun H => ?_⟩
    · refine callA_args (H' := H1) (rs := [_, _]) rfl rfl ?_ rfl
      rw [f59_eq]
      simp only [lenA_sl, obs]
      exact e1
    · refine callA_args (H' := H2) (rs := [_, _]) rfl rfl ?_ rfl
      rw [f60_eq]
      exact e2
  · rw [if_neg hz] at e1 e2
    refine ⟨[], u.1, some true, some true, true, true, by simp, fun H => ?_, fun H => ?_⟩
    · refine callA_args (H' := H1) (rs := [.p nilS, I u.1]) rfl rfl ?_ rfl
      rw [f59_eq]
      simp only [lenA_sl, obs]
      exact e1
    · refine callA_args (H' := H2) (rs := [.p nilS, I u.1]) rfl rfl ?_ rfl
      rw [f60_eq]
      exact e2

/-! ### The law -/
theorem sameLoop {n1 n2 : Option Bool} {t1 t2 : Bool} {zs : List Int} (hz : zs.length < 2 ^ 63) : ∀ (k i : Nat), zs.length - i = k → i ≤ zs.length → ∀ H, L17_10 [.p (.sl n1 t1 zs.length (zs.map Ia)), .p (.sl n2 t2 zs.length (zs.map Ia)), I i] [] H = some ([B true], H) := by
  intro k
  induction k with
  | zero =>
    intro i hk hi H
    have : i = zs.length := by omega
    subst this
    rw [L17_10_eq]
    simp [-Option.bind_some, obs]
  | succ k ih =>
    intro i hk hi H
    have hi' : i < zs.length := by omega
    rw [L17_10_eq]
    simp only [lenA_sl, obs, bin_lss, cond_B]
    rw [if_pos (by simp <;> omega), idx hi', obs, ldi hi', obs, idx hi', obs, ldi hi']
    simp only [obs, bin_neq, decide_true, Bool.not_true, Bool.false_eq_true, if_false, cond_B, bin_add]
    rw [wrap_id (by omega), show (i : Int) + 1 = ((i + 1 : Nat) : Int) by omega]
    exact ih (i + 1) (by omega) (by omega) H

theorem call17 {n1 n2 : Option Bool} {t1 t2 : Bool} {zs : List Int} (hz : zs.length < 2 ^ 63) (lo : List Nat) (H : Heap) : callA cfg O 17 [.p (.sl n1 t1 zs.length (zs.map Ia)), .p (.sl n2 t2 zs.length (zs.map Ia))] lo H = some (B true, H) := by
  refine callA_args (H' := []) (rs := [B true]) rfl rfl ?_ rfl
  rw [f17_eq]
  simp only [lenA_sl, obs, bin_neq, cond_B, decide_true, Bool.not_true, Bool.false_eq_true, if_false]
  exact sameLoop hz _ 0 rfl (by omega) _

theorem neqVal (p : Int × Int) : bin .neq (.agg 2 [(0, .int), (1, .int)]) (.agg [I p.1, I p.2]) (.agg [I p.1, I p.2]) = some (B false) := by
  simp [bin, leavesEq, leafEq, eqRes]

theorem lawLoop {n1 n2 m1 m2 : Option Bool} {t1 t2 s1 s2 : Bool} {ps : List (Int × Int)} {zs : List Int} {e f : Int} (hp : ps.length < 2 ^ 63) (hz : zs.length ≤ 200) : ∀ (k i : Nat), ps.length - i = k → i ≤ ps.length → ∀ H,
    L14_18 [W n1 t1 ps, I e, W n2 t2 ps, I e, V m1 s1 zs, I f, V m2 s2 zs, I f, I i] [] H = some ([B true], H) := by
  intro k
  induction k with
  | zero =>
    intro i hk hi H
    have : i = ps.length := by omega
    subst this
    rw [L14_18_eq]
    simp only [lenA_sl, obs, bin_lss, cond_B]
    rw [if_neg (by simp)]
    simp only [bin_eql, obs, decide_true, gd_B, if_true, call17 (show zs.length < 2 ^ 63 by omega), gdH_B, pickA_B]
    rfl
  | succ k ih =>
    intro i hk hi H
    have hi' : i < ps.length := by omega
    rw [L14_18_eq]
    simp only [lenA_sl, obs, bin_lss, cond_B]
    rw [if_pos (by simp <;> omega), idxw hi', obs, wholew hi', obs, idxw hi', obs, wholew hi', obs, neqVal]
    simp only [obs, cond_B, Bool.false_eq_true, if_false, bin_add]
    rw [wrap_id (by omega), show (i : Int) + 1 = ((i + 1 : Nat) : Int) by omega]
    exact ih (i + 1) (by omega) (by omega) H

theorem law {n1 : Option Bool} {t1 : Bool} {zs : List Int} (hz : zs.length < 2 ^ 63) (hb : l.length < 2 ^ 63) (hwf : ∀ p ∈ l, p.2 < 9223372036854775808) : ∃ H', O.ent 14 [V n1 t1 zs, W nl tg l] [] [] = some ([B true], H') := by
  obtain ⟨us, f, u1, u2, s1, s2, hus, e3, e4⟩ := calls (nl := nl) (tg := tg) hb hwf []
  obtain ⟨a1, b1, e1⟩ := call57 (nl := n1) (tg := t1) (zs := zs) hz [] []
  obtain ⟨a2, b2, e2⟩ := call58 (nl := n1) (tg := t1) (zs := zs) [] []
  have key : ∃ (ps : List (Int × Int)) (e : Int) (c1 c2 : Option Bool) (d1 d2 : Bool), ps.length < 2 ^ 63 ∧ callA cfg O 57 [V n1 t1 zs] [] [] = some (.tup [W c1 d1 ps, I e], []) ∧ callA cfg O 58 [V n1 t1 zs] [] [] = some (.tup [W c2 d2 ps, I e], []) := by
    by_cases h : 200 < zs.length
    · simp only [if_pos h] at e1 e2
      exact ⟨[], 2, _, _, _, _, by simp, e1, e2⟩
    · simp only [if_neg h] at e1 e2
      by_cases h1 : (zs.any fun n => !thr n) = true
      · simp only [if_pos h1] at e1 e2
        exact ⟨[], 1, _, _, _, _, by simp, e1, e2⟩
      · simp only [if_neg h1] at e1 e2
        have := pks_len zs
        exact ⟨pks zs, 0, _, _, _, _, by omega, e1, e2⟩
  obtain ⟨ps, e, c1, c2, d1, d2, hps, k1, k2⟩ := key
  refine ⟨[], ?_⟩
  rw [f14_eq]
  simp only [k1, k2, e3, e4, obs, extractA_tup, List.getElem?_cons_zero, List.getElem?_cons_succ, lenA_sl, bin_neq, decide_true, Bool.not_true, cond_B, Bool.false_eq_true, if_false]
  exact lawLoop hps hus _ 0 rfl (by omega) _

end
end Pack
end Go.Proofs.Ytangmjeafnkfaaa
