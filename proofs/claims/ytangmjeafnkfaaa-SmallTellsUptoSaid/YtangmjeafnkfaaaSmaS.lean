import Derived.Test.YtangmjeafnkfaaaESnapPatches
import Derived.Test.YtangmjeafnkfaaaESmallTells
import Derived.Test.YtangmjeafnkfaaaAm22
set_option linter.unusedVariables false
set_option linter.unusedSimpArgs false
namespace Go.Proofs.Ytangmjeafnkfaaa
open Go Go.AM
namespace Sma

/-- A frozen list of which it is known whether it is nil. -/
def Kn (nl : Option Bool) (zs : List Int) : Prop := nl = some false ∨ (nl = some true ∧ zs = [])
abbrev V (nl : Option Bool) (tg : Bool) (zs : List Int) : AV := .p (.sl nl tg zs.length (zs.map Ia))

theorem cutLo {nl : Option Bool} {tg : Bool} {zs : List Int} {k : Nat} (h : k ≤ zs.length) (H : Heap) : ∃ t, cutA 1 (V nl tg zs) (some (I k)) none none H = some (V nl t (zs.drop k)) := by
  refine ⟨tg, ?_⟩
  rw [cutA_lo (by omega)]
  simp only [Int.toNat_natCast, Nat.mul_one]
  rw [List.take_of_length_le (by simp)]
  simp [V, List.map_drop]
theorem cutHi {nl : Option Bool} {tg : Bool} {zs : List Int} {k : Nat} (h : k ≤ zs.length) (H : Heap) : ∃ t, cutA 1 (V nl tg zs) none (some (I k)) none H = some (V nl t (zs.take k)) := by
  refine ⟨tg && decide ((k : Int) = zs.length), ?_⟩
  rw [cutA_hi (by omega)]
  simp only [Int.toNat_natCast, Nat.mul_one]
  simp [V, List.map_take, Nat.min_eq_left h]

theorem cellsV (nl : Option Bool) (tg : Bool) (zs : List Int) (H : Heap) : cellsA 1 (V nl tg zs) H = some (zs.length, zs.map Ia) := by simp [cellsA]

/-! ### Concat of two -/
theorem grow (n : Nat) (hn : n ≤ 400) (lo : List Nat) : callA cfg O 154 [.p nilS, I n] lo [] = some (if n = 0 then (.p nilS, []) else (.row 0 0 0 0, [.row 0 1 (zerosA n [Ia 0])])) := by
  have e : O.ent 154 [.p nilS, I n] lo [] = some (if n = 0 then ([.p nilS], []) else ([.row 0 0 0 0], [.row 0 1 (zerosA n [Ia 0])])) := by
    rw [f154_eq]
    simp only [bin_lss, obs, cond_B]
    rw [if_neg (by simp), L154_9_eq]
    have c1 : capA (.p nilS) = some (I 0) := rfl
    have c2 : ∀ H, lenA .slice (.p nilS) H = some (I 0) := fun H => rfl
    simp only [c1, c2, obs, bin_sub]
    rw [wrap_id (n := (0 : Int) - 0) (by omega), wrap_id (by omega)]
    simp only [bin_gtr, obs, cond_B]
    by_cases h : n = 0
    · subst h
      rw [if_neg (by simp), L154_15_eq]
      rfl
    · rw [if_pos (by simp <;> omega), if_neg h]
      have c3 : cutA 1 (.p nilS) none (some (I 0)) none [] = some (.p nilS) := rfl
      have c4 : appZ 1 8 [.v (.int .i64 0)] (.p nilS) (I ((n : Int) - (0 - 0))) [] = some (.row 0 0 0 n, [.row 0 1 (zerosA n [Ia 0])]) := by
        simp only [appZ, asI, Option.bind_some]
        rw [if_pos (by simp only [room]; omega)]
        rw [show ((n : Int) - (0 - 0)).toNat = n by omega]
        simp only [appTo, nilS]
        rw [if_neg h, if_pos (by simp only [room]; omega)]
        rfl
      have c5 : cutA 1 (.row 0 0 0 n) none (some (I 0)) none [.row 0 1 (zerosA n [Ia 0])] = some (.row 0 0 0 0) := by
        rw [cutA_row_hi (g' := 0) (xs := zerosA n [Ia 0]) rfl (by omega)]
        rfl
      simp only [c3, obs, c4, c5]
      rw [L154_15_eq]
      rfl
  by_cases h : n = 0
  · rw [if_pos h] at e ⊢
    exact callA_keep (rs := [_]) rfl e
  · rw [if_neg h] at e ⊢
    exact callA_keep (rs := [_]) rfl e

theorem concat {n1 n2 : Option Bool} {t1 t2 : Bool} {xs ys : List Int} (hb : xs.length + ys.length ≤ 400) (lo : List Nat) (H : Heap) :
    ∃ nl tg, Kn nl (xs ++ ys) ∧ callA cfg O 144 [.p (.sl (some false) true 2 [.sl n1 t1 xs.length (xs.map Ia), .sl n2 t2 ys.length (ys.map Ia)])] lo H = some (V nl tg (xs ++ ys), H) := by
  have key : ∃ nl tg H', Kn nl (xs ++ ys) ∧ O.ent 144 [.p (.sl (some false) true 2 [.sl n1 t1 xs.length (xs.map Ia), .sl n2 t2 ys.length (ys.map Ia)])] [] [] = some ([V nl tg (xs ++ ys)], H') := by
    generalize hQ : (AV.p (.sl (some false) true 2 [.sl n1 t1 xs.length (xs.map Ia), .sl n2 t2 ys.length (ys.map Ia)])) = Q
    have hlen : ∀ H, lenA .slice Q H = some (I 2) := fun H => by rw [← hQ]; rfl
    have i0 : ∀ H : Heap, (idxA 1 Q (I 0)).bind (fun p => ld false 1 p H) = some (V n1 t1 xs) := fun H => by rw [← hQ]; rfl
    have i1 : ∀ H : Heap, (idxA 1 Q (I 1)).bind (fun p => ld false 1 p H) = some (V n2 t2 ys) := fun H => by rw [← hQ]; rfl
    obtain ⟨p0, hp0⟩ : ∃ p, idxA 1 Q (I 0) = some p := by rw [← hQ]; exact ⟨_, rfl⟩
    obtain ⟨p1, hp1⟩ : ∃ p, idxA 1 Q (I 1) = some p := by rw [← hQ]; exact ⟨_, rfl⟩
    have l0 : ∀ H, ld false 1 p0 H = some (V n1 t1 xs) := fun H => by have := i0 H; rw [hp0] at this; exact this
    have l1 : ∀ H, ld false 1 p1 H = some (V n2 t2 ys) := fun H => by have := i1 H; rw [hp1] at this; exact this
    have s1 : L144_8 [Q, I 0, Q, I 2, I 0] [] [] = L144_8 [Q, I (xs.length), Q, I 2, I 1] [] [] := by
      conv => lhs; rw [L144_8_eq]
      simp only [bin_lss, obs, cond_B]
      rw [if_pos (by simp), hp0]
      simp only [obs, l0, lenA_sl, bin_add, bin_lss, cond_B]
      rw [wrap_id (by omega), if_neg (by simp <;> omega), L144_19_eq]
      simp only [bin_add, obs]
      rw [wrap_id (by omega)]
      simp
    have s2 : L144_8 [Q, I (xs.length), Q, I 2, I 1] [] [] = L144_8 [Q, I (xs.length + ys.length : Nat), Q, I 2, I 2] [] [] := by
      conv => lhs; rw [L144_8_eq]
      simp only [bin_lss, obs, cond_B]
      rw [if_pos (by simp), hp1]
      simp only [obs, l1, lenA_sl, bin_add, bin_lss, cond_B]
      rw [wrap_id (by omega), if_neg (by simp <;> omega), L144_19_eq]
      simp only [bin_add, obs]
      rw [wrap_id (by omega)]
      simp
    have s3 : L144_8 [Q, I (xs.length + ys.length : Nat), Q, I 2, I 2] [] [] = (callA cfg O 154 [.p nilS, I (xs.length + ys.length : Nat)] [] []).bind fun r7 => L144_24 [r7.1, Q, I 2, I 0] [] r7.2 := by
      rw [L144_8_eq]
      simp only [bin_lss, obs, cond_B]
      rw [if_neg (by simp)]
      simp only [hlen, obs]
    have app : ∀ (o : AV) (H : Heap), LstG 1 o H 0 [] → ∃ nl tg H', L144_24 [o, Q, I 2, I 0] [] H = some ([V nl tg (xs ++ ys)], H') ∧ (nl = some true ∧ xs ++ ys = [] ∨ nl = (if 0 < (xs ++ ys).length then some false else none)) := by
      intro o H hL
      obtain ⟨o1, H1, a1, L1⟩ := hL.app (bytes := 8) (y := V n1 t1 xs) (cellsV _ _ _ _) (by simp) (by simp only [room]; omega)
      obtain ⟨o2, H2, a2, L2⟩ := L1.app (bytes := 8) (y := V n2 t2 ys) (cellsV _ _ _ _) (by simp) (by simp only [room]; omega)
      have e : L144_24 [o, Q, I 2, I 0] [] H = leave 0 [] [o2] H2 := by
        rw [L144_24_eq]
        simp only [bin_lss, obs, cond_B]
        rw [if_pos (by simp), hp0]
        simp only [obs, l0, a1, bin_add]
        rw [wrap_id (by omega), L144_24_eq]
        simp only [bin_lss, obs, cond_B]
        rw [if_pos (by simp), show (I (0 + 1)) = I 1 from rfl, hp1]
        simp only [obs, l1, a2, bin_add]
        rw [wrap_id (by omega), L144_24_eq]
        simp only [bin_lss, obs, cond_B]
        rw [if_neg (by simp)]
      have hm : 0 + xs.length + ys.length = (xs ++ ys).length := by simp
      rw [hm, List.nil_append, ← List.map_append] at L2
      obtain ⟨hl, ⟨h0, rfl⟩ | ⟨id, g, zs, rfl, ho, hle, ht⟩⟩ := L2
      · have hnil : xs ++ ys = [] := List.length_eq_zero_iff.mp h0
        refine ⟨some true, true, H2, ?_, .inl ⟨rfl, hnil⟩⟩
        rw [e, hnil]
        rfl
      · refine ⟨_, false, H2.set id (.row (g + 1) 1 []), ?_, .inr rfl⟩
        rw [e]
        have e2 : frzA H2 (.row id g 0 (xs ++ ys).length) = some (V (if 0 < (xs ++ ys).length then some false else none) false (xs ++ ys), H2.set id (.row (g + 1) 1 [])) := by
          simp only [frzA, frzLeaf, toPV, ho, Nat.zero_add]
          rw [if_pos (by simpa using hle)]
          simp only [Option.map_some]
          rw [List.drop_zero, ht]
        simp only [leave, frzAll, e2, obs, oms]
    rw [f144_eq]
    simp only [hlen, obs]
    rw [s1, s2, s3, grow _ hb]
    by_cases h : xs.length + ys.length = 0
    · have hx : xs = [] := List.length_eq_zero_iff.mp (by omega)
      have hy : ys = [] := List.length_eq_zero_iff.mp (by omega)
      rw [if_pos h]
      simp only [obs]
      obtain ⟨nl, tg, H', e, hk⟩ := app (.p nilS) [] ⟨rfl, .inl ⟨rfl, rfl⟩⟩
      -- all is nil
      have e24 : ∀ i : Nat, i ≤ 2 → L144_24 [.p nilS, Q, I 2, I i] [] [] = some ([.p nilS], []) := by
        have st : ∀ (p : AV) (n : Option Bool) (t : Bool), appA 1 8 (.p nilS) (V n t []) [] = some (.p nilS, []) := fun p n t => by simp [appA, cellsA, appTo, nilS]
        have e2 : L144_24 [.p nilS, Q, I 2, I 2] [] [] = some ([.p nilS], []) := by
          rw [L144_24_eq]
          simp only [bin_lss, obs, cond_B]
          rw [if_neg (by simp)]
          rfl
        have e1 : L144_24 [.p nilS, Q, I 2, I 1] [] [] = some ([.p nilS], []) := by
          rw [L144_24_eq]
          simp only [bin_lss, obs, cond_B]
          rw [if_pos (by simp), hp1]
          simp only [obs, l1, hy]
          rw [st (.p nilS)]
          simp only [obs, bin_add]
          rw [wrap_id (by omega)]
          exact e2
        have e0 : L144_24 [.p nilS, Q, I 2, I 0] [] [] = some ([.p nilS], []) := by
          rw [L144_24_eq]
          simp only [bin_lss, obs, cond_B]
          rw [if_pos (by simp), hp0]
          simp only [obs, l0, hx]
          rw [st (.p nilS)]
          simp only [obs, bin_add]
          rw [wrap_id (by omega)]
          exact e1
        intro i hi
        have : i = 0 ∨ i = 1 ∨ i = 2 := by omega
        rcases this with rfl | rfl | rfl
        · exact e0
        · exact e1
        · exact e2
      refine ⟨some true, true, [], .inr ⟨rfl, by rw [hx, hy]; rfl⟩, ?_⟩
      have := e24 0 (by omega)
      rw [hx, hy]
      exact this
    · rw [if_neg h]
      simp only [obs]
      obtain ⟨nl, tg, H', e, hk⟩ := app (.row 0 0 0 0) [.row 0 1 (zerosA (xs.length + ys.length) [Ia 0])] ⟨rfl, .inr ⟨0, 0, _, rfl, rfl, by simp, by simp⟩⟩
      refine ⟨nl, tg, H', ?_, e⟩
      rcases hk with ⟨rfl, hnil⟩ | hk
      · exact .inr ⟨rfl, hnil⟩
      · rw [if_pos (by simp <;> omega)] at hk
        exact .inl hk
  obtain ⟨nl, tg, H', hk, e⟩ := key
  exact ⟨nl, tg, hk, callA_args (rs := [V nl tg (xs ++ ys)]) rfl rfl e rfl⟩

/-- The list without a stretch. -/
def wo (zs : List Int) (a b : Nat) : List Int := zs.take a ++ zs.drop b

theorem ent114 {nl : Option Bool} {tg : Bool} {zs : List Int} {a b : Nat} (hz : zs.length ≤ 200) (ha : a ≤ b) (hb : b ≤ zs.length) : ∃ n' t' H', Kn n' (wo zs a b) ∧ O.ent 114 [V nl tg zs, I a, I b] [] [] = some ([V n' t' (wo zs a b)], H') := by
  obtain ⟨t1, c1⟩ := cutHi (nl := nl) (tg := tg) (zs := zs) (k := a) (by omega) []
  obtain ⟨t2, c2⟩ := cutLo (nl := nl) (tg := tg) (zs := zs) (k := b) hb []
  obtain ⟨n', t', hk, e⟩ := concat (n1 := nl) (n2 := nl) (t1 := t1) (t2 := t2) (xs := zs.take a) (ys := zs.drop b) (by simp <;> omega) [] []
  refine ⟨n', t', [], hk, ?_⟩
  rw [f114_eq]
  have hlit : litA false 1 [V nl t1 (zs.take a), V nl t2 (zs.drop b)] [] = some (.p (.sl (some false) true 2 [.sl nl t1 (zs.take a).length ((zs.take a).map Ia), .sl nl t2 (zs.drop b).length ((zs.drop b).map Ia)]), []) := rfl
  simp only [c1, c2, obs, hlit, e]
  rfl

/-- A list that is handed over: frozen, or a row of one's own. -/
def Arg (x : AV) (H : Heap) (zs : List Int) : Prop := (∃ nl tg, Kn nl zs ∧ x = V nl tg zs) ∨ ∃ id g, 0 < zs.length ∧ x = .row id g 0 zs.length ∧ H[id]? = some (.row g 1 (zs.map Ia))

end Sma
end Go.Proofs.Ytangmjeafnkfaaa
