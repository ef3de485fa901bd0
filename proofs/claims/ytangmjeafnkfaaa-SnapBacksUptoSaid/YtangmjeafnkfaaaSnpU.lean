import Derived.Test.YtangmjeafnkfaaaSnpS
set_option linter.unusedVariables false
set_option linter.unusedSimpArgs false
namespace Go.Proofs.Ytangmjeafnkfaaa
open Go Go.AM
namespace Snp

section
variable {α : Type} {nl : Option Bool} {tg : Bool} {l : List α} {enc : α → List PV} {c : Nat}
theorem idxL {k : Nat} (h : k < l.length) : idxA c (.p (.sl nl tg l.length (l.flatMap enc))) (I k) = some (.fp (l.flatMap enc) (k * c)) := by
  have := idxA_sl (sz := c) (n := l.length) (nl := nl) (t := tg) (xs := l.flatMap enc) (j := (k : Int)) (by omega)
  simpa using this
theorem fldL (hE : ∀ p, (enc p).length = c) {k off : Nat} {x : PV} (h : k < l.length) (ho : off < c) (hx : (enc l[k])[off]? = some x) (H : Heap) : ld false 1 (.fp (l.flatMap enc) (k * c + off)) H = some (.p x) := by
  rw [ld_fp, rows_get hE (List.getElem?_eq_getElem h) ho, hx]; rfl
theorem allL (hE : ∀ p, (enc p).length = c) {k : Nat} (h : k < l.length) (H : Heap) : ld true c (.fp (l.flatMap enc) (k * c)) H = some (.agg ((enc l[k]).map .p)) := by
  rw [ldAgg_fp (by rw [rows_length hE]; have := Nat.mul_le_mul_right c (show k + 1 ≤ l.length from h); rw [Nat.add_mul] at this; omega), rows_part hE (List.getElem?_eq_getElem h)]
end

theorem cellsL (nl : Option Bool) (tg : Bool) (zs : List Int) (H : Heap) : cellsA 1 (.p (.sl nl tg zs.length (zs.map Ia))) H = some (zs.length, zs.map Ia) := by simp [cellsA]

theorem fvs_pos (l : A_LVal) : 0 < (fvs l).length := by simp [fvs, fl]
theorem ffs_pos (l : A_LFrame) : 0 < (ffs l).length := by simp [ffs, fl]

/-! ### flatVals -/
theorem loop75 {nl : Option Bool} {tg : Bool} {l : List A_Val} (hn : l.length < 2 ^ 63) (lo : List Nat) : ∀ (c i : Nat) (o : AV) (H : Heap) (acc : List Int), l.length - i = c → i ≤ l.length → Out 0 o H acc → acc.length + ((l.drop i).flatMap fv).length ≤ LIM →
    ∃ n' t' H', L75_8 [.p (.sl nl tg l.length (l.flatMap enc_Val)), o, I i] lo H = some ([.p (.sl n' t' (acc ++ (l.drop i).flatMap fv).length ((acc ++ (l.drop i).flatMap fv).map Ia))], H') := by
  intro c
  induction c with
  | zero =>
    intro i o H acc hc hi hL hb
    have : i = l.length := by omega
    subst this
    obtain ⟨n', t', H', e⟩ := hL.1.leave1 lo
    refine ⟨n', t', H', ?_⟩
    rw [L75_8_eq]
    simp only [lenA_sl, bin_lss, obs, cond_B]
    rw [if_neg (by simp), e, List.drop_length]
    simp
  | succ c ih =>
    intro i o H acc hc hi hL hb
    have hi' : i < l.length := by omega
    rw [List.drop_eq_getElem_cons hi', List.flatMap_cons, List.length_append] at hb
    rw [List.drop_eq_getElem_cons hi', List.flatMap_cons]
    have hlit : ∀ H, litA false 1 [I l[i].1, I l[i].2] H = some (.p (.sl (some false) true 2 ((fv l[i]).map Ia)), H) := fun H => rfl
    obtain ⟨o', H1, ea, hL', _⟩ := put (y := .p (.sl (some false) true 2 ((fv l[i]).map Ia))) (new := fv l[i]) hL (cellsL _ _ _ _) (by simp [fv]) (by omega)
    obtain ⟨n', t', H', e⟩ := ih (i + 1) o' H1 (acc ++ fv l[i]) (by omega) (by omega) hL' (by rw [List.length_append]; omega)
    refine ⟨n', t', H', ?_⟩
    rw [L75_8_eq]
    simp only [lenA_sl, bin_lss, obs, cond_B]
    rw [if_pos (by simp <;> omega), idxL hi']
    simp only [obs, fldA_fp, fldL len_Val hi' (off := 0) (by omega) rfl, fldL len_Val hi' (off := 1) (by omega) rfl, hlit, ea, bin_add]
    rw [wrap_id (by omega), show (i : Int) + 1 = ((i + 1 : Nat) : Int) by omega, e, List.append_assoc]

theorem call75 (l : A_LVal) (hn : l.2.length < 2 ^ 63) (hb : (fvs l).length ≤ LIM) (lo : List Nat) (H : Heap) : ∃ n' t', callA cfg O 75 [.p (.sl l.1.1 l.1.2 l.2.length (l.2.flatMap enc_Val))] lo H = some (.p (.sl n' t' (fvs l).length ((fvs l).map Ia)), H) := by
  simp only [fvs, fl, List.length_cons] at hb
  obtain ⟨n', t', H', e⟩ := loop75 (nl := l.1.1) (tg := l.1.2) (l := l.2) hn [] _ 0 (.p (.sl (some false) true 1 [Ia l.2.length])) [] [(l.2.length : Int)] rfl (by omega) (Out.lit [] [(l.2.length : Int)] (Nat.zero_le _)) (by rw [List.drop_zero, List.length_singleton]; omega)
  refine ⟨n', t', callA_args (H' := H') (rs := [_]) rfl rfl ?_ rfl⟩
  rw [f75_eq]
  have hlit : litA false 1 [I l.2.length] [] = some (.p (.sl (some false) true 1 [Ia l.2.length]), []) := rfl
  simp only [lenA_sl, obs, hlit]
  exact e

/-! ### flatFrames -/
theorem zer8 (H : Heap) : boxO [] [I 0, I 0, I 0, I 0, I 0, I 0, .p nilS, .p nilS] H = some (.ptr H.length 0, H ++ [.box [I 0, I 0, I 0, I 0, I 0, I 0, .p nilS, .p nilS]]) := boxO_p [Ia 0, Ia 0, Ia 0, Ia 0, Ia 0, Ia 0, nilS, nilS] H

theorem loop76t {V : AV} {i q : Nat} {p : A_Frame} (hi : i + 1 < 2 ^ 63) (hn : p.2.2.2.2.2.2.2.length < 2 ^ 63) (lo : List Nat) : ∀ (c k : Nat) (o : AV) (H : Heap) (acc : List Int), p.2.2.2.2.2.2.2.length - k = c → k ≤ p.2.2.2.2.2.2.2.length → H[q]? = some (.box ((enc_Frame p).map .p)) → Out 0 o H acc → acc.length + ((p.2.2.2.2.2.2.2.drop k).flatMap ft).length ≤ LIM →
    ∃ o' H', Out 0 o' H' (acc ++ (p.2.2.2.2.2.2.2.drop k).flatMap ft) ∧ L76_22 [V, o, I i, .ptr q 0, I k] lo H = L76_8 [V, o', I (i + 1 : Nat)] lo H' := by
  intro c
  induction c with
  | zero =>
    intro k o H acc hc hk hq hL hb
    have : k = p.2.2.2.2.2.2.2.length := by omega
    subst this
    refine ⟨o, H, by rw [List.drop_length]; simpa using hL, ?_⟩
    rw [L76_22_eq]
    simp only [fldA_ptr, Nat.zero_add, obs, ldP hq (off := 7) rfl, lenA_sl, bin_lss, cond_B]
    rw [if_neg (by simp)]
    simp only [bin_add, obs]
    rw [wrap_id (by omega), show (i : Int) + 1 = ((i + 1 : Nat) : Int) by omega]
  | succ c ih =>
    intro k o H acc hc hk hq hL hb
    have hk' : k < p.2.2.2.2.2.2.2.length := by omega
    rw [List.drop_eq_getElem_cons hk', List.flatMap_cons, List.length_append] at hb
    rw [List.drop_eq_getElem_cons hk', List.flatMap_cons]
    have hlit : ∀ H, litA false 1 [I p.2.2.2.2.2.2.2[k].1, I p.2.2.2.2.2.2.2[k].2] H = some (.p (.sl (some false) true 2 ((ft p.2.2.2.2.2.2.2[k]).map Ia)), H) := fun H => rfl
    obtain ⟨o', H1, ea, hL', hK, _⟩ := put (y := .p (.sl (some false) true 2 ((ft p.2.2.2.2.2.2.2[k]).map Ia))) (new := ft p.2.2.2.2.2.2.2[k]) hL (cellsL _ _ _ _) (by simp [ft]) (by omega)
    obtain ⟨o2, H2, hL2, e⟩ := ih (k + 1) o' H1 (acc ++ ft p.2.2.2.2.2.2.2[k]) (by omega) (by omega) (hK _ _ hq) hL' (by rw [List.length_append]; omega)
    refine ⟨o2, H2, by rw [← List.append_assoc]; exact hL2, ?_⟩
    rw [L76_22_eq]
    simp only [fldA_ptr, Nat.zero_add, obs, ldP hq (off := 7) rfl, lenA_sl, bin_lss, cond_B]
    rw [if_pos (by simp <;> omega), idxL hk']
    simp only [obs, fldA_fp, fldL len_Try hk' (off := 0) (by omega) rfl, fldL len_Try hk' (off := 1) (by omega) rfl, hlit, ea, bin_add]
    rw [wrap_id (by omega), show (k : Int) + 1 = ((k + 1 : Nat) : Int) by omega]
    exact e

theorem loop76 {nl : Option Bool} {tg : Bool} {l : List A_Frame} (hok : ∀ p ∈ l, ok_Frame p) (hn : l.length < 2 ^ 63) (lo : List Nat) : ∀ (c i : Nat) (o : AV) (H : Heap) (acc : List Int), l.length - i = c → i ≤ l.length → Out 0 o H acc → acc.length + ((l.drop i).flatMap ff).length ≤ LIM →
    ∃ n' t' H', L76_8 [.p (.sl nl tg l.length (l.flatMap enc_Frame)), o, I i] lo H = some ([.p (.sl n' t' (acc ++ (l.drop i).flatMap ff).length ((acc ++ (l.drop i).flatMap ff).map Ia))], H') := by
  intro c
  induction c with
  | zero =>
    intro i o H acc hc hi hL hb
    have : i = l.length := by omega
    subst this
    obtain ⟨n', t', H', e⟩ := hL.1.leave1 lo
    refine ⟨n', t', H', ?_⟩
    rw [L76_8_eq]
    simp only [lenA_sl, bin_lss, obs, cond_B]
    rw [if_neg (by simp), e, List.drop_length]
    simp
  | succ c ih =>
    intro i o H acc hc hi hL hb
    have hi' : i < l.length := by omega
    have ok := hok _ (List.getElem_mem hi')
    rw [List.drop_eq_getElem_cons hi', List.flatMap_cons, List.length_append] at hb
    rw [List.drop_eq_getElem_cons hi', List.flatMap_cons]
    have hall := allL len_Frame hi' H
    have hix := idxL (nl := nl) (tg := tg) (enc := enc_Frame) (c := 8) hi'
    generalize l[i] = p at *
    obtain ⟨okR, okT⟩ := ok
    have hst : stA 8 (.ptr H.length 0) (.agg ((enc_Frame p).map .p)) lo (H ++ [.box [I 0, I 0, I 0, I 0, I 0, I 0, .p nilS, .p nilS]]) = some (H ++ [.box ((enc_Frame p).map .p)]) := st_new (len_Frame p) rfl
    have hq : (H ++ [AObj.box ((enc_Frame p).map AV.p)])[H.length]? = some (.box ((enc_Frame p).map .p)) := by simp
    have hfl : (ff p).length = 6 + (fvs p.2.2.2.2.2.1).length + (1 + (p.2.2.2.2.2.2.2.flatMap ft).length) := by simp [ff, fv, fts, fl]; omega
    have hlit : ∀ H, litA false 1 [I p.1, I p.2.1, I p.2.2.1, I p.2.2.2.1, I p.2.2.2.2.1.1, I p.2.2.2.2.1.2] H = some (.p (.sl (some false) true 6 (([p.1, p.2.1, p.2.2.1, p.2.2.2.1, p.2.2.2.2.1.1, p.2.2.2.2.1.2] : List Int).map Ia)), H) := fun H => rfl
    obtain ⟨o1, H1, a1, L1, K1, _⟩ := put (y := .p (.sl (some false) true 6 (([p.1, p.2.1, p.2.2.1, p.2.2.2.1, p.2.2.2.2.1.1, p.2.2.2.2.1.2] : List Int).map Ia))) (new := [p.1, p.2.1, p.2.2.1, p.2.2.2.1, p.2.2.2.2.1.1, p.2.2.2.2.1.2]) (hL.push [.box ((enc_Frame p).map .p)]) (cellsL _ _ _ _) (by simp) (by simp; omega)
    have q1 := K1 _ _ hq
    obtain ⟨nv, tv, c75⟩ := call75 p.2.2.2.2.2.1 okR (by omega) lo H1
    obtain ⟨o2, H2, a2, L2, K2, _⟩ := put (y := .p (.sl nv tv (fvs p.2.2.2.2.2.1).length ((fvs p.2.2.2.2.2.1).map Ia))) (new := fvs p.2.2.2.2.2.1) L1 (cellsL _ _ _ _) (fvs_pos _) (by simp; omega)
    have q2 := K2 _ _ q1
    have hlit1 : ∀ H, litA false 1 [I p.2.2.2.2.2.2.2.length] H = some (.p (.sl (some false) true 1 (([(p.2.2.2.2.2.2.2.length : Int)] : List Int).map Ia)), H) := fun H => rfl
    obtain ⟨o3, H3, a3, L3, K3, _⟩ := put (y := .p (.sl (some false) true 1 (([(p.2.2.2.2.2.2.2.length : Int)] : List Int).map Ia))) (new := [(p.2.2.2.2.2.2.2.length : Int)]) L2 (cellsL _ _ _ _) (by simp) (by simp; omega)
    have q3 := K3 _ _ q2
    obtain ⟨o4, H4, L4, e4⟩ := loop76t (V := .p (.sl nl tg l.length (l.flatMap enc_Frame))) (i := i) (q := H.length) (p := p) (by omega) okT lo _ 0 o3 H3 _ rfl (by omega) q3 L3 (by simp only [List.drop_zero, List.length_append, List.length_cons, List.length_nil]; omega)
    have hacc : ((acc ++ [p.1, p.2.1, p.2.2.1, p.2.2.2.1, p.2.2.2.2.1.1, p.2.2.2.2.1.2]) ++ fvs p.2.2.2.2.2.1 ++ [(p.2.2.2.2.2.2.2.length : Int)]) ++ (p.2.2.2.2.2.2.2.drop 0).flatMap ft = acc ++ ff p := by
      simp [ff, fv, fts, fl]
    rw [hacc] at L4
    obtain ⟨n', t', H', e⟩ := ih (i + 1) o4 H4 (acc ++ ff p) (by omega) (by omega) L4 (by rw [List.length_append]; omega)
    refine ⟨n', t', H', ?_⟩
    rw [L76_8_eq]
    simp only [lenA_sl, bin_lss, obs, cond_B]
    rw [if_pos (by simp <;> omega), hix]
    simp only [obs, hall, zer8, hst, oms, fldA_ptr, Nat.zero_add, Nat.add_zero, ldP hq (off := 0) rfl, ldP hq (off := 1) rfl, ldP hq (off := 2) rfl, ldP hq (off := 3) rfl, ldP hq (off := 4) rfl, ldP hq (off := 4 + 1) rfl, hlit, a1, ldP q1 (off := 6) rfl, c75, a2, ldP q2 (off := 7) rfl, lenA_sl, hlit1, a3]
    rw [show (I 0) = I (0 : Nat) from rfl, e4, e, List.append_assoc]

theorem call76 (l : A_LFrame) (ok : ok_LFrame l) (hb : (ffs l).length ≤ LIM) (hn : l.2.length < 2 ^ 63) (lo : List Nat) (H : Heap) : ∃ n' t', callA cfg O 76 [.p (.sl l.1.1 l.1.2 l.2.length (l.2.flatMap enc_Frame))] lo H = some (.p (.sl n' t' (ffs l).length ((ffs l).map Ia)), H) := by
  simp only [ffs, fl, List.length_cons] at hb
  obtain ⟨n', t', H', e⟩ := loop76 (nl := l.1.1) (tg := l.1.2) (l := l.2) ok.2 hn [] _ 0 (.p (.sl (some false) true 1 [Ia l.2.length])) [] [(l.2.length : Int)] rfl (by omega) (Out.lit [] [(l.2.length : Int)] (Nat.zero_le _)) (by rw [List.drop_zero, List.length_singleton]; omega)
  refine ⟨n', t', callA_args (H' := H') (rs := [_]) rfl rfl ?_ rfl⟩
  rw [f76_eq]
  have hlit : litA false 1 [I l.2.length] [] = some (.p (.sl (some false) true 1 [Ia l.2.length]), []) := rfl
  simp only [lenA_sl, obs, hlit]
  exact e

end Snp
end Go.Proofs.Ytangmjeafnkfaaa
