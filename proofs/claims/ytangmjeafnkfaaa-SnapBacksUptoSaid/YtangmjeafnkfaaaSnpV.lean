import Derived.Test.YtangmjeafnkfaaaSnpU
set_option linter.unusedVariables false
set_option linter.unusedSimpArgs false
namespace Go.Proofs.Ytangmjeafnkfaaa
open Go Go.AM
namespace Snp

section
variable {s : A_State} {q N : Nat}

def r64 (s : A_State) (i : Nat) : List Int := (s.2.2.2.2.1.2.drop i).flatMap fe ++ (fvs s.2.2.2.2.2.1 ++ [s.2.2.2.2.2.2.1, s.2.2.2.2.2.2.2])
def r50 (s : A_State) (i : Nat) : List Int := (s.2.2.2.1.2.drop i).flatMap fth ++ ((s.2.2.2.2.1.2.length : Int) :: r64 s 0)
def r32 (s : A_State) (i : Nat) : List Int := (s.2.2.1.2.drop i).flatMap ftx ++ ((s.2.2.2.1.2.length : Int) :: r50 s 0)
def r22 (s : A_State) (i : Nat) : List Int := (s.2.1.2.drop i).flatMap fsh ++ ((s.2.2.1.2.length : Int) :: r32 s 0)
def r8 (s : A_State) (i : Nat) : List Int := (s.1.2.drop i).flatMap fc ++ ((s.2.1.2.length : Int) :: r22 s 0)

theorem r8_flat : (s.1.2.length : Int) :: r8 s 0 = flat s := by
  simp [flat, fl, r8, r22, r32, r50, r64]

theorem lit1 (n : Int) (H : Heap) : litA false 1 [I n] H = some (.p (.sl (some false) true 1 (([n] : List Int).map Ia)), H) := rfl
theorem lit2 (a b : Int) (H : Heap) : litA false 1 [I a, I b] H = some (.p (.sl (some false) true 2 (([a, b] : List Int).map Ia)), H) := rfl
theorem lit3 (a b c : Int) (H : Heap) : litA false 1 [I a, I b, I c] H = some (.p (.sl (some false) true 3 (([a, b, c] : List Int).map Ia)), H) := rfl
theorem lit4 (a b c d : Int) (H : Heap) : litA false 1 [I a, I b, I c, I d] H = some (.p (.sl (some false) true 4 (([a, b, c, d] : List Int).map Ia)), H) := rfl

theorem t64 (ok : ok_State s) (lo : List Nat) : ∀ (c i : Nat) (o : AV) (H : Heap) (acc : List Int), s.2.2.2.2.1.2.length - i = c → i ≤ s.2.2.2.2.1.2.length → H[q]? = some (.box ((enc_State s).map .p)) → Out N o H acc → acc.length + (r64 s i).length ≤ LIM →
    ∃ o' H', L19_64 [.ptr q 0, o, I i] lo H = some ([o'], H') ∧ Out N o' H' (acc ++ r64 s i) ∧ KN N H H' := by
  obtain ⟨okC, okS, okT, okH, okE, okV⟩ := ok
  have hlen : s.2.2.2.2.1.2.length < 2 ^ 63 := okE
  intro c
  induction c with
  | zero =>
    intro i o H acc hc hi hq hL hb
    have : i = s.2.2.2.2.1.2.length := by omega
    subst this
    have hr : r64 s s.2.2.2.2.1.2.length = fvs s.2.2.2.2.2.1 ++ [s.2.2.2.2.2.2.1, s.2.2.2.2.2.2.2] := by simp [r64]
    rw [hr] at hb ⊢
    rw [List.length_append] at hb
    obtain ⟨nv, tv, c75⟩ := call75 s.2.2.2.2.2.1 (okV) (by omega) lo H
    obtain ⟨o1, H1, a1, L1, K1, kn1⟩ := put (y := .p (.sl nv tv (fvs s.2.2.2.2.2.1).length ((fvs s.2.2.2.2.2.1).map Ia))) (new := fvs s.2.2.2.2.2.1) hL (cellsL _ _ _ _) (fvs_pos _) (by omega)
    have q1 := K1 _ _ hq
    obtain ⟨o2, H2, a2, L2, K2, kn2⟩ := put (y := .p (.sl (some false) true 2 (([s.2.2.2.2.2.2.1, s.2.2.2.2.2.2.2] : List Int).map Ia))) (new := [s.2.2.2.2.2.2.1, s.2.2.2.2.2.2.2]) L1 (cellsL _ _ _ _) (by simp) (by simp at hb ⊢; omega)
    refine ⟨o2, H2, ?_, by rw [← List.append_assoc]; exact L2, (kn1).trans (kn2)⟩
    rw [L19_64_eq]
    simp only [fldA_ptr, Nat.zero_add, obs, ldP hq (off := 4) rfl, lenA_sl, bin_lss, cond_B]
    rw [if_neg (by simp)]
    simp only [ldP hq (off := 5) rfl, obs, c75, a1, ldP q1 (off := 6) rfl, ldP q1 (off := 7) rfl, lit2, a2]
    rfl
  | succ c ih =>
    intro i o H acc hc hi hq hL hb
    have hi' : i < s.2.2.2.2.1.2.length := by omega
    have hr : r64 s i = fe s.2.2.2.2.1.2[i] ++ r64 s (i + 1) := by unfold r64; rw [List.drop_eq_getElem_cons hi', List.flatMap_cons, List.append_assoc]
    rw [hr] at hb ⊢
    rw [List.length_append] at hb
    obtain ⟨o', H1, ea, hL', hK, kn3⟩ := put (y := .p (.sl (some false) true 3 ((fe s.2.2.2.2.1.2[i]).map Ia))) (new := fe s.2.2.2.2.1.2[i]) hL (cellsL _ _ _ _) (by simp [fe, fv]) (by omega)
    obtain ⟨oo, HH, e, hO, kk⟩ := ih (i + 1) o' H1 (acc ++ fe s.2.2.2.2.1.2[i]) (by omega) (by omega) (hK _ _ hq) hL' (by rw [List.length_append]; omega)
    refine ⟨oo, HH, ?_, by rw [← List.append_assoc]; exact hO, (kn3).trans (kk)⟩
    have hl3 : ∀ H, litA false 1 [I s.2.2.2.2.1.2[i].1, I s.2.2.2.2.1.2[i].2.1, I s.2.2.2.2.1.2[i].2.2] H = some (.p (.sl (some false) true 3 ((fe s.2.2.2.2.1.2[i]).map Ia)), H) := fun H => rfl
    rw [L19_64_eq]
    simp only [fldA_ptr, Nat.zero_add, obs, ldP hq (off := 4) rfl, lenA_sl, bin_lss, cond_B]
    rw [if_pos (by simp <;> omega), idxL hi']
    simp only [obs, fldA_fp, fldL len_End hi' (off := 0) (by omega) rfl, Nat.add_zero, fldL len_End hi' (off := 1) (by omega) rfl, Nat.add_assoc, Nat.reduceAdd, fldL len_End hi' (off := 2) (by omega) rfl]
    have f0 : ∀ H, ld false 1 (.fp (s.2.2.2.2.1.2.flatMap enc_End) (i * 3)) H = some (I s.2.2.2.2.1.2[i].1) := fun H => fldL len_End hi' (off := 0) (by omega) rfl H
    simp only [f0, obs, hl3, ea, bin_add]
    rw [wrap_id (by omega), show (i : Int) + 1 = ((i + 1 : Nat) : Int) by omega, e]

theorem zer5 (H : Heap) : boxO [] [.p nilS, I 0, I 0, I 0, I 0] H = some (.ptr H.length 0, H ++ [.box [.p nilS, I 0, I 0, I 0, I 0]]) := boxO_p [nilS, Ia 0, Ia 0, Ia 0, Ia 0] H

theorem t50 (ok : ok_State s) (lo : List Nat) : ∀ (c i : Nat) (o : AV) (H : Heap) (acc : List Int), s.2.2.2.1.2.length - i = c → i ≤ s.2.2.2.1.2.length → H[q]? = some (.box ((enc_State s).map .p)) → Out N o H acc → acc.length + (r50 s i).length ≤ LIM →
    ∃ o' H', L19_50 [.ptr q 0, o, I i] lo H = some ([o'], H') ∧ Out N o' H' (acc ++ r50 s i) ∧ KN N H H' := by
  have ok' := ok
  obtain ⟨okC, okS, okT, okH, okE, okV⟩ := ok
  have hlen : s.2.2.2.1.2.length < 2 ^ 63 := okH.1
  intro c
  induction c with
  | zero =>
    intro i o H acc hc hi hq hL hb
    have : i = s.2.2.2.1.2.length := by omega
    subst this
    have hr : r50 s s.2.2.2.1.2.length = [(s.2.2.2.2.1.2.length : Int)] ++ r64 s 0 := by simp [r50]
    rw [hr] at hb ⊢
    rw [List.length_append] at hb
    obtain ⟨o1, H1, a1, L1, K1, kn4⟩ := put (y := .p (.sl (some false) true 1 (([(s.2.2.2.2.1.2.length : Int)] : List Int).map Ia))) (new := [(s.2.2.2.2.1.2.length : Int)]) hL (cellsL _ _ _ _) (by simp) (by omega)
    obtain ⟨oo, HH, e, hO, kk⟩ := t64 ok' lo _ 0 o1 H1 _ rfl (by omega) (K1 _ _ hq) L1 (by rw [List.length_append]; omega)
    refine ⟨oo, HH, ?_, by rw [← List.append_assoc]; exact hO, (kn4).trans (kk)⟩
    rw [L19_50_eq]
    simp only [fldA_ptr, Nat.zero_add, obs, ldP hq (off := 3) rfl, lenA_sl, bin_lss, cond_B]
    rw [if_neg (by simp)]
    simp only [ldP hq (off := 4) rfl, obs, lenA_sl, lit1, a1]
    rw [show (I 0) = I (0 : Nat) from rfl, e]
  | succ c ih =>
    intro i o H acc hc hi hq hL hb
    have hi' : i < s.2.2.2.1.2.length := by omega
    have okf : ok_LFrame (s.2.2.2.1.2[i]).1 := okH.2 _ (List.getElem_mem hi')
    have hr : r50 s i = fth s.2.2.2.1.2[i] ++ r50 s (i + 1) := by unfold r50; rw [List.drop_eq_getElem_cons hi', List.flatMap_cons, List.append_assoc]
    rw [hr] at hb ⊢
    rw [List.length_append] at hb
    have hall := allL len_Thread hi' H
    have hix := idxL (nl := s.2.2.2.1.1.1) (tg := s.2.2.2.1.1.2) (enc := enc_Thread) (c := 5) hi'
    generalize s.2.2.2.1.2[i] = p at *
    have hst : stA 5 (.ptr H.length 0) (.agg ((enc_Thread p).map .p)) lo (H ++ [.box [.p nilS, I 0, I 0, I 0, I 0]]) = some (H ++ [.box ((enc_Thread p).map .p)]) := st_new (len_Thread p) rfl
    have hp : (H ++ [AObj.box ((enc_Thread p).map AV.p)])[H.length]? = some (.box ((enc_Thread p).map .p)) := by simp
    have hq0 := push_get? hq [.box ((enc_Thread p).map AV.p)]
    have hfl : (fth p).length = (ffs p.1).length + 4 := by simp [fth, fv]
    obtain ⟨nv, tv, c76⟩ := call76 p.1 okf (by omega) okf.1 lo (H ++ [.box ((enc_Thread p).map .p)])
    obtain ⟨o1, H1, a1, L1, K1, kn5⟩ := put (y := .p (.sl nv tv (ffs p.1).length ((ffs p.1).map Ia))) (new := ffs p.1) (hL.push [.box ((enc_Thread p).map .p)]) (cellsL _ _ _ _) (ffs_pos _) (by omega)
    have q1 := K1 _ _ hq0
    have p1 := K1 _ _ hp
    obtain ⟨o2, H2, a2, L2, K2, kn6⟩ := put (y := .p (.sl (some false) true 4 (([p.2.1, p.2.2.1, p.2.2.2.1, p.2.2.2.2] : List Int).map Ia))) (new := [p.2.1, p.2.2.1, p.2.2.2.1, p.2.2.2.2]) L1 (cellsL _ _ _ _) (by simp) (by simp; omega)
    have q2 := K2 _ _ q1
    have hacc : acc ++ ffs p.1 ++ [p.2.1, p.2.2.1, p.2.2.2.1, p.2.2.2.2] = acc ++ fth p := by simp [fth, fv]
    rw [hacc] at L2
    obtain ⟨oo, HH, e, hO, kk⟩ := ih (i + 1) o2 H2 _ (by omega) (by omega) q2 L2 (by rw [List.length_append]; omega)
    refine ⟨oo, HH, ?_, by rw [← List.append_assoc]; exact hO, ((KN.push _ hL.2.2.1)).trans ((kn5).trans ((kn6).trans (kk)))⟩
    rw [L19_50_eq]
    simp only [fldA_ptr, Nat.zero_add, obs, ldP hq (off := 3) rfl, lenA_sl, bin_lss, cond_B]
    rw [if_pos (by simp <;> omega), hix]
    simp only [obs, hall, zer5, hst, oms, fldA_ptr, Nat.zero_add, Nat.add_zero, ldP hp (off := 0) rfl, c76, a1, ldP p1 (off := 1) rfl, ldP p1 (off := 2) rfl, ldP p1 (off := 3) rfl, ldP p1 (off := 3 + 1) rfl, lit4, a2, bin_add]
    rw [wrap_id (by omega), show (i : Int) + 1 = ((i + 1 : Nat) : Int) by omega, e]

/-! ### Texts -/
theorem strAt_get {s : ByteArray} {k : Nat} (h : k < s.data.toList.length) : strAt (S s) (I k) = some (.p (.v (.int .u8 (s.data.toList[k]).toNat))) := by
  have hk : k < s.size := by rw [Array.length_toList] at h; exact h
  have e : s[k]? = some s.data.toList[k] := by
    rw [getElem?_pos s k hk]
    rfl
  simp only [strAt]
  rw [if_pos (by omega), Int.toNat_natCast, e]

theorem ldS {i : Nat} {l : List ByteArray} (h : i < l.length) (H : Heap) : ld false 1 (.fp (l.flatMap enc_str) (i * 1)) H = some (S l[i]) := fldL len_str (off := 0) h (by omega) rfl H
theorem idxS {nl : Option Bool} {tg : Bool} {i : Nat} {l : List ByteArray} (h : i < l.length) : idxA 1 (.p (.sl nl tg l.length (l.flatMap enc_str))) (I i) = some (.fp (l.flatMap enc_str) (i * 1)) := idxL h

theorem t40 (ok : ok_State s) {i : Nat} (hi : i < s.2.2.1.2.length) (lo : List Nat) : ∀ (c k : Nat) (o : AV) (H : Heap) (acc : List Int), (s.2.2.1.2[i]).data.toList.length - k = c → k ≤ (s.2.2.1.2[i]).data.toList.length → H[q]? = some (.box ((enc_State s).map .p)) → Out N o H acc → acc.length + (((s.2.2.1.2[i]).data.toList.drop k).map fun b => (b.toNat : Int)).length ≤ LIM →
    ∃ o' H', Out N o' H' (acc ++ ((s.2.2.1.2[i]).data.toList.drop k).map fun b => (b.toNat : Int)) ∧ KN N H H' ∧ H'[q]? = some (.box ((enc_State s).map .p)) ∧ L19_40 [.ptr q 0, o, I i, I k] lo H = L19_32 [.ptr q 0, o', I (i + 1 : Nat)] lo H' := by
  obtain ⟨okC, okS, okT, okH, okE, okV⟩ := ok
  have hlen : s.2.2.1.2.length < 2 ^ 63 := okT.1
  have hsz : (s.2.2.1.2[i]).data.toList.length = (s.2.2.1.2[i]).size := by rw [Array.length_toList]; rfl
  have hs := okT.2 _ (List.getElem_mem hi)
  intro c
  induction c with
  | zero =>
    intro k o H acc hc hk hq hL hb
    have : k = (s.2.2.1.2[i]).data.toList.length := by omega
    subst this
    refine ⟨o, H, by rw [List.drop_length]; simpa using hL, KN.refl _ _, hq, ?_⟩
    rw [L19_40_eq]
    simp only [fldA_ptr, Nat.zero_add, obs, ldP hq (off := 2) rfl]
    rw [idxS hi]
    simp only [obs, ldS hi, lenA_str, bin_lss, cond_B]
    rw [if_neg (by simp [hsz])]
    simp only [bin_add, obs]
    rw [wrap_id (by omega), show (i : Int) + 1 = ((i + 1 : Nat) : Int) by omega]
  | succ c ih =>
    intro k o H acc hc hk hq hL hb
    have hk' : k < (s.2.2.1.2[i]).data.toList.length := by omega
    rw [List.drop_eq_getElem_cons hk', List.map_cons, List.length_cons] at hb
    rw [List.drop_eq_getElem_cons hk', List.map_cons]
    have hcv : ∀ b : UInt8, conv (.int .i64) (.p (.v (.int .u8 b.toNat))) = some (I b.toNat) := fun b => by
      show some (AV.p (.v (.int .i64 (IntKind.i64.wrap b.toNat)))) = _
      have := b.toNat_lt
      rw [wrap_id (by omega)]
    obtain ⟨o', H1, ea, hL', hK, kn⟩ := put (y := .p (.sl (some false) true 1 (([((s.2.2.1.2[i]).data.toList[k].toNat : Int)] : List Int).map Ia))) (new := [((s.2.2.1.2[i]).data.toList[k].toNat : Int)]) hL (cellsL _ _ _ _) (by simp) (by simp; omega)
    obtain ⟨o2, H2, hL2, k2, hq2, e⟩ := ih (k + 1) o' H1 _ (by omega) (by omega) (hK _ _ hq) hL' (by rw [List.length_append, List.length_singleton]; omega)
    refine ⟨o2, H2, by simpa using hL2, kn.trans k2, hq2, ?_⟩
    rw [L19_40_eq]
    simp only [fldA_ptr, Nat.zero_add, obs, ldP hq (off := 2) rfl]
    rw [idxS hi]
    simp only [obs, ldS hi, lenA_str, bin_lss, cond_B]
    rw [if_pos (by simp; omega), strAt_get hk']
    simp only [obs, hcv, lit1, ea, bin_add]
    rw [wrap_id (by omega), show (k : Int) + 1 = ((k + 1 : Nat) : Int) by omega]
    exact e

theorem t32 (ok : ok_State s) (lo : List Nat) : ∀ (c i : Nat) (o : AV) (H : Heap) (acc : List Int), s.2.2.1.2.length - i = c → i ≤ s.2.2.1.2.length → H[q]? = some (.box ((enc_State s).map .p)) → Out N o H acc → acc.length + (r32 s i).length ≤ LIM →
    ∃ o' H', L19_32 [.ptr q 0, o, I i] lo H = some ([o'], H') ∧ Out N o' H' (acc ++ r32 s i) ∧ KN N H H' := by
  have ok' := ok
  obtain ⟨okC, okS, okT, okH, okE, okV⟩ := ok
  have hlen : s.2.2.1.2.length < 2 ^ 63 := okT.1
  intro c
  induction c with
  | zero =>
    intro i o H acc hc hi hq hL hb
    have : i = s.2.2.1.2.length := by omega
    subst this
    have hr : r32 s s.2.2.1.2.length = [(s.2.2.2.1.2.length : Int)] ++ r50 s 0 := by simp [r32]
    rw [hr] at hb ⊢
    rw [List.length_append] at hb
    obtain ⟨o1, H1, a1, L1, K1, kn7⟩ := put (y := .p (.sl (some false) true 1 (([(s.2.2.2.1.2.length : Int)] : List Int).map Ia))) (new := [(s.2.2.2.1.2.length : Int)]) hL (cellsL _ _ _ _) (by simp) (by omega)
    obtain ⟨oo, HH, e, hO, kk⟩ := t50 ok' lo _ 0 o1 H1 _ rfl (by omega) (K1 _ _ hq) L1 (by rw [List.length_append]; omega)
    refine ⟨oo, HH, ?_, by rw [← List.append_assoc]; exact hO, (kn7).trans (kk)⟩
    rw [L19_32_eq]
    simp only [fldA_ptr, Nat.zero_add, obs, ldP hq (off := 2) rfl, lenA_sl, bin_lss, cond_B]
    rw [if_neg (by simp)]
    simp only [ldP hq (off := 3) rfl, obs, lenA_sl, lit1, a1]
    rw [show (I 0) = I (0 : Nat) from rfl, e]
  | succ c ih =>
    intro i o H acc hc hi hq hL hb
    have hi' : i < s.2.2.1.2.length := by omega
    have hsz : (s.2.2.1.2[i]).data.toList.length = (s.2.2.1.2[i]).size := by rw [Array.length_toList]; rfl
    have hr : r32 s i = ftx s.2.2.1.2[i] ++ r32 s (i + 1) := by unfold r32; rw [List.drop_eq_getElem_cons hi', List.flatMap_cons, List.append_assoc]
    rw [hr] at hb ⊢
    rw [List.length_append] at hb
    have hfl : (ftx s.2.2.1.2[i]).length = 1 + (s.2.2.1.2[i]).data.toList.length := by simp [ftx]; omega
    obtain ⟨o', H1, ea, hL', hK, kn8⟩ := put (y := .p (.sl (some false) true 1 (([((s.2.2.1.2[i]).size : Int)] : List Int).map Ia))) (new := [((s.2.2.1.2[i]).size : Int)]) hL (cellsL _ _ _ _) (by simp) (by simp; omega)
    obtain ⟨o2, H2, hL2, k40, hq2, e2⟩ := t40 ok' hi' lo _ 0 o' H1 _ rfl (by omega) (hK _ _ hq) hL' (by rw [List.drop_zero, List.length_append, List.length_singleton, List.length_map]; omega)
    have hacc : (acc ++ [((s.2.2.1.2[i]).size : Int)]) ++ ((s.2.2.1.2[i]).data.toList.drop 0).map (fun b => (b.toNat : Int)) = acc ++ ftx s.2.2.1.2[i] := by simp [ftx]
    rw [hacc] at hL2
    obtain ⟨oo, HH, e, hO, kk⟩ := ih (i + 1) o2 H2 _ (by omega) (by omega) hq2 hL2 (by rw [List.length_append]; omega)
    refine ⟨oo, HH, ?_, by rw [← List.append_assoc]; exact hO, (kn8).trans ((k40).trans (kk))⟩
    rw [L19_32_eq]
    simp only [fldA_ptr, Nat.zero_add, obs, ldP hq (off := 2) rfl, lenA_sl, bin_lss, cond_B]
    rw [if_pos (by simp <;> omega), idxS hi']
    simp only [obs, ldS hi', lenA_str, lit1, ea]
    rw [show (I 0) = I (0 : Nat) from rfl, e2, e]

theorem t22 (ok : ok_State s) (lo : List Nat) : ∀ (c i : Nat) (o : AV) (H : Heap) (acc : List Int), s.2.1.2.length - i = c → i ≤ s.2.1.2.length → H[q]? = some (.box ((enc_State s).map .p)) → Out N o H acc → acc.length + (r22 s i).length ≤ LIM →
    ∃ o' H', L19_22 [.ptr q 0, o, I i] lo H = some ([o'], H') ∧ Out N o' H' (acc ++ r22 s i) ∧ KN N H H' := by
  have ok' := ok
  obtain ⟨okC, okS, okT, okH, okE, okV⟩ := ok
  have hlen : s.2.1.2.length < 2 ^ 63 := okS
  intro c
  induction c with
  | zero =>
    intro i o H acc hc hi hq hL hb
    have : i = s.2.1.2.length := by omega
    subst this
    have hr : r22 s s.2.1.2.length = [(s.2.2.1.2.length : Int)] ++ r32 s 0 := by simp [r22]
    rw [hr] at hb ⊢
    rw [List.length_append] at hb
    obtain ⟨o1, H1, a1, L1, K1, kn9⟩ := put (y := .p (.sl (some false) true 1 (([(s.2.2.1.2.length : Int)] : List Int).map Ia))) (new := [(s.2.2.1.2.length : Int)]) hL (cellsL _ _ _ _) (by simp) (by omega)
    obtain ⟨oo, HH, e, hO, kk⟩ := t32 ok' lo _ 0 o1 H1 _ rfl (by omega) (K1 _ _ hq) L1 (by rw [List.length_append]; omega)
    refine ⟨oo, HH, ?_, by rw [← List.append_assoc]; exact hO, (kn9).trans (kk)⟩
    rw [L19_22_eq]
    simp only [fldA_ptr, Nat.zero_add, obs, ldP hq (off := 1) rfl, lenA_sl, bin_lss, cond_B]
    rw [if_neg (by simp)]
    simp only [ldP hq (off := 2) rfl, obs, lenA_sl, lit1, a1]
    rw [show (I 0) = I (0 : Nat) from rfl, e]
  | succ c ih =>
    intro i o H acc hc hi hq hL hb
    have hi' : i < s.2.1.2.length := by omega
    have hr : r22 s i = fsh s.2.1.2[i] ++ r22 s (i + 1) := by unfold r22; rw [List.drop_eq_getElem_cons hi', List.flatMap_cons, List.append_assoc]
    rw [hr] at hb ⊢
    rw [List.length_append] at hb
    have hl2 : ∀ H, litA false 1 [I s.2.1.2[i].1, I s.2.1.2[i].2] H = some (.p (.sl (some false) true 2 ((fsh s.2.1.2[i]).map Ia)), H) := fun H => rfl
    obtain ⟨o', H1, ea, hL', hK, kn10⟩ := put (y := .p (.sl (some false) true 2 ((fsh s.2.1.2[i]).map Ia))) (new := fsh s.2.1.2[i]) hL (cellsL _ _ _ _) (by simp [fsh]) (by omega)
    obtain ⟨oo, HH, e, hO, kk⟩ := ih (i + 1) o' H1 _ (by omega) (by omega) (hK _ _ hq) hL' (by rw [List.length_append]; omega)
    refine ⟨oo, HH, ?_, by rw [← List.append_assoc]; exact hO, (kn10).trans (kk)⟩
    rw [L19_22_eq]
    simp only [fldA_ptr, Nat.zero_add, obs, ldP hq (off := 1) rfl, lenA_sl, bin_lss, cond_B]
    rw [if_pos (by simp <;> omega), idxL hi']
    simp only [obs, fldA_fp, fldL len_Shape hi' (off := 0) (by omega) rfl, fldL len_Shape hi' (off := 1) (by omega) rfl, hl2, ea, bin_add]
    rw [wrap_id (by omega), show (i : Int) + 1 = ((i + 1 : Nat) : Int) by omega, e]

theorem t8 (ok : ok_State s) (lo : List Nat) : ∀ (c i : Nat) (o : AV) (H : Heap) (acc : List Int), s.1.2.length - i = c → i ≤ s.1.2.length → H[q]? = some (.box ((enc_State s).map .p)) → Out N o H acc → acc.length + (r8 s i).length ≤ LIM →
    ∃ o' H', L19_8 [.ptr q 0, o, I i] lo H = some ([o'], H') ∧ Out N o' H' (acc ++ r8 s i) ∧ KN N H H' := by
  have ok' := ok
  obtain ⟨okC, okS, okT, okH, okE, okV⟩ := ok
  have hlen : s.1.2.length < 2 ^ 63 := okC.1
  intro c
  induction c with
  | zero =>
    intro i o H acc hc hi hq hL hb
    have : i = s.1.2.length := by omega
    subst this
    have hr : r8 s s.1.2.length = [(s.2.1.2.length : Int)] ++ r22 s 0 := by simp [r8]
    rw [hr] at hb ⊢
    rw [List.length_append] at hb
    obtain ⟨o1, H1, a1, L1, K1, kn11⟩ := put (y := .p (.sl (some false) true 1 (([(s.2.1.2.length : Int)] : List Int).map Ia))) (new := [(s.2.1.2.length : Int)]) hL (cellsL _ _ _ _) (by simp) (by omega)
    obtain ⟨oo, HH, e, hO, kk⟩ := t22 ok' lo _ 0 o1 H1 _ rfl (by omega) (K1 _ _ hq) L1 (by rw [List.length_append]; omega)
    refine ⟨oo, HH, ?_, by rw [← List.append_assoc]; exact hO, (kn11).trans (kk)⟩
    rw [L19_8_eq]
    simp only [fldA_ptr, Nat.zero_add, obs, ldP hq (off := 0) rfl, lenA_sl, bin_lss, cond_B]
    rw [if_neg (by simp)]
    simp only [ldP hq (off := 1) rfl, obs, lenA_sl, lit1, a1]
    rw [show (I 0) = I (0 : Nat) from rfl, e]
  | succ c ih =>
    intro i o H acc hc hi hq hL hb
    have hi' : i < s.1.2.length := by omega
    have okc := okC.2 _ (List.getElem_mem hi')
    have hr : r8 s i = fc s.1.2[i] ++ r8 s (i + 1) := by unfold r8; rw [List.drop_eq_getElem_cons hi', List.flatMap_cons, List.append_assoc]
    rw [hr] at hb ⊢
    rw [List.length_append] at hb
    have g0 : ∀ H, ld false 1 (.fp (s.1.2.flatMap enc_Cell) (i * 4 + 0)) H = some (I s.1.2[i].1) := fun H => fldL len_Cell hi' (by omega) rfl H
    have g1 : ∀ H, ld false 1 (.fp (s.1.2.flatMap enc_Cell) (i * 4 + 1)) H = some (I s.1.2[i].2.1) := fun H => fldL len_Cell hi' (by omega) rfl H
    have g2 : ∀ H, ld false 1 (.fp (s.1.2.flatMap enc_Cell) (i * 4 + 2)) H = some (.p (.sl s.1.2[i].2.2.1.1.1 s.1.2[i].2.2.1.1.2 s.1.2[i].2.2.1.2.length (s.1.2[i].2.2.1.2.flatMap enc_Val))) := fun H => fldL len_Cell hi' (by omega) rfl H
    have g3 : ∀ H, ld false 1 (.fp (s.1.2.flatMap enc_Cell) (i * 4 + 3)) H = some (.p (.sl s.1.2[i].2.2.2.1.1 s.1.2[i].2.2.2.1.2 s.1.2[i].2.2.2.2.length (s.1.2[i].2.2.2.2.flatMap enc_Frame))) := fun H => fldL len_Cell hi' (by omega) rfl H
    have hix := idxL (nl := s.1.1.1) (tg := s.1.1.2) (enc := enc_Cell) (c := 4) hi'
    generalize s.1.2[i] = p at *
    have hfl : (fc p).length = 2 + (fvs p.2.2.1).length + (ffs p.2.2.2).length := by simp [fc]; omega
    obtain ⟨o1, H1, a1, L1, K1, kn12⟩ := put (y := .p (.sl (some false) true 2 (([p.1, p.2.1] : List Int).map Ia))) (new := [p.1, p.2.1]) hL (cellsL _ _ _ _) (by simp) (by simp; omega)
    have q1 := K1 _ _ hq
    obtain ⟨nv, tv, c75⟩ := call75 p.2.2.1 okc.1 (by omega) lo H1
    obtain ⟨o2, H2, a2, L2, K2, kn13⟩ := put (y := .p (.sl nv tv (fvs p.2.2.1).length ((fvs p.2.2.1).map Ia))) (new := fvs p.2.2.1) L1 (cellsL _ _ _ _) (fvs_pos _) (by simp; omega)
    have q2 := K2 _ _ q1
    obtain ⟨nw, tw, c76⟩ := call76 p.2.2.2 okc.2 (by omega) okc.2.1 lo H2
    obtain ⟨o3, H3, a3, L3, K3, kn14⟩ := put (y := .p (.sl nw tw (ffs p.2.2.2).length ((ffs p.2.2.2).map Ia))) (new := ffs p.2.2.2) L2 (cellsL _ _ _ _) (ffs_pos _) (by simp; omega)
    have q3 := K3 _ _ q2
    have hacc : acc ++ [p.1, p.2.1] ++ fvs p.2.2.1 ++ ffs p.2.2.2 = acc ++ fc p := by simp [fc]
    rw [hacc] at L3
    obtain ⟨oo, HH, e, hO, kk⟩ := ih (i + 1) o3 H3 _ (by omega) (by omega) q3 L3 (by rw [List.length_append]; omega)
    refine ⟨oo, HH, ?_, by rw [← List.append_assoc]; exact hO, (kn12).trans ((kn13).trans ((kn14).trans (kk)))⟩
    rw [L19_8_eq]
    simp only [fldA_ptr, Nat.zero_add, obs, ldP hq (off := 0) rfl, lenA_sl, bin_lss, cond_B]
    rw [if_pos (by simp <;> omega), hix]
    simp only [obs, fldA_fp, g0, g1, lit2, a1, ldP q1 (off := 0) rfl, hix, g2, c75, a2, ldP q2 (off := 0) rfl, g3, c76, a3, bin_add]
    rw [wrap_id (by omega), show (i : Int) + 1 = ((i + 1 : Nat) : Int) by omega, e]

theorem call19 (ok : ok_State s) (hb : (flat s).length ≤ LIM) (H : Heap) : ∃ o H', callA cfg O 19 [.agg ((enc_State s).map .p)] [] H = some (o, H') ∧ Out H.length o H' (flat s) ∧ KN H.length H H' := by
  have e1 : boxO [] (AV.cells (.agg ((enc_State s).map .p))) H = some (.ptr H.length 0, H ++ [.box ((enc_State s).map .p)]) := boxO_p _ H
  rw [← r8_flat] at hb ⊢
  rw [List.length_cons] at hb
  have hS : (H ++ [.box ((enc_State s).map .p)] : Heap)[H.length]? = some (.box ((enc_State s).map .p)) := by simp
  obtain ⟨o, H', e, hO, hk⟩ := t8 (s := s) (q := H.length) (N := H.length) ok [] _ 0 (.p (.sl (some false) true 1 (([(s.1.2.length : Int)] : List Int).map Ia))) (H ++ [.box ((enc_State s).map .p)]) [(s.1.2.length : Int)] rfl (by omega) hS (Out.lit _ _ (by simp)) (by rw [List.length_singleton]; omega)
  refine ⟨o, H', callA_keep (rs := [o]) rfl ?_, hO, (KN.push _ (Nat.le_refl _)).trans hk⟩
  rw [f19_eq, e1]
  simp only [obs, fldA_ptr, Nat.zero_add, ldP hS (off := 0) rfl, lenA_sl, lit1]
  exact e

end
end Snp
end Go.Proofs.Ytangmjeafnkfaaa
