import Derived.Test.YtfdkacaocngfkaaHunT
set_option linter.unusedVariables false
set_option linter.unusedSimpArgs false
namespace Go.Proofs.Ytfdkacaocngfkaa
open Go Go.AM
namespace Hun

/-! ### listed -/
abbrev SetV := Option Bool × Bool × (Nat → Bool)
def cellS (N : Nat) (s : SetV) : PV := .sl s.1 s.2.1 N (tb N s.2.2)
abbrev Z (N : Nat) (nl : Option Bool) (tg : Bool) (S : List SetV) : AV := .p (.sl nl tg S.length (S.map (cellS N)))

def flt (N : Nat) (p : Nat → Bool) : List Int := ((List.range N).filter p).map fun (m : Nat) => (m : Int)

theorem flt_succ (k : Nat) (p : Nat → Bool) : flt (k + 1) p = flt k p ++ (if p k = true then [(k : Int)] else []) := by
  unfold flt
  rw [List.range_succ, List.filter_append, List.map_append]
  cases h : p k <;> simp [h]
theorem flt_len (k : Nat) (p : Nat → Bool) : (flt k p).length ≤ k := by
  unfold flt
  rw [List.length_map]
  exact Nat.le_trans (List.length_filter_le _ _) (by simp)
theorem flt_congr {N : Nat} {p q : Nat → Bool} (h : ∀ m, m < N → p m = q m) : flt N p = flt N q := by
  unfold flt
  congr 1
  exact List.filter_congr fun m hm => h m (by simpa using hm)

section
variable {nl : Option Bool} {tg : Bool} {l : List Dd} {N : Nat} {S : List SetV}

theorem call97 {id k : Nat} {H : Heap} (ho : H[id]? = some (.box [I k])) (hk : k < N) (s : SetV) (lo : List Nat) : callV cfg O (.fn 97 [] [.ptr id 0]) [.p (cellS N s)] lo H = some (B (!s.2.2 k), H) := by
  show callA cfg O 97 [.p (cellS N s), .ptr id 0] lo H = _
  refine callA_keep (rs := [B (!s.2.2 k)]) rfl ?_
  rw [f97_eq]
  have hl : ld false 1 (.ptr id 0) H = some (I k) := by rw [ld_box ho]; rfl
  have hx : idxA 1 (.p (cellS N s)) (I k) = some (.fp (tb N s.2.2) k) := by
    have := idxA_sl (sz := 1) (n := N) (nl := s.1) (t := s.2.1) (xs := tb N s.2.2) (j := (k : Int)) (by omega)
    unfold cellS
    simpa using this
  have hd : ld false 1 (.fp (tb N s.2.2) k) H = some (B (s.2.2 k)) := by rw [ld_fp, tb_get hk]; rfl
  simp only [hl, obs, hx, hd, un_not]
  rfl

theorem setLoop {id k : Nat} {H : Heap} (ho : H[id]? = some (.box [I k])) (hk : k < N) (hS : S.length < 100) (lo : List Nat) : ∀ (c i : Nat), S.length - i = c → i ≤ S.length →
    ∃ z : Int, L98_6 [Z N nl tg S, .fn 97 [] [.ptr id 0], I S.length, I i] lo H = some ([I z], H) ∧ decide (0 ≤ z) = (S.drop i).any fun s => !s.2.2 k := by
  intro c
  induction c with
  | zero =>
    intro i hc hi
    have : i = S.length := by omega
    subst this
    refine ⟨-1, ?_, by simp⟩
    rw [L98_6_eq]
    simp only [bin_lss, obs, cond_B]
    rw [if_neg (by simp)]
    rfl
  | succ c ih =>
    intro i hc hi
    have hi' : i < S.length := by omega
    obtain ⟨z, h1, h2⟩ := ih (i + 1) (by omega) (by omega)
    have hx : idxA 1 (Z N nl tg S) (I i) = some (.fp (S.map (cellS N)) i) := by
      have := idxA_sl (sz := 1) (n := S.length) (nl := nl) (t := tg) (xs := S.map (cellS N)) (j := (i : Int)) (by omega)
      simpa using this
    have hd : ld false 1 (.fp (S.map (cellS N)) i) H = some (.p (cellS N S[i])) := by rw [ld_fp, List.getElem?_map, List.getElem?_eq_getElem hi']; rfl
    have hstep : L98_6 [Z N nl tg S, .fn 97 [] [.ptr id 0], I S.length, I i] lo H = if (!S[i].2.2 k) = true then some ([I i], H) else L98_6 [Z N nl tg S, .fn 97 [] [.ptr id 0], I S.length, I (i + 1 : Nat)] lo H := by
      rw [L98_6_eq]
      simp only [bin_lss, obs, cond_B]
      rw [if_pos (by simp <;> omega), hx]
      simp only [obs, hd, call97 ho hk, cond_B, bin_add]
      rw [wrap_id (by omega), show (i : Int) + 1 = ((i + 1 : Nat) : Int) by omega]
      rfl
    have hdr : ((S.drop i).any fun s => !s.2.2 k) = ((!S[i].2.2 k) || (S.drop (i + 1)).any fun s => !s.2.2 k) := by rw [List.drop_eq_getElem_cons hi', List.any_cons]
    rw [hstep, hdr]
    cases ht : S[i].2.2 k with
    | true =>
      refine ⟨z, ?_, by simpa using h2⟩
      simpa using h1
    | false => exact ⟨i, by simp, by simp⟩

theorem call96 {id k : Nat} {H : Heap} (ho : H[id]? = some (.box [I k])) (hk : k < N) (hS : S.length < 100) (lo : List Nat) : callA cfg O 96 [Z N nl tg S, .fn 97 [] [.ptr id 0]] lo H = some (B (S.any fun s => !s.2.2 k), H) := by
  obtain ⟨z, h1, h2⟩ := setLoop (nl := nl) (tg := tg) (S := S) ho hk hS lo S.length 0 rfl (by omega)
  refine callA_keep (rs := [B (S.any fun s => !s.2.2 k)]) rfl ?_
  rw [f96_eq]
  have h98 : callA cfg O 98 [Z N nl tg S, .fn 97 [] [.ptr id 0]] lo H = some (I z, H) := by
    refine callA_keep (rs := [I z]) rfl ?_
    rw [f98_eq]
    simp only [lenA_sl, obs]
    exact h1
  simp only [h98, obs, bin_geq]
  rw [h2, List.drop_zero]
  rfl

def inAll (S : List SetV) (k : Nat) : Bool := !(S.any fun s => !s.2.2 k)

theorem rowLeave {sz m id g : Nat} {H : Heap} {cs : List PV} {lo : List Nat} (ho : H[id]? = some (.row g sz cs)) (hl : cs.length = m * sz) (hm : 0 < m) : leave 0 lo [.row id g 0 m] H = some ([.p (.sl (some false) false m cs)], []) := by
  refine leave0_all (ps := [_]) (H' := H.set id (.row (g + 1) sz [])) ?_
  simp only [frzAll, frzA, frzLeaf, toPV, ho, Nat.zero_add, hl, Nat.le_refl, and_self, if_true, obs, oms, hm, List.map_cons, List.map_nil]
  rw [List.drop_zero, List.take_of_length_le (by omega)]

def rowOr (out : AV) (n : Nat) : Prop := n = 0 ∨ ∃ id g, out = .row id g 0 n

theorem Lst.leaveK {out : AV} {H : Heap} {m : Nat} {cs : List PV} (h : Lst 1 out H m cs) (hr : rowOr out m) (lo : List Nat) : ∃ nl tg H', leave 0 lo [out] H = some ([.p (.sl nl tg m cs)], H') ∧ (0 < m → nl = some false ∧ tg = false) := by
  rcases hr with e | ⟨id, g, rfl⟩
  · obtain ⟨nl, tg, H', e'⟩ := h.leave1 lo
    exact ⟨nl, tg, H', e', fun h => by omega⟩
  · by_cases hm : 0 < m
    · exact ⟨some false, false, [], rowLeave h.at h.1 hm, fun _ => ⟨rfl, rfl⟩⟩
    · obtain ⟨nl, tg, H', e'⟩ := h.leave1 lo
      exact ⟨nl, tg, H', e', fun h => by omega⟩

theorem listLoop (hN : N ≤ 200) (hS : S.length < 100) (lo : List Nat) : ∀ (c k : Nat) (out : AV) (H : Heap), N - k = c → k ≤ N → Lst 1 out H (flt k (inAll S)).length ((flt k (inAll S)).map Ia) → rowOr out (flt k (inAll S)).length →
    ∃ nl' tg' H', L92_6 [Z N nl tg S, out, I N, I k] lo H = some ([.p (.sl nl' tg' (flt N (inAll S)).length ((flt N (inAll S)).map Ia))], H') ∧ (0 < (flt N (inAll S)).length → nl' = some false ∧ tg' = false) := by
  intro c
  induction c with
  | zero =>
    intro k out H hc hk hL hrow
    have : k = N := by omega
    subst this
    obtain ⟨nl', tg', H', e, ek⟩ := Lst.leaveK hL hrow lo
    refine ⟨nl', tg', H', ?_, ek⟩
    rw [L92_6_eq]
    simp only [bin_lss, obs, cond_B]
    rw [if_neg (by simp)]
    exact e
  | succ c ih =>
    intro k out H hc hk hL hrow
    have hk' : k < N := by omega
    have hfl := flt_len k (inAll S)
    have b1 : boxO [] [I 0] H = some (.ptr H.length 0, H ++ [.box [I 0]]) := boxO_p [Ia 0] H
    have s1 : stA 1 (.ptr H.length 0) (I k) lo (H ++ [.box [I 0]]) = some (H ++ [.box [I k]]) := by
      rw [stA_one (x0 := I 0) (by simp)]
      simp
    have ho : (H ++ [AObj.box [I k]])[H.length]? = some (.box [I k]) := by simp
    have l1 : ld false 1 (.ptr H.length 0) (H ++ [.box [I k]]) = some (I k) := by rw [ld_box ho]; rfl
    have next : ∀ out' H', Lst 1 out' H' (flt (k + 1) (inAll S)).length ((flt (k + 1) (inAll S)).map Ia) → rowOr out' (flt (k + 1) (inAll S)).length → ∃ nl' tg' H'', L92_15 [Z N nl tg S, out', I N, I k] lo H' = some ([.p (.sl nl' tg' (flt N (inAll S)).length ((flt N (inAll S)).map Ia))], H'') ∧ (0 < (flt N (inAll S)).length → nl' = some false ∧ tg' = false) := by
      intro out' H' h h2
      rw [L92_15_eq]
      simp only [bin_add, obs]
      rw [wrap_id (by omega), show (k : Int) + 1 = ((k + 1 : Nat) : Int) by omega]
      exact ih (k + 1) out' H' (by omega) (by omega) h h2
    rw [L92_6_eq]
    simp only [bin_lss, obs, cond_B]
    rw [if_pos (by simp <;> omega), b1]
    simp only [obs, s1, oms, call96 (nl := nl) (tg := tg) (S := S) ho hk' hS, un_not, cond_B]
    have hL1 := hL.push [.box [I k]]
    cases ha : inAll S k with
    | true =>
      have ha' : (S.any fun s => !s.2.2 k) = false := by unfold inAll at ha; simpa using ha
      have hlit : litA false 1 [I k] (H ++ [.box [I k]]) = some (.p (.sl (some false) true 1 [Ia k]), H ++ [.box [I k]]) := rfl
      obtain ⟨out', H2, ea, hL', _, _, _, id, g, eo, _⟩ := hL1.app (bytes := 8) (y := .p (.sl (some false) true 1 [Ia k])) (k := 1) (new := [Ia k]) (by simp [cellsA]) rfl (by omega) (by simp only [room]; omega)
      simp only [ha', Bool.not_false, if_true, l1, obs, hlit, ea]
      have e1 : flt (k + 1) (inAll S) = flt k (inAll S) ++ [(k : Int)] := by rw [flt_succ, if_pos ha]
      refine next out' H2 ?_ ?_
      · rw [e1]; simpa using hL'
      · rw [e1]; exact .inr ⟨id, g, by simpa using eo⟩
    | false =>
      have ha' : (S.any fun s => !s.2.2 k) = true := by unfold inAll at ha; simpa using ha
      simp only [ha', Bool.not_true, Bool.false_eq_true, if_false]
      have e1 : flt (k + 1) (inAll S) = flt k (inAll S) := by rw [flt_succ, if_neg (by simp [ha]), List.append_nil]
      refine next out _ ?_ ?_
      · rw [e1]; exact hL1
      · rw [e1]; exact hrow

theorem call92 (hN : N ≤ 200) (hS : S.length < 100) (lo : List Nat) (H : Heap) : ∃ nl' tg', callA cfg O 92 [I N, Z N nl tg S] lo H = some (.p (.sl nl' tg' (flt N (inAll S)).length ((flt N (inAll S)).map Ia)), H) ∧ (0 < (flt N (inAll S)).length → nl' = some false ∧ tg' = false) := by
  obtain ⟨nl', tg', H', e, ek⟩ := listLoop (nl := nl) (tg := tg) (S := S) hN hS [] N 0 (.p nilS) [] rfl (by omega) (Lst.nil 1 []) (.inl rfl)
  refine ⟨nl', tg', callA_args (H' := H') (rs := [_]) rfl rfl ?_ rfl, ek⟩
  rw [f92_eq]
  exact e

/-! ### The calls of the package -/
theorem errF_zero {l : List Dd} {ps : List Int} (h : errF l ps = 0) : l.length ≤ 200 ∧ bad l = false ∧ ps.any (outB l.length) = false := by
  unfold errF at h
  by_cases h1 : 200 < l.length
  · rw [if_pos h1] at h; omega
  · rw [if_neg h1] at h
    cases h2 : bad l with
    | true => rw [h2] at h; simp at h
    | false =>
      rw [h2] at h
      simp only [Bool.false_eq_true, if_false] at h
      cases h3 : ps.any (outB l.length) with
      | true => rw [h3] at h; simp at h
      | false => exact ⟨by omega, rfl, rfl⟩

theorem in_of {n : Int} {k : Nat} (h : outB k n = false) : ∃ m : Nat, n = m ∧ m < k := by
  simp [outB] at h
  exact ⟨n.toNat, by omega, by omega⟩

noncomputable def resB (l : List Dd) (i : Int) : List Int := if errF l [i] = 0 then flt l.length (rb l i.toNat) else []

theorem call86 (hu : ∀ k, (U l k).length < 2 ^ 63) (i : Int) (lo : List Nat) (H : Heap) : ∃ nl' tg', callA cfg O 86 [W nl tg l, I i] lo H = some (.tup [.p (.sl nl' tg' (resB l i).length ((resB l i).map Ia)), I (errF l [i])], H) ∧ (0 < (resB l i).length → nl' = some false ∧ tg' = false) := by
  have e1 : litA false 1 [I i] [] = some (V (some false) true [i], []) := rfl
  have h91 := call91 (nl := nl) (tg := tg) (ps := [i]) (n2 := some false) (t2 := true) hu (by simp) [] []
  unfold resB
  by_cases h : errF l [i] = 0
  · obtain ⟨h1, h2, h3⟩ := errF_zero h
    simp only [List.any_cons, List.any_nil, Bool.or_false] at h3
    obtain ⟨m, rfl, hm⟩ := in_of h3
    obtain ⟨n1, t1, c93⟩ := call93 (nl := nl) (tg := tg) (valid_of h2) hu hm h1 [] []
    have e2 : litA false 1 [.p (.sl n1 t1 l.length (tb l.length (rb l m)))] [] = some (Z l.length (some false) true [(n1, t1, rb l m)], []) := rfl
    obtain ⟨n2, t2, c92, ek⟩ := call92 (nl := some false) (tg := true) (S := [(n1, t1, rb l m)]) h1 (by simp) [] []
    have : inAll [(n1, t1, rb l m)] = rb l m := by funext k; simp [inAll]
    rw [this] at c92 ek
    refine ⟨n2, t2, callA_args (H' := []) (rs := [.p (.sl n2 t2 (flt l.length (rb l m)).length ((flt l.length (rb l m)).map Ia)), I 0]) rfl rfl ?_ rfl |>.trans ?_, ?_⟩
    · rw [f86_eq]
      simp only [e1, obs, h91, h, bin_neq, decide_true, Bool.not_true, cond_B, Bool.false_eq_true, if_false, lenA_sl, c93, e2, c92]
      rfl
    · rw [if_pos h, h]; rfl
    · rw [if_pos h]; exact ek
  · refine ⟨some true, true, callA_args (H' := []) (rs := [.p nilS, I (errF l [i])]) rfl rfl ?_ rfl |>.trans ?_, ?_⟩
    · rw [f86_eq]
      simp only [e1, obs, h91, h, bin_neq, decide_false, Bool.not_false, cond_B, if_true]
      rfl
    · rw [if_neg h]; rfl
    · rw [if_neg h]; intro e; cases e

/-! ### The document's: HangsOn -/
theorem hangIn (hv : Valid l) (hu : ∀ k, (U l k).length < 2 ^ 63) {i n k : Nat} (hN : l.length ≤ 200) (hk : k < l.length) (lo : List Nat) : ∀ (c j : Nat) (f : Nat → Bool), (U l k).length - j = c → j ≤ (U l k).length →
    L63_16 [W nl tg l, I i, I n, Rw l.length, I k, I j] lo (Hf l.length f []) = L63_8 [W nl tg l, I i, I n, Rw l.length, I (k + 1 : Nat)] lo (Hf l.length (fun m => if m = k then (f k || ((U l k).drop j).any fun u => decide ((n : Int) ≤ u) && f u.toNat) else f m) []) := by
  intro c
  have hlen := hu k
  induction c with
  | zero =>
    intro j f hc hj
    have : j = (U l k).length := by omega
    subst this
    rw [L63_16_eq]
    simp only [idxw hk, obs, fldA_fp, ldw0 hk]
    simp only [ua, lenA_sl, bin_lss, obs, cond_B]
    rw [if_neg (by simp)]
    simp only [bin_add, obs]
    rw [wrap_id (by omega), show (k : Int) + 1 = ((k + 1 : Nat) : Int) by omega]
    congr 2
    funext m
    by_cases e : m = k
    · subst e; simp
    · simp [e]
  | succ c ih =>
    intro j f hc hj
    have hj' : j < (U l k).length := by omega
    have hb := hv k _ (List.getElem_mem hj')
    obtain ⟨u, hu'⟩ : ∃ u : Nat, (U l k)[j] = u := ⟨(U l k)[j].toNat, by omega⟩
    have huk : u < k := by omega
    have hd : ∀ g : Int → Bool, ((U l k).drop j).any g = (g u || ((U l k).drop (j + 1)).any g) := fun g => by rw [List.drop_eq_getElem_cons hj', List.any_cons, hu']
    have nx : ∀ f', L63_19 [W nl tg l, I i, I n, Rw l.length, I k, I j] lo (Hf l.length f' []) = L63_8 [W nl tg l, I i, I n, Rw l.length, I (k + 1 : Nat)] lo (Hf l.length (fun m => if m = k then (f' k || ((U l k).drop (j + 1)).any fun u => decide ((n : Int) ≤ u) && f' u.toNat) else f' m) []) := by
      intro f'
      rw [L63_19_eq]
      simp only [bin_add, obs]
      rw [wrap_id (by omega), show (j : Int) + 1 = ((j + 1 : Nat) : Int) by omega]
      exact ih (j + 1) f' (by omega) (by omega)
    rw [L63_16_eq]
    simp only [idxw hk, obs, fldA_fp, ldw0 hk]
    simp only [ua, lenA_sl, bin_lss, obs, cond_B]
    rw [if_pos (by simp <;> omega), idx hj']
    simp only [obs, ldi hj', hu', bin_geq]
    have hin : ∀ u' ∈ (U l k).drop (j + 1), u'.toNat ≠ k := fun u' h' => by have := hv k u' (List.mem_of_mem_drop h'); omega
    by_cases h1 : (n : Int) ≤ u
    · simp only [h1, decide_true, gd_B, if_true, obs, idxw hk, fldA_fp, ldw0 hk]
      simp only [ua, idx hj', obs, ldi hj', hu', idxr (show u < l.length by omega), ldr (show u < l.length by omega), pickA_B, if_true, cond_B]
      cases hf : f u with
      | true =>
        simp only [if_true, idxr hk, obs, str lo hk, oms]
        rw [nx]
        congr 2
        funext m
        by_cases e : m = k
        · subst e
          rw [hd]
          simp [h1, hf]
        · simp [e]
      | false =>
        simp only [Bool.false_eq_true, if_false]
        rw [nx]
        congr 2
        funext m
        by_cases e : m = k
        · subst e
          rw [hd]
          simp [h1, hf]
        · simp [e]
    · simp only [h1, decide_false, gd_B, Bool.false_eq_true, if_false, obs, gd_undef, pickA_B, cond_B]
      rw [nx]
      congr 2
      funext m
      by_cases e : m = k
      · subst e
        rw [hd]
        simp [h1]
      · simp [e]

theorem hangOut (hv : Valid l) (hu : ∀ k, (U l k).length < 2 ^ 63) {i n : Nat} (hi : i < l.length) (hN : l.length ≤ 200) (hn : n < l.length) (lo : List Nat) : ∀ (c k : Nat) (f : Nat → Bool), i + 1 - k = c → n ≤ k → (k ≤ i + 1 ∨ i + 1 ≤ n ∧ k = n) → (∀ m, n ≤ m → m < k → (f m = true ↔ Reach l m n)) →
    ∃ H', L63_8 [W nl tg l, I i, I n, Rw l.length, I k] lo (Hf l.length f []) = some ([B (rb l i n)], H') := by
  intro c
  induction c with
  | zero =>
    intro k f hc hnk hk hf
    refine ⟨[], ?_⟩
    rw [L63_8_eq]
    simp only [bin_leq, obs, cond_B]
    rw [if_neg (by simp; omega)]
    by_cases h : n ≤ i
    · have h' : (n : Int) ≤ i := by omega
      have e : f i = rb l i n := by
        rw [Bool.eq_iff_iff, rb_iff]
        exact hf i h (by omega)
      simp only [h', decide_true, gd_B, if_true, obs, idxr hi, ldr hi, pickA_B, leave0_B, e]
    · have h' : ¬ (n : Int) ≤ i := by omega
      have e : rb l i n = false := by
        cases hr : rb l i n with
        | false => rfl
        | true => have := (rb_iff.mp hr).le hv; omega
      simp only [h', decide_false, gd_B, Bool.false_eq_true, if_false, obs, gd_undef, pickA_B, leave0_B, e]
  | succ c ih =>
    intro k f hc hnk hk hf
    have hki : k ≤ i := by omega
    have hk' : k < l.length := by omega
    rw [L63_8_eq]
    simp only [bin_leq, obs, cond_B]
    rw [if_pos (by simp <;> omega)]
    simp only [bin_eql, obs, idxr hk', str lo hk', oms]
    rw [show (I 0) = I (0 : Nat) from rfl, hangIn hv hu hN hk' lo _ 0 _ rfl (by omega), List.drop_zero]
    refine ih (k + 1) _ (by omega) (by omega) (by omega) fun m h1 h2 => ?_
    by_cases e : m = k
    · subst e
      simp only [if_true, Bool.or_eq_true, decide_eq_true_eq, List.any_eq_true, Bool.and_eq_true]
      rw [reach_iff]
      constructor
      · rintro (h | ⟨u, hu1, hu2, hu3⟩)
        · exact .inl (by omega)
        · have hb := hv m u hu1
          rw [if_neg (by omega)] at hu3
          exact .inr ⟨u.toNat, by rw [Int.toNat_of_nonneg hb.1]; exact hu1, (hf _ (by omega) (by omega)).mp hu3⟩
      · rintro (h | ⟨u, hu1, hr⟩)
        · exact .inl (by omega)
        · have hb := hv m _ hu1
          have hle := hr.le hv
          refine .inr ⟨u, hu1, by omega, ?_⟩
          rw [if_neg (by omega)]
          exact (hf _ (by omega) (by omega)).mpr (by simpa using hr)
    · simp only [e, if_false]
      exact hf m h1 (by omega)

theorem call63 (hv : Valid l) (hu : ∀ k, (U l k).length < 2 ^ 63) {i n : Nat} (hi : i < l.length) (hN : l.length ≤ 200) (hn : n < l.length) (lo : List Nat) (H : Heap) : callA cfg O 63 [W nl tg l, I i, I n] lo H = some (B (rb l i n), H) := by
  obtain ⟨H', e⟩ := hangOut (nl := nl) (tg := tg) hv hu hi hN hn [] _ n (fun _ => false) rfl (by omega) (by omega) (fun m h1 h2 => by omega)
  refine callA_args (H' := H') (rs := [B (rb l i n)]) rfl rfl ?_ rfl
  rw [f63_eq]
  simp only [lenA_sl, obs]
  rw [mkt _ hN]
  exact e

end
end Hun
end Go.Proofs.Ytfdkacaocngfkaa
