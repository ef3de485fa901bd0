import Derived.Test.YtangmjeafnkfaaaSmaS
set_option linter.unusedVariables false
set_option linter.unusedSimpArgs false
namespace Go.Proofs.Ytangmjeafnkfaaa
open Go Go.AM
namespace Sma

theorem Arg.len {x : AV} {H : Heap} {zs : List Int} (h : Arg x H zs) (H' : Heap) : lenA .slice x H' = some (I zs.length) := by
  rcases h with ⟨nl, tg, _, rfl⟩ | ⟨id, g, _, rfl, _⟩ <;> rfl

theorem Arg.cells {x : AV} {H : Heap} {zs : List Int} (h : Arg x H zs) : cellsA 1 x H = some (zs.length, zs.map Ia) := by
  rcases h with ⟨nl, tg, _, rfl⟩ | ⟨id, g, _, rfl, ho⟩
  · exact cellsV _ _ _ _
  · simp only [cellsA, ho]
    rw [if_pos (by simp), List.drop_zero, List.take_of_length_le (by simp)]

/-! ### Clone -/
theorem clone {x : AV} {H : Heap} {zs : List Int} (h : Arg x H zs) (hz : zs.length ≤ 200) : ∃ o H', callA cfg O 116 [x] [] H = some (o, H') ∧ ((o = .p nilS ∧ H' = H ∧ zs = []) ∨ (o = .row H.length 0 0 zs.length ∧ H' = H ++ [.row 0 1 (zs.map Ia)])) := by
  have mode4 : ∀ {rs : List AV} {H' : Heap}, O.ent 116 [x] [] H = some (rs, H') → (H' = H ∨ ∃ o, H' = H ++ [o]) → callA cfg O 116 [x] [] H = some (ret rs, H') := by
    intro rs H' he hh
    have hm : cfg.mode 116 = 4 := rfl
    unfold callA
    rw [hm]
    simp only [he, obs, oneH]
    rw [if_pos hh]
  have full : bin .eql .slice x (.p nilS) = some (B false) → ∃ o H', callA cfg O 116 [x] [] H = some (o, H') ∧ ((o = .p nilS ∧ H' = H ∧ zs = []) ∨ (o = .row H.length 0 0 zs.length ∧ H' = H ++ [.row 0 1 (zs.map Ia)])) := by
    intro hb
    have hlit : litA false 1 [] H = some (.p (.sl (some false) true 0 []), H) := rfl
    have ha : appA 1 8 (.p (.sl (some false) true 0 [])) x H = some (.row H.length 0 0 zs.length, H ++ [.row 0 1 (zs.map Ia)]) := by
      simp only [appA, h.cells, Option.bind_some, appTo]
      rw [if_pos (by simp only [List.length_nil, Nat.zero_mul, true_or, true_and, room]; omega)]
      simp
    refine ⟨_, _, mode4 (rs := [.row H.length 0 0 zs.length]) (H' := H ++ [.row 0 1 (zs.map Ia)]) ?_ (.inr ⟨_, rfl⟩), .inr ⟨rfl, rfl⟩⟩
    rw [f116_eq]
    simp only [hb, obs, cond_B, Bool.false_eq_true, if_false, hlit, ha]
    rfl
  rcases h with ⟨nl, tg, hk, rfl⟩ | ⟨id, g, h0, rfl, ho⟩
  · rcases hk with rfl | ⟨rfl, rfl⟩
    · exact full rfl
    · refine ⟨_, _, mode4 (rs := [.p nilS]) (H' := H) ?_ (.inl rfl), .inl ⟨rfl, rfl, rfl⟩⟩
      rw [f116_eq]
      rfl
  · refine full ?_
    have : isNilA .slice (.row id g 0 zs.length) = some false := by simp only [isNilA]; rw [if_pos h0]
    simp only [bin, nilEq, this]
    rfl

/-! ### The one who is asked -/
section
variable {q A N : Nat} {nv : Bool}

abbrev cl (A N : Nat) : AV := .fn 50 [] [.ptr A 0, .ptr N 0]
def St (q A N : Nat) (nv : Bool) (k : Nat) (H : Heap) : Prop := H[q]? = some (.box [cl A N, I k]) ∧ H[A]? = some (.box [I k]) ∧ H[N]? = some (.box [B nv]) ∧ q ≠ A ∧ q ≠ N ∧ A ≠ N

theorem setLoop {n id : Nat} (hn : n ≤ 200) (hne : id ≠ N) : ∀ (c i : Nat) (H : Heap) (xs : List PV), n - i = c → i ≤ n → xs.length = n → H[id]? = some (.row 0 1 xs) → H[N]? = some (.box [B nv]) →
    ∃ H', L50_8 [.row id 0 0 n, .ptr N 0, I i] [] H = some ([B (!nv)], H') ∧ H'.length = H.length ∧ ∀ j, j ≠ id → H'[j]? = H[j]? := by
  intro c
  induction c with
  | zero =>
    intro i H xs hc hi hl ho hN
    have : i = n := by omega
    subst this
    refine ⟨H, ?_, rfl, fun _ _ => rfl⟩
    have hld : ld false 1 (.ptr N 0) H = some (B nv) := by rw [ld_box hN]; rfl
    rw [L50_8_eq]
    simp only [lenA_row, bin_lss, obs, cond_B]
    rw [if_neg (by simp)]
    simp only [hld, obs, un_not]
    rfl
  | succ c ih =>
    intro i H xs hc hi hl ho hN
    have hi' : i < n := by omega
    have hix : idxA 1 (.row id 0 0 n) (I i) = some (.rptr id 0 i) := by rw [idxA_row (by omega)]; simp
    have hN' : (H.set id (.row 0 1 (xs.set i (Ia (-7)))))[N]? = some (.box [B nv]) := by rw [List.getElem?_set_ne hne]; exact hN
    obtain ⟨H', e, h1, h2⟩ := ih (i + 1) (H.set id (.row 0 1 (xs.set i (Ia (-7))))) (xs.set i (Ia (-7))) (by omega) (by omega) (by simpa using hl) (by rw [List.getElem?_set_self (getElem?_lt ho)]) hN'
    refine ⟨H', ?_, by rw [h1]; simp, fun j hj => by rw [h2 j hj, List.getElem?_set_ne (fun e => hj e.symm)]⟩
    rw [L50_8_eq]
    simp only [lenA_row, bin_lss, obs, cond_B]
    rw [if_pos (by simp <;> omega), hix]
    simp only [obs]
    rw [stA_row ho (by omega)]
    simp only [oms, obs, bin_add]
    rw [wrap_id (by omega), show (i : Int) + 1 = ((i + 1 : Nat) : Int) by omega]
    exact e

theorem holds {o : AV} {H0 H : Heap} {zs : List Int} {k : Nat} (hz : zs.length ≤ 200) (hk : k < 1000000) (ho : (o = .p nilS ∧ H = H0 ∧ zs = []) ∨ (o = .row H0.length 0 0 zs.length ∧ H = H0 ++ [.row 0 1 (zs.map Ia)]))
    (hA : H0[A]? = some (.box [I k])) (hN : H0[N]? = some (.box [B nv])) (hAN : A ≠ N) :
    ∃ H', callV cfg O (cl A N) [o] [] H = some (B (!nv), H') ∧ H'[A]? = some (.box [I (k + 1 : Nat)]) ∧ (∀ j, j < H0.length → j ≠ A → H'[j]? = H0[j]?) ∧ H0.length ≤ H'.length := by
  have lA := getElem?_lt hA
  have lN := getElem?_lt hN
  have hHA : H[A]? = some (.box [I k]) ∧ H[N]? = some (.box [B nv]) ∧ (∀ j, j < H0.length → H[j]? = H0[j]?) ∧ H0.length ≤ H.length := by
    rcases ho with ⟨_, rfl, _⟩ | ⟨_, rfl⟩
    · exact ⟨hA, hN, fun _ _ => rfl, Nat.le_refl _⟩
    · exact ⟨push_get? hA _, push_get? hN _, fun j hj => by rw [List.getElem?_append_left hj], by simp⟩
  obtain ⟨h1, h2, h3, h4⟩ := hHA
  have hl : ld false 1 (.ptr A 0) H = some (I k) := by rw [ld_box h1]; rfl
  have hst : stA 1 (.ptr A 0) (I (k + 1 : Nat)) [] H = some (H.set A (.box [I (k + 1 : Nat)])) := stA_one h1
  have hN1 : (H.set A (.box [I (k + 1 : Nat)]))[N]? = some (.box [B nv]) := by rw [List.getElem?_set_ne hAN]; exact h2
  have fin : ∀ H', O.ent 50 [o, .ptr A 0, .ptr N 0] [] H = some ([B (!nv)], H') → callV cfg O (cl A N) [o] [] H = some (B (!nv), H') := by
    intro H' e
    show callA cfg O 50 [o, .ptr A 0, .ptr N 0] [] H = _
    exact callA_keep (rs := [B (!nv)]) rfl e
  have step : O.ent 50 [o, .ptr A 0, .ptr N 0] [] H = L50_8 [o, .ptr N 0, I 0] [] (H.set A (.box [I (k + 1 : Nat)])) := by
    rw [f50_eq]
    simp only [hl, obs, bin_add]
    rw [wrap_id (by omega), show (k : Int) + 1 = ((k + 1 : Nat) : Int) by omega, hst]
    rfl
  rcases ho with ⟨rfl, rfl, rfl⟩ | ⟨rfl, rfl⟩
  · refine ⟨H.set A (.box [I (k + 1 : Nat)]), fin _ ?_, by rw [List.getElem?_set_self lA], fun j hj hjA => by rw [List.getElem?_set_ne (fun e => hjA e.symm)], by simp⟩
    have hld : ld false 1 (.ptr N 0) (H.set A (.box [I (k + 1 : Nat)])) = some (B nv) := by rw [ld_box hN1]; rfl
    rw [step, L50_8_eq]
    have : lenA .slice (.p nilS) (H.set A (.box [I (k + 1 : Nat)])) = some (I 0) := rfl
    simp only [this, bin_lss, obs, cond_B]
    rw [if_neg (by simp)]
    simp only [hld, obs, un_not]
    rfl
  · have hne : H0.length ≠ N := by omega
    have hne2 : A ≠ H0.length := by omega
    obtain ⟨H', e, e1, e2⟩ := setLoop (N := N) (nv := nv) (n := zs.length) (id := H0.length) hz hne _ 0 ((H0 ++ [AObj.row 0 1 (zs.map Ia)]).set A (AObj.box [I (k + 1 : Nat)])) (zs.map Ia) rfl (by omega) (by simp) (by rw [List.getElem?_set_ne hne2]; simp) hN1
    refine ⟨H', fin _ (by rw [step]; exact e), ?_, fun j hj hjA => ?_, ?_⟩
    · rw [e2 A hne2, List.getElem?_set_self (by simp; omega)]
    · rw [e2 j (by omega), List.getElem?_set_ne (fun e => hjA e.symm), List.getElem?_append_left hj]
    · rw [e1]; simp

theorem ask {x : AV} {H : Heap} {zs : List Int} {k : Nat} (hS : St q A N nv k H) (hx : Arg x H zs) (hz : zs.length ≤ 200) (hk : k < 1000000) :
    ∃ H', callA cfg O 115 [.ptr q 0, x] [] H = some (B (!nv), H') ∧ St q A N nv (k + 1) H' ∧ (∀ j, j < H.length → j ≠ q → j ≠ A → H'[j]? = H[j]?) ∧ H.length ≤ H'.length := by
  obtain ⟨s1, s2, s3, n1, n2, n3⟩ := hS
  have hn : nilCheckA (.ptr q 0) = some (.ptr q 0) := rfl
  have l1 : ld false 1 (.ptr q (0 + 1)) H = some (I k) := by rw [ld_box s1]; rfl
  have hst : stA 1 (.ptr q (0 + 1)) (I (k + 1 : Nat)) [] H = some (H.set q (.box [cl A N, I (k + 1 : Nat)])) :=
    stA_box (n := 1) (off := 1) (y := I (k + 1 : Nat)) (xs := [cl A N, I k]) s1 rfl (by simp) rfl (okLevels_p [] q [Ia (k + 1 : Nat)])
  generalize hH1 : H.set q (.box [cl A N, I (k + 1 : Nat)]) = H1 at hst
  have g1 : H1[q]? = some (.box [cl A N, I (k + 1 : Nat)]) := by rw [← hH1, List.getElem?_set_self (getElem?_lt s1)]
  have gne : ∀ j, j ≠ q → H1[j]? = H[j]? := fun j hj => by rw [← hH1, List.getElem?_set_ne (fun e => hj e.symm)]
  have glen : H1.length = H.length := by rw [← hH1]; simp
  have l0 : ld false 1 (.ptr q (0 + 0)) H1 = some (cl A N) := by rw [ld_box g1]; rfl
  have hx1 : Arg x H1 zs := by
    rcases hx with ⟨nl, tg, hk, rfl⟩ | ⟨id, g, h0, rfl, ho⟩
    · exact .inl ⟨nl, tg, hk, rfl⟩
    · refine .inr ⟨id, g, h0, rfl, ?_⟩
      rw [gne id (fun e => by rw [e, s1] at ho; cases ho)]
      exact ho
  obtain ⟨o, H2, e2, ho⟩ := clone hx1 hz
  obtain ⟨H3, e3, a3, f3, len3⟩ := holds (nv := nv) hz hk ho ((gne A (fun e => n1 e.symm)).trans s2) ((gne N (fun e => n2 e.symm)).trans s3) n3
  refine ⟨H3, callA_keep (rs := [B (!nv)]) rfl ?_, ⟨?_, a3, ?_, n1, n2, n3⟩, fun j hj hq hA => ?_, by omega⟩
  · rw [f115_eq]
    simp only [hn, obs, fldA_ptr, l1, bin_add]
    rw [wrap_id (by omega), show (k : Int) + 1 = ((k + 1 : Nat) : Int) by omega, hst]
    simp only [oms, obs, l0, e2, e3]
    rfl
  · rw [f3 q (by rw [glen]; exact getElem?_lt s1) n1, g1]
  · rw [f3 N (by rw [glen]; exact getElem?_lt s3) (fun e => n3 e.symm), gne N (fun e => n2 e.symm), s3]
  · rw [f3 j (by omega) hA, gne j hq]

/-! ### A pass -/
theorem call114 {x : AV} {H : Heap} {zs : List Int} {a b : Nat} (hx : Arg x H zs) (hz : zs.length ≤ 200) (ha : a ≤ b) (hb : b ≤ zs.length) :
    ∃ n' t' H1, Kn n' (wo zs a b) ∧ callA cfg O 114 [x, I a, I b] [] H = some (V n' t' (wo zs a b), H1) ∧ H1.length = H.length ∧ ∀ (j : Nat), (∀ g n, x ≠ .row j g 0 n) → H1[j]? = H[j]? := by
  have run : ∀ (nl : Option Bool) (tg : Bool) (H1 : Heap), frzAll H [x, I a, I b] = some ([V nl tg zs, I a, I b], H1) → ∃ n' t', Kn n' (wo zs a b) ∧ callA cfg O 114 [x, I a, I b] [] H = some (V n' t' (wo zs a b), H1) := by
    intro nl tg H1 hf
    obtain ⟨n', t', H', hk, e⟩ := ent114 (nl := nl) (tg := tg) hz ha hb
    refine ⟨n', t', hk, ?_⟩
    have hm : cfg.mode 114 = 5 := rfl
    unfold callA
    rw [hm]
    simp only [hf, obs]
    have : ([V nl tg zs, I a, I b].all (AV.ltd 0)) = true := rfl
    rw [if_pos this, e]
    rfl
  rcases hx with ⟨nl, tg, hk, rfl⟩ | ⟨id, g, h0, rfl, ho⟩
  · obtain ⟨n', t', hk, e⟩ := run nl tg H rfl
    exact ⟨n', t', H, hk, e, rfl, fun _ _ => rfl⟩
  · have hf : frzAll H [.row id g 0 zs.length, I a, I b] = some ([V (if 0 < zs.length then some false else none) false zs, I a, I b], H.set id (.row (g + 1) 1 [])) := by
      have e : frzA H (.row id g 0 zs.length) = some (V (if 0 < zs.length then some false else none) false zs, H.set id (.row (g + 1) 1 [])) := by
        simp only [frzA, frzLeaf, toPV, ho, Nat.zero_add]
        rw [if_pos (by simp), List.drop_zero, List.take_of_length_le (by simp)]
        rfl
      simp only [frzAll, e, obs, oms, frzA_p]
    obtain ⟨n', t', hk, e⟩ := run _ false _ hf
    refine ⟨n', t', _, hk, e, by simp, fun j hj => ?_⟩
    rw [List.getElem?_set_ne (fun e => hj g zs.length (by rw [e]))]

theorem bests0 (z : Int) : bests true (I 0) [I z] = some (I (max 0 z)) := by
  simp only [bests, best, if_true, Option.bind_some]
  congr 4
  split <;> omega

/-- What stays: all but the two that count, and a list's own row. -/
def Fr (q A : Nat) (x : AV) (H H' : Heap) : Prop := H.length ≤ H'.length ∧ ∀ (j : Nat), j < H.length → j ≠ q → j ≠ A → (∀ g n, x ≠ .row j g 0 n) → H'[j]? = H[j]?

/-- So too an empty list in a row: nobody looks at it any more. -/
def ArgE (x : AV) (H : Heap) (zs : List Int) : Prop := Arg x H zs ∨ (zs = [] ∧ ∃ id g, x = .row id g 0 0)
theorem ArgE.len {x : AV} {H : Heap} {zs : List Int} (h : ArgE x H zs) (H' : Heap) : lenA .slice x H' = some (I zs.length) := by
  rcases h with h | ⟨rfl, id, g, rfl⟩
  · exact h.len H'
  · rfl

theorem passLoop (hnv : nv = false) {size : Nat} (hsz : 1 ≤ size) (hs2 : size ≤ 200) : ∀ (c : Nat) (x : AV) (H : Heap) (zs : List Int) (k : Nat) (T : Int), zs.length = c → zs.length ≤ 200 → T ≤ zs.length → (T ≤ 0 → zs = []) → (0 < T → T = zs.length) → -200 ≤ T → St q A N nv k H → ArgE x H zs → k + zs.length < 1000000 →
    ∃ x' H' k', L117_6 [.ptr q 0, x, I size, I T] [] H = some ([x'], H') ∧ St q A N nv k' H' ∧ ArgE x' H' [] ∧ k ≤ k' ∧ k' ≤ k + zs.length ∧ Fr q A x H H' ∧ (zs = [] → x' = x) ∧ (zs ≠ [] → ∀ j g n, x' ≠ .row j g 0 n) := by
  intro c
  induction c using Nat.strongRecOn with
  | _ c ih =>
    intro x H zs k T hc hz hT h0 h1 hneg hS hx hk
    rw [L117_6_eq]
    simp only [bin_gtr, obs, cond_B]
    by_cases hp : 0 < T
    · have hTe := h1 hp
      have hne0 : zs ≠ [] := fun e => by rw [e] at hTe; simp at hTe; omega
      have hx : Arg x H zs := hx.resolve_right fun e => hne0 e.1
      rw [if_pos (by simpa using hp)]
      simp only [bin_sub, obs]
      rw [wrap_id (by omega), bests0]
      obtain ⟨a, ha⟩ : ∃ a : Nat, max 0 (T - size) = a := ⟨(max 0 (T - size)).toNat, by omega⟩
      simp only [obs, ha]
      obtain ⟨n', t', H1, hkn, e1, hl1, hf1⟩ := call114 (a := a) (b := zs.length) hx hz (by omega) (Nat.le_refl _)
      rw [hTe, e1]
      have hwo : wo zs a zs.length = zs.take a := by simp [wo]
      rw [hwo] at hkn e1 ⊢
      have hlen : (zs.take a).length = a := by simp; omega
      have hS1 : St q A N nv k H1 := by
        obtain ⟨s1, s2, s3, n1, n2, n3⟩ := hS
        have hnb : ∀ j xs, H[j]? = some (.box xs) → ∀ g n, x ≠ .row j g 0 n := by
          intro j xs hj g n e
          rcases hx with ⟨nl, tg, _, rfl⟩ | ⟨id, g', _, rfl, ho⟩
          · cases e
          · cases e; rw [hj] at ho; cases ho
        exact ⟨(hf1 q (hnb _ _ s1)).trans s1, (hf1 A (hnb _ _ s2)).trans s2, (hf1 N (hnb _ _ s3)).trans s3, n1, n2, n3⟩
      obtain ⟨H2, e2, hS2, hf2, hl2⟩ := ask (x := V n' t' (zs.take a)) hS1 (.inl ⟨n', t', hkn, rfl⟩) (by omega) (by omega)
      obtain ⟨x', H3, k', e3, hS3, hA3, k1, k2, f3, w1, w2⟩ := ih a (by omega) (V n' t' (zs.take a)) H2 (zs.take a) (k + 1) (T - size) hlen (by omega) (by omega) (fun h => List.length_eq_zero_iff.mp (by omega)) (fun h => by omega) (by omega) hS2 (.inl (.inl ⟨n', t', hkn, rfl⟩)) (by omega)
      refine ⟨x', H3, k', ?_, hS3, hA3, by omega, by omega, ⟨by have := f3.1; omega, fun j hj hq hA hne => ?_⟩, fun e => (hne0 e).elim, fun _ j g n => ?_⟩
      · simp only [obs, e2, hnv, Bool.not_false, if_true]
        rw [L117_9_eq]
        simp only [bin_sub, obs]
        rw [wrap_id (by omega), ← hTe]
        subst hnv
        exact e3
      · rw [f3.2 j (by omega) hq hA (fun g n e => by cases e), hf2 j (by omega) hq hA, hf1 j hne]
      · by_cases hz2 : zs.take a = []
        · rw [w1 hz2]; intro e; cases e
        · exact w2 hz2 j g n
    · rw [if_neg (by simpa using hp)]
      have hz0 := h0 (by omega)
      subst hz0
      exact ⟨x, H, k, rfl, hS, hx, Nat.le_refl _, by simp, ⟨Nat.le_refl _, fun _ _ _ _ _ => rfl⟩, fun _ => rfl, fun e => (e rfl).elim⟩

theorem pass (hnv : nv = false) {size : Nat} (hsz : 1 ≤ size) (hs2 : size ≤ 200) {x : AV} {H : Heap} {zs : List Int} {k : Nat} (hz : zs.length ≤ 200) (hS : St q A N nv k H) (hx : ArgE x H zs) (hk : k + zs.length < 1000000) :
    ∃ x' H' k', callA cfg O 117 [.ptr q 0, x, I size] [] H = some (x', H') ∧ St q A N nv k' H' ∧ ArgE x' H' [] ∧ k ≤ k' ∧ k' ≤ k + zs.length ∧ Fr q A x H H' ∧ (zs = [] → x' = x) ∧ (zs ≠ [] → ∀ j g n, x' ≠ .row j g 0 n) := by
  obtain ⟨x', H', k', e, r⟩ := passLoop (q := q) (A := A) (N := N) hnv hsz hs2 _ x H zs k zs.length rfl hz (Int.le_refl _) (fun h => List.length_eq_zero_iff.mp (by omega)) (fun _ => rfl) (by omega) hS hx hk
  refine ⟨x', H', k', callA_keep (rs := [x']) rfl ?_, r⟩
  rw [f117_eq]
  simp only [hx.len, obs]
  exact e

theorem lastLoop (hnv : nv = false) {x : AV} {H : Heap} {zs : List Int} {k : Nat} (hz : zs.length ≤ 200) (hS : St q A N nv k H) (hx : ArgE x H zs) (hk : k + zs.length < 1000000) :
    ∃ x' H', ∃ k' : Nat, L51_200006 [.ptr q 0, x] [] H = some ([x', I k', I 0], H') ∧ St q A N nv k' H' ∧ ArgE x' H' [] ∧ Fr q A x H H' := by
  have done : ∀ (x : AV) (H : Heap) (k : Nat), St q A N nv k H → ArgE x H [] → k < 1000000 → ∃ x' H', ∃ k' : Nat, L51_200006 [.ptr q 0, x] [] H = some ([x', I k', I 0], H') ∧ St q A N nv k' H' ∧ ArgE x' H' [] ∧ Fr q A x H H' := by
    intro x H k hS hx hk
    obtain ⟨x', H', k', e, hS', hA', _, _, hF, _, _⟩ := pass hnv (size := 1) (by omega) (by omega) (zs := []) (by simp) hS hx (by simpa using hk)
    refine ⟨x', H', k', ?_, hS', hA', hF⟩
    have hn : nilCheckA (.ptr q 0) = some (.ptr q 0) := rfl
    have hl : ld false 1 (.ptr q (0 + 1)) H' = some (I k') := by rw [ld_box hS'.1]; rfl
    rw [L51_200006_eq]
    simp only [hx.len, obs]
    rw [show (I 1) = I (1 : Nat) from rfl, e]
    simp only [obs, hA'.len, bin_eql, cond_B, List.length_nil, decide_true, if_true, hn, fldA_ptr, hl]
    rfl
  obtain ⟨x1, H1, k1, e1, hS1, hA1, g1, g2, hF1, w1, w2⟩ := pass hnv (size := 1) (by omega) (by omega) hz hS hx hk
  by_cases hz0 : zs = []
  · subst hz0
    exact done x H k hS hx (by simpa using hk)
  · have hpos : 0 < zs.length := List.length_pos_iff.mpr hz0
    obtain ⟨x2, H2, k2, e2, hS2, hA2, hF2⟩ := done x1 H1 k1 hS1 hA1 (by omega)
    refine ⟨x2, H2, k2, ?_, hS2, hA2, ⟨by have := hF1.1; have := hF2.1; omega, fun j hj hq hA hne => ?_⟩⟩
    · rw [L51_200006_eq]
      simp only [hx.len, obs]
      rw [show (I 1) = I (1 : Nat) from rfl, e1]
      simp only [obs, hA1.len, bin_eql, cond_B, List.length_nil]
      rw [if_neg (by simp; omega)]
      exact e2
    · rw [hF2.2 j (by have := hF1.1; omega) hq hA (fun g n => w2 hz0 j g n), hF1.2 j hj hq hA hne]

theorem firstLoop (hnv : nv = false) : ∀ (size : Nat) (x : AV) (H : Heap) (zs : List Int) (k : Nat), size ≤ 200 → zs.length ≤ 200 → St q A N nv k H → ArgE x H zs → k + zs.length < 1000000 →
    ∃ x' H', ∃ k' : Nat, L51_22 [.ptr q 0, x, I size] [] H = some ([x', I k', I 0], H') ∧ St q A N nv k' H' ∧ ArgE x' H' [] ∧ Fr q A x H H' := by
  intro size
  induction size using Nat.strongRecOn with
  | _ size ih =>
    intro x H zs k hs hz hS hx hk
    rw [L51_22_eq]
    simp only [bin_gtr, obs, cond_B]
    by_cases h1 : (1 : Int) < size
    · rw [if_pos (by simpa using h1)]
      obtain ⟨x1, H1, k1, e1, hS1, hA1, g1, g2, hF1, w1, w2⟩ := pass hnv (size := size) (by omega) hs hz hS hx hk
      have hq2 : bin .quo .int (I size) (I 2) = some (I (size / 2 : Nat)) := by
        show some (AV.p (.v (.int .i64 (IntKind.i64.wrap ((size : Int).tdiv 2))))) = _
        have : (size : Int).tdiv 2 = ((size / 2 : Nat) : Int) := by simp [Int.tdiv_eq_ediv_of_nonneg]
        rw [this, wrap_id (by omega)]
      obtain ⟨x2, H2, k2, e2, hS2, hA2, hF2⟩ := ih (size / 2) (by omega) x1 H1 [] k1 (by omega) (by simp) hS1 hA1 (by simp; omega)
      refine ⟨x2, H2, k2, ?_, hS2, hA2, ⟨by have := hF1.1; have := hF2.1; omega, fun j hj hq hA hne => ?_⟩⟩
      · simp only [e1, obs, hq2]
        exact e2
      · have hno : ∀ g n, x1 ≠ .row j g 0 n := by
          by_cases hz0 : zs = []
          · rw [w1 hz0]; exact hne
          · exact fun g n => w2 hz0 j g n
        rw [hF2.2 j (by have := hF1.1; omega) hq hA hno, hF1.2 j hj hq hA hne]
    · rw [if_neg (by simpa using h1)]
      exact lastLoop hnv hz hS hx hk

end
end Sma
end Go.Proofs.Ytangmjeafnkfaaa
