import Derived.Test.YtangmjeafnkfaaaESnapPatches
import Derived.Test.YtangmjeafnkfaaaESnapFlats
import Derived.Test.YtangmjeafnkfaaaTy
import Derived.Test.YtangmjeafnkfaaaAm21
set_option linter.unusedVariables false
set_option linter.unusedSimpArgs false
namespace Go.Proofs.Ytangmjeafnkfaaa
open Go Go.AM
namespace Flat

def LIM : Nat := 17592186044416

theorem st_new {n : Nat} {xs : List AV} {ys : List PV} {lo : List Nat} {H : Heap} (h1 : ys.length = n) (h2 : xs.length = n) : stA n (.ptr H.length 0) (.agg (ys.map .p)) lo (H ++ [.box xs]) = some (H ++ [.box (ys.map .p)]) := by
  rw [stA_box (xs := xs) (by simp) (by simp [AV.cells, h1]) (by omega) (by simp [AV.cells, List.all_eq_true]; intro x _; rfl) (okLevels_p _ _ _)]
  have hs : splice xs 0 (ys.map .p) = ys.map .p := by
    have gen : ∀ (ys xs : List AV) (pre : List AV), xs.length = ys.length → splice (pre ++ xs) pre.length ys = pre ++ ys := by
      intro ys
      induction ys with
      | nil => intro xs pre h; simp at h; subst h; rfl
      | cons y ys ih =>
        intro xs pre h
        match xs, h with
        | x :: xs, h =>
          have := ih xs (pre ++ [y]) (by simpa using h)
          simp only [List.append_assoc, List.singleton_append, List.length_append, List.length_singleton] at this
          rw [splice, ← this]
          simp
    simpa using gen (ys.map .p) xs [] (by simp [h1, h2])
  simp only [AV.cells, hs]
  rw [List.set_append_right _ _ (by omega)]
  simp

theorem put {o y : AV} {H : Heap} {acc new : List Int} (L : Lst 1 o H acc.length (acc.map Ia)) (hy : cellsA 1 y H = some (new.length, new.map Ia)) (h0 : 0 < new.length) (hb : acc.length + new.length ≤ LIM) :
    ∃ o' H', appA 1 8 o y H = some (o', H') ∧ Lst 1 o' H' (acc ++ new).length ((acc ++ new).map Ia) ∧ (∀ (j : Nat) xs, H[j]? = some (AObj.box xs) → H'[j]? = some (AObj.box xs)) ∧ H.length ≤ H'.length ∧ ∃ id g, o' = .row id g 0 (acc ++ new).length ∧ H'[id]? = some (.row g 1 ((acc ++ new).map Ia)) := by
  have hlim : LIM = 17592186044416 := rfl
  obtain ⟨o', H', ea, hL', hK, _, _, id, g, q1, q2⟩ := L.app (bytes := 8) (y := y) hy (by simp) (.inl h0) (by simp only [room]; omega)
  refine ⟨o', H', ea, by simpa using hL', fun j xs hj => ?_, hK.1, id, g, by rw [q1]; simp, by rw [q2]; simp⟩
  refine hK.2 j _ hj fun g' n e => ?_
  obtain ⟨_, ⟨nl, rfl, _⟩ | ⟨id', g'', rfl, ho⟩⟩ := L
  · cases e
  · cases e
    rw [hj] at ho
    cases ho

/-! ### The writer -/
def Wr (w : Nat) (H : Heap) (acc : List Int) : Prop := ∃ o, H[w]? = some (.box [o]) ∧ Lst 1 o H acc.length (acc.map Ia)
def KB (w : Nat) (H H' : Heap) : Prop := H.length ≤ H'.length ∧ ∀ (j : Nat) xs, j ≠ w → H[j]? = some (AObj.box xs) → H'[j]? = some (AObj.box xs)
def WSG (w : Nat) (G : Heap → Prop) (call : Heap → Option (AV × Heap)) (out : List Int) : Prop := ∀ H acc, Wr w H acc → acc.length + out.length ≤ LIM → G H → ∃ x H', call H = some (x, H') ∧ Wr w H' (acc ++ out) ∧ KB w H H'
abbrev WS (w : Nat) (call : Heap → Option (AV × Heap)) (out : List Int) : Prop := WSG w (fun _ => True) call out

theorem KB.refl (w : Nat) (H : Heap) : KB w H H := ⟨Nat.le_refl _, fun _ _ _ h => h⟩
theorem KB.trans {w : Nat} {H H' H'' : Heap} (h : KB w H H') (k : KB w H' H'') : KB w H H'' := ⟨Nat.le_trans h.1 k.1, fun j xs hj hx => k.2 j xs hj (h.2 j xs hj hx)⟩
theorem KB.push (w : Nat) (H : Heap) (l : List AObj) : KB w H (H ++ l) := ⟨by simp, fun j xs _ h => push_get? h l⟩
theorem Wr.push {w : Nat} {H : Heap} {acc : List Int} (h : Wr w H acc) (l : List AObj) : Wr w (H ++ l) acc := by
  obtain ⟨o, h1, h2⟩ := h
  exact ⟨o, push_get? h1 l, h2.push l⟩
theorem Wr.lt {w : Nat} {H : Heap} {acc : List Int} (h : Wr w H acc) : w < H.length := by
  obtain ⟨o, h1, h2⟩ := h
  exact getElem?_lt h1

theorem call66 {w : Nat} {y : AV} {zs : List Int} (hy : ∀ H, cellsA 1 y H = some (zs.length, zs.map Ia)) (h0 : 0 < zs.length) : WS w (fun H => callA cfg O 66 [.ptr w 0, y] [] H) zs := by
  intro H acc ⟨o, h1, hL⟩ hb _
  obtain ⟨o', H', ea, hL', hK, hlen, id, g, q1, q2⟩ := put hL (hy H) h0 hb
  have h1' := hK w _ h1
  have hne : id ≠ w := fun e => by rw [e, h1'] at q2; cases q2
  have hst : stA 1 (.ptr w 0) o' [] H' = some (H'.set w (.box [o'])) := by
    rw [q1]
    exact stA_box (n := 1) (off := 0) (y := .row id g 0 (acc ++ zs).length) (xs := [o]) h1' rfl (by simp) rfl rfl
  have hl : ld false 1 (.ptr w (0 + 0)) H = some o := by rw [ld_box h1]; rfl
  refine ⟨.tup [], H'.set w (.box [o']), callA_keep (rs := []) rfl ?_, ⟨o', by rw [List.getElem?_set_self (getElem?_lt h1')], hL'.set fun g' n e => by rw [q1] at e; cases e; exact hne rfl⟩, ⟨by simpa using hlen, fun j xs hj hx => ?_⟩⟩
  · rw [f66_eq]
    have hn : nilCheckA (.ptr w 0) = some (.ptr w 0) := rfl
    simp only [hn, obs, fldA_ptr, hl, ea, Nat.add_zero, hst, oms]
    rfl
  · rw [List.getElem?_set_ne (fun e => hj e.symm)]
    exact hK j xs hx

theorem lit66 {w : Nat} {zs : List Int} {n : Nat} (hn : n = zs.length) (h0 : 0 < zs.length) : WS w (fun H => callA cfg O 66 [.ptr w 0, .p (.sl (some false) true n (zs.map Ia))] [] H) zs := by
  subst hn
  exact call66 (fun H => by simp [cellsA]) h0


theorem loop62 {α : Type} {w : Nat} {nl : Option Bool} {tg : Bool} {l : List α} {enc : α → List PV} (hE : ∀ p, (enc p).length = 4) {cl : AV} {out : α → List Int} {G : Heap → Prop} (hG : ∀ H H', KB w H H' → G H → G H') (hcl : ∀ x ∈ l, WSG w G (fun H => callV cfg O cl [.agg ((enc x).map .p)] [] H) (out x)) (hn : l.length < 2 ^ 63) :
    ∀ (c i : Nat) (H : Heap) (acc : List Int), l.length - i = c → i ≤ l.length → Wr w H acc → acc.length + ((l.drop i).flatMap out).length ≤ LIM → G H →
    ∃ H', L62_6 [cl, .p (.sl nl tg l.length (l.flatMap enc)), I l.length, I i] [] H = some ([], H') ∧ Wr w H' (acc ++ (l.drop i).flatMap out) ∧ KB w H H' := by
  intro c
  induction c with
  | zero =>
    intro i H acc hc hi hW hb g
    have : i = l.length := by omega
    subst this
    refine ⟨H, ?_, by rw [List.drop_length]; simpa using hW, KB.refl _ _⟩
    rw [L62_6_eq]
    simp only [bin_lss, obs, cond_B]
    rw [if_neg (by simp)]
    rfl
  | succ c ih =>
    intro i H acc hc hi hW hb g
    have hi' : i < l.length := by omega
    rw [List.drop_eq_getElem_cons hi', List.flatMap_cons, List.length_append] at hb
    rw [List.drop_eq_getElem_cons hi', List.flatMap_cons]
    have hx : idxA 4 (.p (.sl nl tg l.length (l.flatMap enc))) (I i) = some (.fp (l.flatMap enc) (i * 4)) := by
      have := idxA_sl (sz := 4) (n := l.length) (nl := nl) (t := tg) (xs := l.flatMap enc) (j := (i : Int)) (by omega)
      simpa using this
    have hd : ld true 4 (.fp (l.flatMap enc) (i * 4)) H = some (.agg ((enc l[i]).map .p)) := by
      rw [ldAgg_fp (by rw [rows_length hE]; omega), rows_part hE (List.getElem?_eq_getElem hi')]
    have b1 : boxO [] ([Ia 0, Ia 0, nilS, nilS].map AV.p) H = some (.ptr H.length 0, H ++ [.box ([Ia 0, Ia 0, nilS, nilS].map AV.p)]) := boxO_p _ H
    have s1 : stA 4 (.ptr H.length 0) (.agg ((enc l[i]).map .p)) [] (H ++ [.box ([Ia 0, Ia 0, nilS, nilS].map AV.p)]) = some (H ++ [.box ((enc l[i]).map .p)]) := st_new (hE _) rfl
    have l1 : ld true 4 (.ptr H.length 0) (H ++ [.box ((enc l[i]).map .p)]) = some (.agg ((enc l[i]).map .p)) := by
      rw [ldAgg_box (xs := (enc l[i]).map .p) (by simp) (by simp [hE]), List.drop_zero, List.take_of_length_le (by simp [hE])]
    simp only [List.map_cons, List.map_nil] at b1 s1
    obtain ⟨x, H2, e2, hW2, hK2⟩ := hcl _ (List.getElem_mem hi') (H ++ [.box ((enc l[i]).map .p)]) acc (hW.push _) (by omega) (hG _ _ (KB.push _ _ _) g)
    obtain ⟨H3, e3, hW3, hK3⟩ := ih (i + 1) H2 (acc ++ out l[i]) (by omega) (by omega) hW2 (by rw [List.length_append]; omega) (hG _ _ hK2 (hG _ _ (KB.push _ _ _) g))
    refine ⟨H3, ?_, by rw [← List.append_assoc]; exact hW3, (KB.push _ _ _).trans (hK2.trans hK3)⟩
    rw [L62_6_eq]
    simp only [bin_lss, obs, cond_B]
    rw [if_pos (by simp <;> omega), hx]
    simp only [obs, hd, b1, s1, oms, l1, e2, bin_add]
    rw [wrap_id (by omega), show (i : Int) + 1 = ((i + 1 : Nat) : Int) by omega]
    exact e3

theorem call62 {α : Type} {w : Nat} {nl : Option Bool} {tg : Bool} {l : List α} {enc : α → List PV} (hE : ∀ p, (enc p).length = 4) {cl : AV} {out : α → List Int} {G : Heap → Prop} (hG : ∀ H H', KB w H H' → G H → G H') (hcl : ∀ x ∈ l, WSG w G (fun H => callV cfg O cl [.agg ((enc x).map .p)] [] H) (out x)) (hn : l.length < 2 ^ 63) :
    WSG w G (fun H => callA cfg O 62 [.ptr w 0, .p (.sl nl tg l.length (l.flatMap enc)), cl] [] H) ((l.length : Int) :: l.flatMap out) := by
  intro H acc hW hb g
  simp only [List.length_cons] at hb
  obtain ⟨x, H1, e1, hW1, hK1⟩ := call66 (w := w) (y := .p (.sl (some false) true 1 [Ia l.length])) (zs := [(l.length : Int)]) (fun H => by simp [cellsA]) (by simp) H acc hW (by simp; omega) trivial
  obtain ⟨H2, e2, hW2, hK2⟩ := loop62 (nl := nl) (tg := tg) hE hG hcl hn _ 0 H1 (acc ++ [(l.length : Int)]) rfl (by omega) hW1 (by rw [List.drop_zero, List.length_append, List.length_singleton]; omega) (hG _ _ hK1 g)
  rw [List.drop_zero] at hW2
  refine ⟨.tup [], H2, callA_keep (rs := []) rfl ?_, by simpa using hW2, hK1.trans hK2⟩
  rw [f62_eq]
  have hlit : litA false 1 [I l.length] H = some (.p (.sl (some false) true 1 [Ia l.length]), H) := rfl
  simp only [lenA_sl, obs, hlit, e1]
  exact e2

theorem loop64 {α : Type} {w : Nat} {nl : Option Bool} {tg : Bool} {l : List α} {enc : α → List PV} (hE : ∀ p, (enc p).length = 2) {cl : AV} {out : α → List Int} {G : Heap → Prop} (hG : ∀ H H', KB w H H' → G H → G H') (hcl : ∀ x ∈ l, WSG w G (fun H => callV cfg O cl [.agg ((enc x).map .p)] [] H) (out x)) (hn : l.length < 2 ^ 63) :
    ∀ (c i : Nat) (H : Heap) (acc : List Int), l.length - i = c → i ≤ l.length → Wr w H acc → acc.length + ((l.drop i).flatMap out).length ≤ LIM → G H →
    ∃ H', L64_6 [cl, .p (.sl nl tg l.length (l.flatMap enc)), I l.length, I i] [] H = some ([], H') ∧ Wr w H' (acc ++ (l.drop i).flatMap out) ∧ KB w H H' := by
  intro c
  induction c with
  | zero =>
    intro i H acc hc hi hW hb g
    have : i = l.length := by omega
    subst this
    refine ⟨H, ?_, by rw [List.drop_length]; simpa using hW, KB.refl _ _⟩
    rw [L64_6_eq]
    simp only [bin_lss, obs, cond_B]
    rw [if_neg (by simp)]
    rfl
  | succ c ih =>
    intro i H acc hc hi hW hb g
    have hi' : i < l.length := by omega
    rw [List.drop_eq_getElem_cons hi', List.flatMap_cons, List.length_append] at hb
    rw [List.drop_eq_getElem_cons hi', List.flatMap_cons]
    have hx : idxA 2 (.p (.sl nl tg l.length (l.flatMap enc))) (I i) = some (.fp (l.flatMap enc) (i * 2)) := by
      have := idxA_sl (sz := 2) (n := l.length) (nl := nl) (t := tg) (xs := l.flatMap enc) (j := (i : Int)) (by omega)
      simpa using this
    have hd : ld true 2 (.fp (l.flatMap enc) (i * 2)) H = some (.agg ((enc l[i]).map .p)) := by
      rw [ldAgg_fp (by rw [rows_length hE]; omega), rows_part hE (List.getElem?_eq_getElem hi')]
    have b1 : boxO [] ([Ia 0, Ia 0].map AV.p) H = some (.ptr H.length 0, H ++ [.box ([Ia 0, Ia 0].map AV.p)]) := boxO_p _ H
    have s1 : stA 2 (.ptr H.length 0) (.agg ((enc l[i]).map .p)) [] (H ++ [.box ([Ia 0, Ia 0].map AV.p)]) = some (H ++ [.box ((enc l[i]).map .p)]) := st_new (hE _) rfl
    have l1 : ld true 2 (.ptr H.length 0) (H ++ [.box ((enc l[i]).map .p)]) = some (.agg ((enc l[i]).map .p)) := by
      rw [ldAgg_box (xs := (enc l[i]).map .p) (by simp) (by simp [hE]), List.drop_zero, List.take_of_length_le (by simp [hE])]
    simp only [List.map_cons, List.map_nil] at b1 s1
    obtain ⟨x, H2, e2, hW2, hK2⟩ := hcl _ (List.getElem_mem hi') (H ++ [.box ((enc l[i]).map .p)]) acc (hW.push _) (by omega) (hG _ _ (KB.push _ _ _) g)
    obtain ⟨H3, e3, hW3, hK3⟩ := ih (i + 1) H2 (acc ++ out l[i]) (by omega) (by omega) hW2 (by rw [List.length_append]; omega) (hG _ _ hK2 (hG _ _ (KB.push _ _ _) g))
    refine ⟨H3, ?_, by rw [← List.append_assoc]; exact hW3, (KB.push _ _ _).trans (hK2.trans hK3)⟩
    rw [L64_6_eq]
    simp only [bin_lss, obs, cond_B]
    rw [if_pos (by simp <;> omega), hx]
    simp only [obs, hd, b1, s1, oms, l1, e2, bin_add]
    rw [wrap_id (by omega), show (i : Int) + 1 = ((i + 1 : Nat) : Int) by omega]
    exact e3

theorem call64 {α : Type} {w : Nat} {nl : Option Bool} {tg : Bool} {l : List α} {enc : α → List PV} (hE : ∀ p, (enc p).length = 2) {cl : AV} {out : α → List Int} {G : Heap → Prop} (hG : ∀ H H', KB w H H' → G H → G H') (hcl : ∀ x ∈ l, WSG w G (fun H => callV cfg O cl [.agg ((enc x).map .p)] [] H) (out x)) (hn : l.length < 2 ^ 63) :
    WSG w G (fun H => callA cfg O 64 [.ptr w 0, .p (.sl nl tg l.length (l.flatMap enc)), cl] [] H) ((l.length : Int) :: l.flatMap out) := by
  intro H acc hW hb g
  simp only [List.length_cons] at hb
  obtain ⟨x, H1, e1, hW1, hK1⟩ := call66 (w := w) (y := .p (.sl (some false) true 1 [Ia l.length])) (zs := [(l.length : Int)]) (fun H => by simp [cellsA]) (by simp) H acc hW (by simp; omega) trivial
  obtain ⟨H2, e2, hW2, hK2⟩ := loop64 (nl := nl) (tg := tg) hE hG hcl hn _ 0 H1 (acc ++ [(l.length : Int)]) rfl (by omega) hW1 (by rw [List.drop_zero, List.length_append, List.length_singleton]; omega) (hG _ _ hK1 g)
  rw [List.drop_zero] at hW2
  refine ⟨.tup [], H2, callA_keep (rs := []) rfl ?_, by simpa using hW2, hK1.trans hK2⟩
  rw [f64_eq]
  have hlit : litA false 1 [I l.length] H = some (.p (.sl (some false) true 1 [Ia l.length]), H) := rfl
  simp only [lenA_sl, obs, hlit, e1]
  exact e2

theorem loop69 {α : Type} {w : Nat} {nl : Option Bool} {tg : Bool} {l : List α} {enc : α → List PV} (hE : ∀ p, (enc p).length = 5) {cl : AV} {out : α → List Int} {G : Heap → Prop} (hG : ∀ H H', KB w H H' → G H → G H') (hcl : ∀ x ∈ l, WSG w G (fun H => callV cfg O cl [.agg ((enc x).map .p)] [] H) (out x)) (hn : l.length < 2 ^ 63) :
    ∀ (c i : Nat) (H : Heap) (acc : List Int), l.length - i = c → i ≤ l.length → Wr w H acc → acc.length + ((l.drop i).flatMap out).length ≤ LIM → G H →
    ∃ H', L69_6 [cl, .p (.sl nl tg l.length (l.flatMap enc)), I l.length, I i] [] H = some ([], H') ∧ Wr w H' (acc ++ (l.drop i).flatMap out) ∧ KB w H H' := by
  intro c
  induction c with
  | zero =>
    intro i H acc hc hi hW hb g
    have : i = l.length := by omega
    subst this
    refine ⟨H, ?_, by rw [List.drop_length]; simpa using hW, KB.refl _ _⟩
    rw [L69_6_eq]
    simp only [bin_lss, obs, cond_B]
    rw [if_neg (by simp)]
    rfl
  | succ c ih =>
    intro i H acc hc hi hW hb g
    have hi' : i < l.length := by omega
    rw [List.drop_eq_getElem_cons hi', List.flatMap_cons, List.length_append] at hb
    rw [List.drop_eq_getElem_cons hi', List.flatMap_cons]
    have hx : idxA 5 (.p (.sl nl tg l.length (l.flatMap enc))) (I i) = some (.fp (l.flatMap enc) (i * 5)) := by
      have := idxA_sl (sz := 5) (n := l.length) (nl := nl) (t := tg) (xs := l.flatMap enc) (j := (i : Int)) (by omega)
      simpa using this
    have hd : ld true 5 (.fp (l.flatMap enc) (i * 5)) H = some (.agg ((enc l[i]).map .p)) := by
      rw [ldAgg_fp (by rw [rows_length hE]; omega), rows_part hE (List.getElem?_eq_getElem hi')]
    have b1 : boxO [] ([nilS, Ia 0, Ia 0, Ia 0, Ia 0].map AV.p) H = some (.ptr H.length 0, H ++ [.box ([nilS, Ia 0, Ia 0, Ia 0, Ia 0].map AV.p)]) := boxO_p _ H
    have s1 : stA 5 (.ptr H.length 0) (.agg ((enc l[i]).map .p)) [] (H ++ [.box ([nilS, Ia 0, Ia 0, Ia 0, Ia 0].map AV.p)]) = some (H ++ [.box ((enc l[i]).map .p)]) := st_new (hE _) rfl
    have l1 : ld true 5 (.ptr H.length 0) (H ++ [.box ((enc l[i]).map .p)]) = some (.agg ((enc l[i]).map .p)) := by
      rw [ldAgg_box (xs := (enc l[i]).map .p) (by simp) (by simp [hE]), List.drop_zero, List.take_of_length_le (by simp [hE])]
    simp only [List.map_cons, List.map_nil] at b1 s1
    obtain ⟨x, H2, e2, hW2, hK2⟩ := hcl _ (List.getElem_mem hi') (H ++ [.box ((enc l[i]).map .p)]) acc (hW.push _) (by omega) (hG _ _ (KB.push _ _ _) g)
    obtain ⟨H3, e3, hW3, hK3⟩ := ih (i + 1) H2 (acc ++ out l[i]) (by omega) (by omega) hW2 (by rw [List.length_append]; omega) (hG _ _ hK2 (hG _ _ (KB.push _ _ _) g))
    refine ⟨H3, ?_, by rw [← List.append_assoc]; exact hW3, (KB.push _ _ _).trans (hK2.trans hK3)⟩
    rw [L69_6_eq]
    simp only [bin_lss, obs, cond_B]
    rw [if_pos (by simp <;> omega), hx]
    simp only [obs, hd, b1, s1, oms, l1, e2, bin_add]
    rw [wrap_id (by omega), show (i : Int) + 1 = ((i + 1 : Nat) : Int) by omega]
    exact e3

theorem call69 {α : Type} {w : Nat} {nl : Option Bool} {tg : Bool} {l : List α} {enc : α → List PV} (hE : ∀ p, (enc p).length = 5) {cl : AV} {out : α → List Int} {G : Heap → Prop} (hG : ∀ H H', KB w H H' → G H → G H') (hcl : ∀ x ∈ l, WSG w G (fun H => callV cfg O cl [.agg ((enc x).map .p)] [] H) (out x)) (hn : l.length < 2 ^ 63) :
    WSG w G (fun H => callA cfg O 69 [.ptr w 0, .p (.sl nl tg l.length (l.flatMap enc)), cl] [] H) ((l.length : Int) :: l.flatMap out) := by
  intro H acc hW hb g
  simp only [List.length_cons] at hb
  obtain ⟨x, H1, e1, hW1, hK1⟩ := call66 (w := w) (y := .p (.sl (some false) true 1 [Ia l.length])) (zs := [(l.length : Int)]) (fun H => by simp [cellsA]) (by simp) H acc hW (by simp; omega) trivial
  obtain ⟨H2, e2, hW2, hK2⟩ := loop69 (nl := nl) (tg := tg) hE hG hcl hn _ 0 H1 (acc ++ [(l.length : Int)]) rfl (by omega) hW1 (by rw [List.drop_zero, List.length_append, List.length_singleton]; omega) (hG _ _ hK1 g)
  rw [List.drop_zero] at hW2
  refine ⟨.tup [], H2, callA_keep (rs := []) rfl ?_, by simpa using hW2, hK1.trans hK2⟩
  rw [f69_eq]
  have hlit : litA false 1 [I l.length] H = some (.p (.sl (some false) true 1 [Ia l.length]), H) := rfl
  simp only [lenA_sl, obs, hlit, e1]
  exact e2

theorem loop71 {α : Type} {w : Nat} {nl : Option Bool} {tg : Bool} {l : List α} {enc : α → List PV} (hE : ∀ p, (enc p).length = 3) {cl : AV} {out : α → List Int} {G : Heap → Prop} (hG : ∀ H H', KB w H H' → G H → G H') (hcl : ∀ x ∈ l, WSG w G (fun H => callV cfg O cl [.agg ((enc x).map .p)] [] H) (out x)) (hn : l.length < 2 ^ 63) :
    ∀ (c i : Nat) (H : Heap) (acc : List Int), l.length - i = c → i ≤ l.length → Wr w H acc → acc.length + ((l.drop i).flatMap out).length ≤ LIM → G H →
    ∃ H', L71_6 [cl, .p (.sl nl tg l.length (l.flatMap enc)), I l.length, I i] [] H = some ([], H') ∧ Wr w H' (acc ++ (l.drop i).flatMap out) ∧ KB w H H' := by
  intro c
  induction c with
  | zero =>
    intro i H acc hc hi hW hb g
    have : i = l.length := by omega
    subst this
    refine ⟨H, ?_, by rw [List.drop_length]; simpa using hW, KB.refl _ _⟩
    rw [L71_6_eq]
    simp only [bin_lss, obs, cond_B]
    rw [if_neg (by simp)]
    rfl
  | succ c ih =>
    intro i H acc hc hi hW hb g
    have hi' : i < l.length := by omega
    rw [List.drop_eq_getElem_cons hi', List.flatMap_cons, List.length_append] at hb
    rw [List.drop_eq_getElem_cons hi', List.flatMap_cons]
    have hx : idxA 3 (.p (.sl nl tg l.length (l.flatMap enc))) (I i) = some (.fp (l.flatMap enc) (i * 3)) := by
      have := idxA_sl (sz := 3) (n := l.length) (nl := nl) (t := tg) (xs := l.flatMap enc) (j := (i : Int)) (by omega)
      simpa using this
    have hd : ld true 3 (.fp (l.flatMap enc) (i * 3)) H = some (.agg ((enc l[i]).map .p)) := by
      rw [ldAgg_fp (by rw [rows_length hE]; omega), rows_part hE (List.getElem?_eq_getElem hi')]
    have b1 : boxO [] ([Ia 0, Ia 0, Ia 0].map AV.p) H = some (.ptr H.length 0, H ++ [.box ([Ia 0, Ia 0, Ia 0].map AV.p)]) := boxO_p _ H
    have s1 : stA 3 (.ptr H.length 0) (.agg ((enc l[i]).map .p)) [] (H ++ [.box ([Ia 0, Ia 0, Ia 0].map AV.p)]) = some (H ++ [.box ((enc l[i]).map .p)]) := st_new (hE _) rfl
    have l1 : ld true 3 (.ptr H.length 0) (H ++ [.box ((enc l[i]).map .p)]) = some (.agg ((enc l[i]).map .p)) := by
      rw [ldAgg_box (xs := (enc l[i]).map .p) (by simp) (by simp [hE]), List.drop_zero, List.take_of_length_le (by simp [hE])]
    simp only [List.map_cons, List.map_nil] at b1 s1
    obtain ⟨x, H2, e2, hW2, hK2⟩ := hcl _ (List.getElem_mem hi') (H ++ [.box ((enc l[i]).map .p)]) acc (hW.push _) (by omega) (hG _ _ (KB.push _ _ _) g)
    obtain ⟨H3, e3, hW3, hK3⟩ := ih (i + 1) H2 (acc ++ out l[i]) (by omega) (by omega) hW2 (by rw [List.length_append]; omega) (hG _ _ hK2 (hG _ _ (KB.push _ _ _) g))
    refine ⟨H3, ?_, by rw [← List.append_assoc]; exact hW3, (KB.push _ _ _).trans (hK2.trans hK3)⟩
    rw [L71_6_eq]
    simp only [bin_lss, obs, cond_B]
    rw [if_pos (by simp <;> omega), hx]
    simp only [obs, hd, b1, s1, oms, l1, e2, bin_add]
    rw [wrap_id (by omega), show (i : Int) + 1 = ((i + 1 : Nat) : Int) by omega]
    exact e3

theorem call71 {α : Type} {w : Nat} {nl : Option Bool} {tg : Bool} {l : List α} {enc : α → List PV} (hE : ∀ p, (enc p).length = 3) {cl : AV} {out : α → List Int} {G : Heap → Prop} (hG : ∀ H H', KB w H H' → G H → G H') (hcl : ∀ x ∈ l, WSG w G (fun H => callV cfg O cl [.agg ((enc x).map .p)] [] H) (out x)) (hn : l.length < 2 ^ 63) :
    WSG w G (fun H => callA cfg O 71 [.ptr w 0, .p (.sl nl tg l.length (l.flatMap enc)), cl] [] H) ((l.length : Int) :: l.flatMap out) := by
  intro H acc hW hb g
  simp only [List.length_cons] at hb
  obtain ⟨x, H1, e1, hW1, hK1⟩ := call66 (w := w) (y := .p (.sl (some false) true 1 [Ia l.length])) (zs := [(l.length : Int)]) (fun H => by simp [cellsA]) (by simp) H acc hW (by simp; omega) trivial
  obtain ⟨H2, e2, hW2, hK2⟩ := loop71 (nl := nl) (tg := tg) hE hG hcl hn _ 0 H1 (acc ++ [(l.length : Int)]) rfl (by omega) hW1 (by rw [List.drop_zero, List.length_append, List.length_singleton]; omega) (hG _ _ hK1 g)
  rw [List.drop_zero] at hW2
  refine ⟨.tup [], H2, callA_keep (rs := []) rfl ?_, by simpa using hW2, hK1.trans hK2⟩
  rw [f71_eq]
  have hlit : litA false 1 [I l.length] H = some (.p (.sl (some false) true 1 [Ia l.length]), H) := rfl
  simp only [lenA_sl, obs, hlit, e1]
  exact e2

theorem loop73 {α : Type} {w : Nat} {nl : Option Bool} {tg : Bool} {l : List α} {enc : α → List PV} (hE : ∀ p, (enc p).length = 2) {cl : AV} {out : α → List Int} {G : Heap → Prop} (hG : ∀ H H', KB w H H' → G H → G H') (hcl : ∀ x ∈ l, WSG w G (fun H => callV cfg O cl [.agg ((enc x).map .p)] [] H) (out x)) (hn : l.length < 2 ^ 63) :
    ∀ (c i : Nat) (H : Heap) (acc : List Int), l.length - i = c → i ≤ l.length → Wr w H acc → acc.length + ((l.drop i).flatMap out).length ≤ LIM → G H →
    ∃ H', L73_6 [cl, .p (.sl nl tg l.length (l.flatMap enc)), I l.length, I i] [] H = some ([], H') ∧ Wr w H' (acc ++ (l.drop i).flatMap out) ∧ KB w H H' := by
  intro c
  induction c with
  | zero =>
    intro i H acc hc hi hW hb g
    have : i = l.length := by omega
    subst this
    refine ⟨H, ?_, by rw [List.drop_length]; simpa using hW, KB.refl _ _⟩
    rw [L73_6_eq]
    simp only [bin_lss, obs, cond_B]
    rw [if_neg (by simp)]
    rfl
  | succ c ih =>
    intro i H acc hc hi hW hb g
    have hi' : i < l.length := by omega
    rw [List.drop_eq_getElem_cons hi', List.flatMap_cons, List.length_append] at hb
    rw [List.drop_eq_getElem_cons hi', List.flatMap_cons]
    have hx : idxA 2 (.p (.sl nl tg l.length (l.flatMap enc))) (I i) = some (.fp (l.flatMap enc) (i * 2)) := by
      have := idxA_sl (sz := 2) (n := l.length) (nl := nl) (t := tg) (xs := l.flatMap enc) (j := (i : Int)) (by omega)
      simpa using this
    have hd : ld true 2 (.fp (l.flatMap enc) (i * 2)) H = some (.agg ((enc l[i]).map .p)) := by
      rw [ldAgg_fp (by rw [rows_length hE]; omega), rows_part hE (List.getElem?_eq_getElem hi')]
    have b1 : boxO [] ([Ia 0, Ia 0].map AV.p) H = some (.ptr H.length 0, H ++ [.box ([Ia 0, Ia 0].map AV.p)]) := boxO_p _ H
    have s1 : stA 2 (.ptr H.length 0) (.agg ((enc l[i]).map .p)) [] (H ++ [.box ([Ia 0, Ia 0].map AV.p)]) = some (H ++ [.box ((enc l[i]).map .p)]) := st_new (hE _) rfl
    have l1 : ld true 2 (.ptr H.length 0) (H ++ [.box ((enc l[i]).map .p)]) = some (.agg ((enc l[i]).map .p)) := by
      rw [ldAgg_box (xs := (enc l[i]).map .p) (by simp) (by simp [hE]), List.drop_zero, List.take_of_length_le (by simp [hE])]
    simp only [List.map_cons, List.map_nil] at b1 s1
    obtain ⟨x, H2, e2, hW2, hK2⟩ := hcl _ (List.getElem_mem hi') (H ++ [.box ((enc l[i]).map .p)]) acc (hW.push _) (by omega) (hG _ _ (KB.push _ _ _) g)
    obtain ⟨H3, e3, hW3, hK3⟩ := ih (i + 1) H2 (acc ++ out l[i]) (by omega) (by omega) hW2 (by rw [List.length_append]; omega) (hG _ _ hK2 (hG _ _ (KB.push _ _ _) g))
    refine ⟨H3, ?_, by rw [← List.append_assoc]; exact hW3, (KB.push _ _ _).trans (hK2.trans hK3)⟩
    rw [L73_6_eq]
    simp only [bin_lss, obs, cond_B]
    rw [if_pos (by simp <;> omega), hx]
    simp only [obs, hd, b1, s1, oms, l1, e2, bin_add]
    rw [wrap_id (by omega), show (i : Int) + 1 = ((i + 1 : Nat) : Int) by omega]
    exact e3

theorem call73 {α : Type} {w : Nat} {nl : Option Bool} {tg : Bool} {l : List α} {enc : α → List PV} (hE : ∀ p, (enc p).length = 2) {cl : AV} {out : α → List Int} {G : Heap → Prop} (hG : ∀ H H', KB w H H' → G H → G H') (hcl : ∀ x ∈ l, WSG w G (fun H => callV cfg O cl [.agg ((enc x).map .p)] [] H) (out x)) (hn : l.length < 2 ^ 63) :
    WSG w G (fun H => callA cfg O 73 [.ptr w 0, .p (.sl nl tg l.length (l.flatMap enc)), cl] [] H) ((l.length : Int) :: l.flatMap out) := by
  intro H acc hW hb g
  simp only [List.length_cons] at hb
  obtain ⟨x, H1, e1, hW1, hK1⟩ := call66 (w := w) (y := .p (.sl (some false) true 1 [Ia l.length])) (zs := [(l.length : Int)]) (fun H => by simp [cellsA]) (by simp) H acc hW (by simp; omega) trivial
  obtain ⟨H2, e2, hW2, hK2⟩ := loop73 (nl := nl) (tg := tg) hE hG hcl hn _ 0 H1 (acc ++ [(l.length : Int)]) rfl (by omega) hW1 (by rw [List.drop_zero, List.length_append, List.length_singleton]; omega) (hG _ _ hK1 g)
  rw [List.drop_zero] at hW2
  refine ⟨.tup [], H2, callA_keep (rs := []) rfl ?_, by simpa using hW2, hK1.trans hK2⟩
  rw [f73_eq]
  have hlit : litA false 1 [I l.length] H = some (.p (.sl (some false) true 1 [Ia l.length]), H) := rfl
  simp only [lenA_sl, obs, hlit, e1]
  exact e2

theorem loop126 {α : Type} {w : Nat} {nl : Option Bool} {tg : Bool} {l : List α} {enc : α → List PV} (hE : ∀ p, (enc p).length = 8) {cl : AV} {out : α → List Int} {G : Heap → Prop} (hG : ∀ H H', KB w H H' → G H → G H') (hcl : ∀ x ∈ l, WSG w G (fun H => callV cfg O cl [.agg ((enc x).map .p)] [] H) (out x)) (hn : l.length < 2 ^ 63) :
    ∀ (c i : Nat) (H : Heap) (acc : List Int), l.length - i = c → i ≤ l.length → Wr w H acc → acc.length + ((l.drop i).flatMap out).length ≤ LIM → G H →
    ∃ H', L126_6 [cl, .p (.sl nl tg l.length (l.flatMap enc)), I l.length, I i] [] H = some ([], H') ∧ Wr w H' (acc ++ (l.drop i).flatMap out) ∧ KB w H H' := by
  intro c
  induction c with
  | zero =>
    intro i H acc hc hi hW hb g
    have : i = l.length := by omega
    subst this
    refine ⟨H, ?_, by rw [List.drop_length]; simpa using hW, KB.refl _ _⟩
    rw [L126_6_eq]
    simp only [bin_lss, obs, cond_B]
    rw [if_neg (by simp)]
    rfl
  | succ c ih =>
    intro i H acc hc hi hW hb g
    have hi' : i < l.length := by omega
    rw [List.drop_eq_getElem_cons hi', List.flatMap_cons, List.length_append] at hb
    rw [List.drop_eq_getElem_cons hi', List.flatMap_cons]
    have hx : idxA 8 (.p (.sl nl tg l.length (l.flatMap enc))) (I i) = some (.fp (l.flatMap enc) (i * 8)) := by
      have := idxA_sl (sz := 8) (n := l.length) (nl := nl) (t := tg) (xs := l.flatMap enc) (j := (i : Int)) (by omega)
      simpa using this
    have hd : ld true 8 (.fp (l.flatMap enc) (i * 8)) H = some (.agg ((enc l[i]).map .p)) := by
      rw [ldAgg_fp (by rw [rows_length hE]; omega), rows_part hE (List.getElem?_eq_getElem hi')]
    have b1 : boxO [] ([Ia 0, Ia 0, Ia 0, Ia 0, Ia 0, Ia 0, nilS, nilS].map AV.p) H = some (.ptr H.length 0, H ++ [.box ([Ia 0, Ia 0, Ia 0, Ia 0, Ia 0, Ia 0, nilS, nilS].map AV.p)]) := boxO_p _ H
    have s1 : stA 8 (.ptr H.length 0) (.agg ((enc l[i]).map .p)) [] (H ++ [.box ([Ia 0, Ia 0, Ia 0, Ia 0, Ia 0, Ia 0, nilS, nilS].map AV.p)]) = some (H ++ [.box ((enc l[i]).map .p)]) := st_new (hE _) rfl
    have l1 : ld true 8 (.ptr H.length 0) (H ++ [.box ((enc l[i]).map .p)]) = some (.agg ((enc l[i]).map .p)) := by
      rw [ldAgg_box (xs := (enc l[i]).map .p) (by simp) (by simp [hE]), List.drop_zero, List.take_of_length_le (by simp [hE])]
    simp only [List.map_cons, List.map_nil] at b1 s1
    obtain ⟨x, H2, e2, hW2, hK2⟩ := hcl _ (List.getElem_mem hi') (H ++ [.box ((enc l[i]).map .p)]) acc (hW.push _) (by omega) (hG _ _ (KB.push _ _ _) g)
    obtain ⟨H3, e3, hW3, hK3⟩ := ih (i + 1) H2 (acc ++ out l[i]) (by omega) (by omega) hW2 (by rw [List.length_append]; omega) (hG _ _ hK2 (hG _ _ (KB.push _ _ _) g))
    refine ⟨H3, ?_, by rw [← List.append_assoc]; exact hW3, (KB.push _ _ _).trans (hK2.trans hK3)⟩
    rw [L126_6_eq]
    simp only [bin_lss, obs, cond_B]
    rw [if_pos (by simp <;> omega), hx]
    simp only [obs, hd, b1, s1, oms, l1, e2, bin_add]
    rw [wrap_id (by omega), show (i : Int) + 1 = ((i + 1 : Nat) : Int) by omega]
    exact e3

theorem call126 {α : Type} {w : Nat} {nl : Option Bool} {tg : Bool} {l : List α} {enc : α → List PV} (hE : ∀ p, (enc p).length = 8) {cl : AV} {out : α → List Int} {G : Heap → Prop} (hG : ∀ H H', KB w H H' → G H → G H') (hcl : ∀ x ∈ l, WSG w G (fun H => callV cfg O cl [.agg ((enc x).map .p)] [] H) (out x)) (hn : l.length < 2 ^ 63) :
    WSG w G (fun H => callA cfg O 126 [.ptr w 0, .p (.sl nl tg l.length (l.flatMap enc)), cl] [] H) ((l.length : Int) :: l.flatMap out) := by
  intro H acc hW hb g
  simp only [List.length_cons] at hb
  obtain ⟨x, H1, e1, hW1, hK1⟩ := call66 (w := w) (y := .p (.sl (some false) true 1 [Ia l.length])) (zs := [(l.length : Int)]) (fun H => by simp [cellsA]) (by simp) H acc hW (by simp; omega) trivial
  obtain ⟨H2, e2, hW2, hK2⟩ := loop126 (nl := nl) (tg := tg) hE hG hcl hn _ 0 H1 (acc ++ [(l.length : Int)]) rfl (by omega) hW1 (by rw [List.drop_zero, List.length_append, List.length_singleton]; omega) (hG _ _ hK1 g)
  rw [List.drop_zero] at hW2
  refine ⟨.tup [], H2, callA_keep (rs := []) rfl ?_, by simpa using hW2, hK1.trans hK2⟩
  rw [f126_eq]
  have hlit : litA false 1 [I l.length] H = some (.p (.sl (some false) true 1 [Ia l.length]), H) := rfl
  simp only [lenA_sl, obs, hlit, e1]
  exact e2

theorem loop149 {α : Type} {w : Nat} {nl : Option Bool} {tg : Bool} {l : List α} {enc : α → List PV} (hE : ∀ p, (enc p).length = 2) {cl : AV} {out : α → List Int} {G : Heap → Prop} (hG : ∀ H H', KB w H H' → G H → G H') (hcl : ∀ x ∈ l, WSG w G (fun H => callV cfg O cl [.agg ((enc x).map .p)] [] H) (out x)) (hn : l.length < 2 ^ 63) :
    ∀ (c i : Nat) (H : Heap) (acc : List Int), l.length - i = c → i ≤ l.length → Wr w H acc → acc.length + ((l.drop i).flatMap out).length ≤ LIM → G H →
    ∃ H', L149_6 [cl, .p (.sl nl tg l.length (l.flatMap enc)), I l.length, I i] [] H = some ([], H') ∧ Wr w H' (acc ++ (l.drop i).flatMap out) ∧ KB w H H' := by
  intro c
  induction c with
  | zero =>
    intro i H acc hc hi hW hb g
    have : i = l.length := by omega
    subst this
    refine ⟨H, ?_, by rw [List.drop_length]; simpa using hW, KB.refl _ _⟩
    rw [L149_6_eq]
    simp only [bin_lss, obs, cond_B]
    rw [if_neg (by simp)]
    rfl
  | succ c ih =>
    intro i H acc hc hi hW hb g
    have hi' : i < l.length := by omega
    rw [List.drop_eq_getElem_cons hi', List.flatMap_cons, List.length_append] at hb
    rw [List.drop_eq_getElem_cons hi', List.flatMap_cons]
    have hx : idxA 2 (.p (.sl nl tg l.length (l.flatMap enc))) (I i) = some (.fp (l.flatMap enc) (i * 2)) := by
      have := idxA_sl (sz := 2) (n := l.length) (nl := nl) (t := tg) (xs := l.flatMap enc) (j := (i : Int)) (by omega)
      simpa using this
    have hd : ld true 2 (.fp (l.flatMap enc) (i * 2)) H = some (.agg ((enc l[i]).map .p)) := by
      rw [ldAgg_fp (by rw [rows_length hE]; omega), rows_part hE (List.getElem?_eq_getElem hi')]
    have b1 : boxO [] ([Ia 0, Ia 0].map AV.p) H = some (.ptr H.length 0, H ++ [.box ([Ia 0, Ia 0].map AV.p)]) := boxO_p _ H
    have s1 : stA 2 (.ptr H.length 0) (.agg ((enc l[i]).map .p)) [] (H ++ [.box ([Ia 0, Ia 0].map AV.p)]) = some (H ++ [.box ((enc l[i]).map .p)]) := st_new (hE _) rfl
    have l1 : ld true 2 (.ptr H.length 0) (H ++ [.box ((enc l[i]).map .p)]) = some (.agg ((enc l[i]).map .p)) := by
      rw [ldAgg_box (xs := (enc l[i]).map .p) (by simp) (by simp [hE]), List.drop_zero, List.take_of_length_le (by simp [hE])]
    simp only [List.map_cons, List.map_nil] at b1 s1
    obtain ⟨x, H2, e2, hW2, hK2⟩ := hcl _ (List.getElem_mem hi') (H ++ [.box ((enc l[i]).map .p)]) acc (hW.push _) (by omega) (hG _ _ (KB.push _ _ _) g)
    obtain ⟨H3, e3, hW3, hK3⟩ := ih (i + 1) H2 (acc ++ out l[i]) (by omega) (by omega) hW2 (by rw [List.length_append]; omega) (hG _ _ hK2 (hG _ _ (KB.push _ _ _) g))
    refine ⟨H3, ?_, by rw [← List.append_assoc]; exact hW3, (KB.push _ _ _).trans (hK2.trans hK3)⟩
    rw [L149_6_eq]
    simp only [bin_lss, obs, cond_B]
    rw [if_pos (by simp <;> omega), hx]
    simp only [obs, hd, b1, s1, oms, l1, e2, bin_add]
    rw [wrap_id (by omega), show (i : Int) + 1 = ((i + 1 : Nat) : Int) by omega]
    exact e3

theorem call149 {α : Type} {w : Nat} {nl : Option Bool} {tg : Bool} {l : List α} {enc : α → List PV} (hE : ∀ p, (enc p).length = 2) {cl : AV} {out : α → List Int} {G : Heap → Prop} (hG : ∀ H H', KB w H H' → G H → G H') (hcl : ∀ x ∈ l, WSG w G (fun H => callV cfg O cl [.agg ((enc x).map .p)] [] H) (out x)) (hn : l.length < 2 ^ 63) :
    WSG w G (fun H => callA cfg O 149 [.ptr w 0, .p (.sl nl tg l.length (l.flatMap enc)), cl] [] H) ((l.length : Int) :: l.flatMap out) := by
  intro H acc hW hb g
  simp only [List.length_cons] at hb
  obtain ⟨x, H1, e1, hW1, hK1⟩ := call66 (w := w) (y := .p (.sl (some false) true 1 [Ia l.length])) (zs := [(l.length : Int)]) (fun H => by simp [cellsA]) (by simp) H acc hW (by simp; omega) trivial
  obtain ⟨H2, e2, hW2, hK2⟩ := loop149 (nl := nl) (tg := tg) hE hG hcl hn _ 0 H1 (acc ++ [(l.length : Int)]) rfl (by omega) hW1 (by rw [List.drop_zero, List.length_append, List.length_singleton]; omega) (hG _ _ hK1 g)
  rw [List.drop_zero] at hW2
  refine ⟨.tup [], H2, callA_keep (rs := []) rfl ?_, by simpa using hW2, hK1.trans hK2⟩
  rw [f149_eq]
  have hlit : litA false 1 [I l.length] H = some (.p (.sl (some false) true 1 [Ia l.length]), H) := rfl
  simp only [lenA_sl, obs, hlit, e1]
  exact e2

theorem loop67 {α : Type} {w : Nat} {nl : Option Bool} {tg : Bool} {l : List α} {enc : α → PV} {cl : AV} {out : α → List Int} {G : Heap → Prop} (hG : ∀ H H', KB w H H' → G H → G H') (hcl : ∀ x ∈ l, WSG w G (fun H => callV cfg O cl [.p (enc x)] [] H) (out x)) (hn : l.length < 2 ^ 63) :
    ∀ (c i : Nat) (H : Heap) (acc : List Int), l.length - i = c → i ≤ l.length → Wr w H acc → acc.length + ((l.drop i).flatMap out).length ≤ LIM → G H →
    ∃ H', L67_6 [cl, .p (.sl nl tg l.length (l.map enc)), I l.length, I i] [] H = some ([], H') ∧ Wr w H' (acc ++ (l.drop i).flatMap out) ∧ KB w H H' := by
  intro c
  induction c with
  | zero =>
    intro i H acc hc hi hW hb g
    have : i = l.length := by omega
    subst this
    refine ⟨H, ?_, by rw [List.drop_length]; simpa using hW, KB.refl _ _⟩
    rw [L67_6_eq]
    simp only [bin_lss, obs, cond_B]
    rw [if_neg (by simp)]
    rfl
  | succ c ih =>
    intro i H acc hc hi hW hb g
    have hi' : i < l.length := by omega
    rw [List.drop_eq_getElem_cons hi', List.flatMap_cons, List.length_append] at hb
    rw [List.drop_eq_getElem_cons hi', List.flatMap_cons]
    have hx : idxA 1 (.p (.sl nl tg l.length (l.map enc))) (I i) = some (.fp (l.map enc) i) := by
      have := idxA_sl (sz := 1) (n := l.length) (nl := nl) (t := tg) (xs := l.map enc) (j := (i : Int)) (by omega)
      simpa using this
    have hd : ld false 1 (.fp (l.map enc) i) H = some (.p (enc l[i])) := by rw [ld_fp, List.getElem?_map, List.getElem?_eq_getElem hi']; rfl
    obtain ⟨x, H2, e2, hW2, hK2⟩ := hcl _ (List.getElem_mem hi') H acc hW (by omega) g
    obtain ⟨H3, e3, hW3, hK3⟩ := ih (i + 1) H2 (acc ++ out l[i]) (by omega) (by omega) hW2 (by rw [List.length_append]; omega) (hG _ _ hK2 g)
    refine ⟨H3, ?_, by rw [← List.append_assoc]; exact hW3, hK2.trans hK3⟩
    rw [L67_6_eq]
    simp only [bin_lss, obs, cond_B]
    rw [if_pos (by simp <;> omega), hx]
    simp only [obs, hd, e2, bin_add]
    rw [wrap_id (by omega), show (i : Int) + 1 = ((i + 1 : Nat) : Int) by omega]
    exact e3

theorem call67 {α : Type} {w : Nat} {nl : Option Bool} {tg : Bool} {l : List α} {enc : α → PV} {cl : AV} {out : α → List Int} {G : Heap → Prop} (hG : ∀ H H', KB w H H' → G H → G H') (hcl : ∀ x ∈ l, WSG w G (fun H => callV cfg O cl [.p (enc x)] [] H) (out x)) (hn : l.length < 2 ^ 63) :
    WSG w G (fun H => callA cfg O 67 [.ptr w 0, .p (.sl nl tg l.length (l.map enc)), cl] [] H) ((l.length : Int) :: l.flatMap out) := by
  intro H acc hW hb g
  simp only [List.length_cons] at hb
  obtain ⟨x, H1, e1, hW1, hK1⟩ := call66 (w := w) (y := .p (.sl (some false) true 1 [Ia l.length])) (zs := [(l.length : Int)]) (fun H => by simp [cellsA]) (by simp) H acc hW (by simp; omega) trivial
  obtain ⟨H2, e2, hW2, hK2⟩ := loop67 (nl := nl) (tg := tg) hG hcl hn _ 0 H1 (acc ++ [(l.length : Int)]) rfl (by omega) hW1 (by rw [List.drop_zero, List.length_append, List.length_singleton]; omega) (hG _ _ hK1 g)
  rw [List.drop_zero] at hW2
  refine ⟨.tup [], H2, callA_keep (rs := []) rfl ?_, by simpa using hW2, hK1.trans hK2⟩
  rw [f67_eq]
  have hlit : litA false 1 [I l.length] H = some (.p (.sl (some false) true 1 [Ia l.length]), H) := rfl
  simp only [lenA_sl, obs, hlit, e1]
  exact e2

theorem loop128 {α : Type} {w : Nat} {nl : Option Bool} {tg : Bool} {l : List α} {enc : α → PV} {cl : AV} {out : α → List Int} {G : Heap → Prop} (hG : ∀ H H', KB w H H' → G H → G H') (hcl : ∀ x ∈ l, WSG w G (fun H => callV cfg O cl [.p (enc x)] [] H) (out x)) (hn : l.length < 2 ^ 63) :
    ∀ (c i : Nat) (H : Heap) (acc : List Int), l.length - i = c → i ≤ l.length → Wr w H acc → acc.length + ((l.drop i).flatMap out).length ≤ LIM → G H →
    ∃ H', L128_6 [cl, .p (.sl nl tg l.length (l.map enc)), I l.length, I i] [] H = some ([], H') ∧ Wr w H' (acc ++ (l.drop i).flatMap out) ∧ KB w H H' := by
  intro c
  induction c with
  | zero =>
    intro i H acc hc hi hW hb g
    have : i = l.length := by omega
    subst this
    refine ⟨H, ?_, by rw [List.drop_length]; simpa using hW, KB.refl _ _⟩
    rw [L128_6_eq]
    simp only [bin_lss, obs, cond_B]
    rw [if_neg (by simp)]
    rfl
  | succ c ih =>
    intro i H acc hc hi hW hb g
    have hi' : i < l.length := by omega
    rw [List.drop_eq_getElem_cons hi', List.flatMap_cons, List.length_append] at hb
    rw [List.drop_eq_getElem_cons hi', List.flatMap_cons]
    have hx : idxA 1 (.p (.sl nl tg l.length (l.map enc))) (I i) = some (.fp (l.map enc) i) := by
      have := idxA_sl (sz := 1) (n := l.length) (nl := nl) (t := tg) (xs := l.map enc) (j := (i : Int)) (by omega)
      simpa using this
    have hd : ld false 1 (.fp (l.map enc) i) H = some (.p (enc l[i])) := by rw [ld_fp, List.getElem?_map, List.getElem?_eq_getElem hi']; rfl
    obtain ⟨x, H2, e2, hW2, hK2⟩ := hcl _ (List.getElem_mem hi') H acc hW (by omega) g
    obtain ⟨H3, e3, hW3, hK3⟩ := ih (i + 1) H2 (acc ++ out l[i]) (by omega) (by omega) hW2 (by rw [List.length_append]; omega) (hG _ _ hK2 g)
    refine ⟨H3, ?_, by rw [← List.append_assoc]; exact hW3, hK2.trans hK3⟩
    rw [L128_6_eq]
    simp only [bin_lss, obs, cond_B]
    rw [if_pos (by simp <;> omega), hx]
    simp only [obs, hd, e2, bin_add]
    rw [wrap_id (by omega), show (i : Int) + 1 = ((i + 1 : Nat) : Int) by omega]
    exact e3

theorem call128 {α : Type} {w : Nat} {nl : Option Bool} {tg : Bool} {l : List α} {enc : α → PV} {cl : AV} {out : α → List Int} {G : Heap → Prop} (hG : ∀ H H', KB w H H' → G H → G H') (hcl : ∀ x ∈ l, WSG w G (fun H => callV cfg O cl [.p (enc x)] [] H) (out x)) (hn : l.length < 2 ^ 63) :
    WSG w G (fun H => callA cfg O 128 [.ptr w 0, .p (.sl nl tg l.length (l.map enc)), cl] [] H) ((l.length : Int) :: l.flatMap out) := by
  intro H acc hW hb g
  simp only [List.length_cons] at hb
  obtain ⟨x, H1, e1, hW1, hK1⟩ := call66 (w := w) (y := .p (.sl (some false) true 1 [Ia l.length])) (zs := [(l.length : Int)]) (fun H => by simp [cellsA]) (by simp) H acc hW (by simp; omega) trivial
  obtain ⟨H2, e2, hW2, hK2⟩ := loop128 (nl := nl) (tg := tg) hG hcl hn _ 0 H1 (acc ++ [(l.length : Int)]) rfl (by omega) hW1 (by rw [List.drop_zero, List.length_append, List.length_singleton]; omega) (hG _ _ hK1 g)
  rw [List.drop_zero] at hW2
  refine ⟨.tup [], H2, callA_keep (rs := []) rfl ?_, by simpa using hW2, hK1.trans hK2⟩
  rw [f128_eq]
  have hlit : litA false 1 [I l.length] H = some (.p (.sl (some false) true 1 [Ia l.length]), H) := rfl
  simp only [lenA_sl, obs, hlit, e1]
  exact e2

/-! ### A parameter in memory -/
theorem boxP (xs : List PV) (H : Heap) : boxO [] (AV.cells (.agg (xs.map .p))) H = some (.ptr H.length 0, H ++ [.box (xs.map .p)]) := boxO_p xs H

theorem ldP {H : Heap} {q off : Nat} {xs : List PV} {x : PV} (h : H[q]? = some (.box (xs.map .p))) (hx : xs[off]? = some x) : ld false 1 (.ptr q off) H = some (.p x) := by
  rw [ld_box h, List.getElem?_map, hx]; rfl

theorem ldPA {H : Heap} {q off n : Nat} {xs ys : List PV} (h : H[q]? = some (.box (xs.map .p))) (hl : off + n ≤ xs.length) (hx : (xs.drop off).take n = ys) : ld true n (.ptr q off) H = some (.agg (ys.map .p)) := by
  rw [ldAgg_box h (by simpa using hl), ← List.map_drop, ← List.map_take, hx]

/-! ### What is written -/
def fv (p : A_Val) : List Int := [p.1, p.2]
def ft (p : A_Try) : List Int := [p.1, p.2]
def fvs (l : A_LVal) : List Int := (l.2.length : Int) :: l.2.flatMap fv
def fts (l : A_LTry) : List Int := (l.2.length : Int) :: l.2.flatMap ft
def ff (p : A_Frame) : List Int := [p.1, p.2.1, p.2.2.1, p.2.2.2.1] ++ fv p.2.2.2.2.1 ++ fvs p.2.2.2.2.2.1 ++ fts p.2.2.2.2.2.2
def ffs (l : A_LFrame) : List Int := (l.2.length : Int) :: l.2.flatMap ff
def fc (p : A_Cell) : List Int := [p.1, p.2.1] ++ fvs p.2.2.1 ++ ffs p.2.2.2
def fsh (p : A_Shape) : List Int := [p.1, p.2]
def ftx (s : ByteArray) : List Int := (s.size : Int) :: s.data.toList.map fun b => (b.toNat : Int)
def fth (p : A_Thread) : List Int := ffs p.1 ++ [p.2.1, p.2.2.1] ++ fv p.2.2.2
def fe (p : A_End) : List Int := [p.1] ++ fv p.2

/-- A method of two numbers. -/
theorem call74 {w : Nat} (p : A_Val) : WS w (fun H => callA cfg O 74 [.ptr w 0, .agg ((enc_Val p).map .p)] [] H) (fv p) := by
  intro H acc hW hb _
  have hq : (H ++ [AObj.box ((enc_Val p).map AV.p)])[H.length]? = some (.box ((enc_Val p).map .p)) := by simp
  obtain ⟨x, H1, e1, hW1, hK1⟩ := lit66 (w := w) (zs := [p.1, p.2]) (n := 2) rfl (by simp) _ acc (hW.push [.box ((enc_Val p).map .p)]) hb trivial
  refine ⟨.tup [], H1, callA_keep (rs := []) rfl ?_, hW1, (KB.push _ _ _).trans hK1⟩
  rw [f74_eq]
  have hlit : ∀ H, litA false 1 [I p.1, I p.2] H = some (.p (.sl (some false) true 2 ([p.1, p.2].map Ia)), H) := fun H => rfl
  simp only [boxP, obs, fldA_ptr, Nat.zero_add, ldP hq (off := 0) rfl, ldP hq (off := 1) rfl, hlit, e1]
  rfl

theorem call150 {w : Nat} (p : A_Try) : WS w (fun H => callA cfg O 150 [.ptr w 0, .agg ((enc_Try p).map .p)] [] H) (ft p) := by
  intro H acc hW hb _
  have hq : (H ++ [AObj.box ((enc_Try p).map AV.p)])[H.length]? = some (.box ((enc_Try p).map .p)) := by simp
  obtain ⟨x, H1, e1, hW1, hK1⟩ := lit66 (w := w) (zs := [p.1, p.2]) (n := 2) rfl (by simp) _ acc (hW.push [.box ((enc_Try p).map .p)]) hb trivial
  refine ⟨.tup [], H1, callA_keep (rs := []) rfl ?_, hW1, (KB.push _ _ _).trans hK1⟩
  rw [f150_eq]
  have hlit : ∀ H, litA false 1 [I p.1, I p.2] H = some (.p (.sl (some false) true 2 ([p.1, p.2].map Ia)), H) := fun H => rfl
  simp only [boxP, obs, fldA_ptr, Nat.zero_add, ldP hq (off := 0) rfl, ldP hq (off := 1) rfl, hlit, e1]
  rfl

theorem callVals {w : Nat} (l : A_LVal) (h : l.2.length < 2 ^ 63) : WS w (fun H => callA cfg O 73 [.ptr w 0, .p (.sl l.1 false l.2.length (l.2.flatMap enc_Val)), .fn 74 [.ptr w 0] []] [] H) (fvs l) :=
  call73 len_Val (fun _ _ _ h => h) (cl := .fn 74 [.ptr w 0] []) (out := fv) (fun x _ => call74 x) h
theorem callTries {w : Nat} (l : A_LTry) (h : l.2.length < 2 ^ 63) : WS w (fun H => callA cfg O 149 [.ptr w 0, .p (.sl l.1 false l.2.length (l.2.flatMap enc_Try)), .fn 150 [.ptr w 0] []] [] H) (fts l) :=
  call149 len_Try (fun _ _ _ h => h) (cl := .fn 150 [.ptr w 0] []) (out := ft) (fun x _ => call150 x) h

theorem call127 {w : Nat} (p : A_Frame) (ok : ok_Frame p) : WS w (fun H => callA cfg O 127 [.ptr w 0, .agg ((enc_Frame p).map .p)] [] H) (ff p) := by
  intro H acc hW hb _
  have o1 : p.2.2.2.2.2.1.2.length < 2 ^ 63 := by have := ok.2.2.2.2.2.1.1; simp only [maxLen] at this; omega
  have o2 : p.2.2.2.2.2.2.2.length < 2 ^ 63 := by have := ok.2.2.2.2.2.2.1; simp only [maxLen] at this; omega
  have hq : (H ++ [AObj.box ((enc_Frame p).map AV.p)])[H.length]? = some (.box ((enc_Frame p).map .p)) := by simp
  have hne : H.length ≠ w := by have := hW.lt; omega
  simp only [ff, List.length_append] at hb
  obtain ⟨x1, H1, e1, hW1, hK1⟩ := lit66 (w := w) (zs := [p.1, p.2.1, p.2.2.1, p.2.2.2.1]) (n := 4) rfl (by simp) _ acc (hW.push [.box ((enc_Frame p).map .p)]) (by simp at hb ⊢; omega) trivial
  have hq1 := hK1.2 _ _ hne hq
  obtain ⟨x2, H2, e2, hW2, hK2⟩ := call74 (w := w) p.2.2.2.2.1 H1 _ hW1 (by simp [fv] at hb ⊢; omega) trivial
  have hq2 := hK2.2 _ _ hne hq1
  obtain ⟨x3, H3, e3, hW3, hK3⟩ := callVals (w := w) p.2.2.2.2.2.1 o1 H2 _ hW2 (by simp [fv] at hb ⊢; omega) trivial
  have hq3 := hK3.2 _ _ hne hq2
  obtain ⟨x4, H4, e4, hW4, hK4⟩ := callTries (w := w) p.2.2.2.2.2.2 o2 H3 _ hW3 (by simp [fv] at hb ⊢; omega) trivial
  refine ⟨.tup [], H4, callA_keep (rs := []) rfl ?_, by unfold ff; simpa [List.append_assoc] using hW4, (KB.push _ _ _).trans (hK1.trans (hK2.trans (hK3.trans hK4)))⟩
  rw [f127_eq]
  have hlit : ∀ H, litA false 1 [I p.1, I p.2.1, I p.2.2.1, I p.2.2.2.1] H = some (.p (.sl (some false) true 4 ([p.1, p.2.1, p.2.2.1, p.2.2.2.1].map Ia)), H) := fun H => rfl
  simp only [boxP, obs, fldA_ptr, Nat.zero_add, ldP hq (off := 0) rfl, ldP hq (off := 1) rfl, ldP hq (off := 2) rfl, ldP hq (off := 3) rfl, hlit, e1, ldPA hq1 (off := 4) (n := 2) (ys := enc_Val p.2.2.2.2.1) (by simp [len_Frame]) rfl, e2, ldP hq2 (off := 6) rfl, e3, ldP hq3 (off := 7) rfl, e4]
  rfl

theorem callFrames {w : Nat} (l : A_LFrame) (ok : ok_LFrame l) : WS w (fun H => callA cfg O 126 [.ptr w 0, .p (.sl l.1 false l.2.length (l.2.flatMap enc_Frame)), .fn 127 [.ptr w 0] []] [] H) (ffs l) :=
  call126 len_Frame (fun _ _ _ h => h) (cl := .fn 127 [.ptr w 0] []) (out := ff) (fun x hx => call127 x (ok.2 x hx)) (by have := ok.1; simp only [maxLen] at this; omega)

theorem call63 {w : Nat} (p : A_Cell) (ok : ok_Cell p) : WS w (fun H => callA cfg O 63 [.ptr w 0, .agg ((enc_Cell p).map .p)] [] H) (fc p) := by
  intro H acc hW hb _
  have o1 : p.2.2.1.2.length < 2 ^ 63 := by have := ok.2.2.1.1; simp only [maxLen] at this; omega
  have hq : (H ++ [AObj.box ((enc_Cell p).map AV.p)])[H.length]? = some (.box ((enc_Cell p).map .p)) := by simp
  have hne : H.length ≠ w := by have := hW.lt; omega
  simp only [fc, List.length_append] at hb
  obtain ⟨x1, H1, e1, hW1, hK1⟩ := lit66 (w := w) (zs := [p.1, p.2.1]) (n := 2) rfl (by simp) _ acc (hW.push [.box ((enc_Cell p).map .p)]) (by simp at hb ⊢; omega) trivial
  have hq1 := hK1.2 _ _ hne hq
  obtain ⟨x2, H2, e2, hW2, hK2⟩ := callVals (w := w) p.2.2.1 o1 H1 _ hW1 (by simp at hb ⊢; omega) trivial
  have hq2 := hK2.2 _ _ hne hq1
  obtain ⟨x3, H3, e3, hW3, hK3⟩ := callFrames (w := w) p.2.2.2 ok.2.2.2 H2 _ hW2 (by simp at hb ⊢; omega) trivial
  refine ⟨.tup [], H3, callA_keep (rs := []) rfl ?_, by unfold fc; simpa [List.append_assoc] using hW3, (KB.push _ _ _).trans (hK1.trans (hK2.trans hK3))⟩
  rw [f63_eq]
  have hlit : ∀ H, litA false 1 [I p.1, I p.2.1] H = some (.p (.sl (some false) true 2 ([p.1, p.2.1].map Ia)), H) := fun H => rfl
  simp only [boxP, obs, fldA_ptr, Nat.zero_add, ldP hq (off := 0) rfl, ldP hq (off := 1) rfl, hlit, e1, ldP hq1 (off := 2) rfl, e2, ldP hq2 (off := 3) rfl, e3]
  rfl

theorem call70 {w : Nat} (p : A_Thread) (ok : ok_Thread p) : WS w (fun H => callA cfg O 70 [.ptr w 0, .agg ((enc_Thread p).map .p)] [] H) (fth p) := by
  intro H acc hW hb _
  have hq : (H ++ [AObj.box ((enc_Thread p).map AV.p)])[H.length]? = some (.box ((enc_Thread p).map .p)) := by simp
  have hne : H.length ≠ w := by have := hW.lt; omega
  simp only [fth, List.length_append] at hb
  obtain ⟨x1, H1, e1, hW1, hK1⟩ := callFrames (w := w) p.1 ok.1 _ acc (hW.push [.box ((enc_Thread p).map .p)]) (by simp at hb ⊢; omega) trivial
  have hq1 := hK1.2 _ _ hne hq
  obtain ⟨x2, H2, e2, hW2, hK2⟩ := lit66 (w := w) (zs := [p.2.1, p.2.2.1]) (n := 2) rfl (by simp) H1 _ hW1 (by simp at hb ⊢; omega) trivial
  have hq2 := hK2.2 _ _ hne hq1
  obtain ⟨x3, H3, e3, hW3, hK3⟩ := call74 (w := w) p.2.2.2 H2 _ hW2 (by simp [fv] at hb ⊢; omega) trivial
  refine ⟨.tup [], H3, callA_keep (rs := []) rfl ?_, by unfold fth; simpa [List.append_assoc] using hW3, (KB.push _ _ _).trans (hK1.trans (hK2.trans hK3))⟩
  rw [f70_eq]
  have hlit : ∀ H, litA false 1 [I p.2.1, I p.2.2.1] H = some (.p (.sl (some false) true 2 ([p.2.1, p.2.2.1].map Ia)), H) := fun H => rfl
  simp only [boxP, obs, fldA_ptr, Nat.zero_add, ldP hq (off := 0) rfl, e1, ldP hq1 (off := 1) rfl, ldP hq1 (off := 2) rfl, hlit, e2, ldPA hq2 (off := 3) (n := 2) (ys := enc_Val p.2.2.2) (by simp [len_Thread]) rfl, e3]
  rfl

theorem call72 {w : Nat} (p : A_End) : WS w (fun H => callA cfg O 72 [.ptr w 0, .agg ((enc_End p).map .p)] [] H) (fe p) := by
  intro H acc hW hb _
  have hq : (H ++ [AObj.box ((enc_End p).map AV.p)])[H.length]? = some (.box ((enc_End p).map .p)) := by simp
  have hne : H.length ≠ w := by have := hW.lt; omega
  simp only [fe, List.length_append] at hb
  obtain ⟨x1, H1, e1, hW1, hK1⟩ := lit66 (w := w) (zs := [p.1]) (n := 1) rfl (by simp) _ acc (hW.push [.box ((enc_End p).map .p)]) (by simp at hb ⊢; omega) trivial
  have hq1 := hK1.2 _ _ hne hq
  obtain ⟨x2, H2, e2, hW2, hK2⟩ := call74 (w := w) p.2 H1 _ hW1 (by simp [fv] at hb ⊢; omega) trivial
  refine ⟨.tup [], H2, callA_keep (rs := []) rfl ?_, by unfold fe; simpa [List.append_assoc] using hW2, (KB.push _ _ _).trans (hK1.trans hK2)⟩
  rw [f72_eq]
  have hlit : ∀ H, litA false 1 [I p.1] H = some (.p (.sl (some false) true 1 ([p.1].map Ia)), H) := fun H => rfl
  simp only [boxP, obs, fldA_ptr, Nat.zero_add, ldP hq (off := 0) rfl, hlit, e1, ldPA hq1 (off := 1) (n := 2) (ys := enc_Val p.2) (by simp [len_End]) rfl, e2]
  rfl

/-- Does a variable hold the writer? -/
def Has (w v : Nat) (H : Heap) : Prop := v ≠ w ∧ H[v]? = some (.box [.ptr w 0])
theorem Has.keep {w v : Nat} : ∀ H H', KB w H H' → Has w v H → Has w v H' := fun _ _ h k => ⟨k.1, h.2 _ _ k.1 k.2⟩

theorem call65 {w v : Nat} (p : A_Shape) : WSG w (Has w v) (fun H => callV cfg O (.fn 65 [] [.ptr v 0]) [.agg ((enc_Shape p).map .p)] [] H) (fsh p) := by
  intro H acc hW hb hv
  have hq : (H ++ [AObj.box ((enc_Shape p).map AV.p)])[H.length]? = some (.box ((enc_Shape p).map .p)) := by simp
  obtain ⟨x, H1, e1, hW1, hK1⟩ := lit66 (w := w) (zs := [p.1, p.2]) (n := 2) rfl (by simp) _ acc (hW.push [.box ((enc_Shape p).map .p)]) hb trivial
  refine ⟨.tup [], H1, ?_, hW1, (KB.push _ _ _).trans hK1⟩
  show callA cfg O 65 [.agg ((enc_Shape p).map .p), .ptr v 0] [] H = _
  refine callA_keep (rs := []) rfl ?_
  rw [f65_eq]
  have hl : ld false 1 (.ptr v 0) (H ++ [.box ((enc_Shape p).map AV.p)]) = some (.ptr w 0) := by rw [ld_box (push_get? hv.2 _)]; rfl
  have hlit : ∀ H, litA false 1 [I p.1, I p.2] H = some (.p (.sl (some false) true 2 ([p.1, p.2].map Ia)), H) := fun H => rfl
  simp only [boxP, obs, hl, fldA_ptr, Nat.zero_add, ldP hq (off := 0) rfl, ldP hq (off := 1) rfl, hlit, e1]
  rfl

theorem call129 {w v : Nat} (b : UInt8) : WSG w (Has w v) (fun H => callV cfg O (.fn 129 [] [.ptr v 0]) [.p (.v (.int .u8 b.toNat))] [] H) [(b.toNat : Int)] := by
  intro H acc hW hb hv
  obtain ⟨x, H1, e1, hW1, hK1⟩ := lit66 (w := w) (zs := [(b.toNat : Int)]) (n := 1) rfl (by simp) H acc hW hb trivial
  refine ⟨.tup [], H1, ?_, hW1, hK1⟩
  show callA cfg O 129 [.p (.v (.int .u8 b.toNat)), .ptr v 0] [] H = _
  refine callA_keep (rs := []) rfl ?_
  rw [f129_eq]
  have hl : ld false 1 (.ptr v 0) H = some (.ptr w 0) := by rw [ld_box hv.2]; rfl
  have hc : conv (.int .i64) (.p (.v (.int .u8 b.toNat))) = some (I b.toNat) := by
    show some (AV.p (.v (.int .i64 (IntKind.i64.wrap b.toNat)))) = _
    have := b.toNat_lt
    rw [wrap_id (by omega)]
  have hlit : ∀ H, litA false 1 [I b.toNat] H = some (.p (.sl (some false) true 1 ([(b.toNat : Int)].map Ia)), H) := fun H => rfl
  simp only [hl, obs, hc, hlit, e1]
  rfl

theorem call68 {w : Nat} (s : ByteArray) (hs : s.size ≤ maxLen) : WS w (fun H => callA cfg O 68 [.ptr w 0, .p (.v (.string s))] [] H) (ftx s) := by
  intro H acc hW hb _
  have hlen : s.data.toList.length = s.size := by rw [Array.length_toList]; rfl
  have hv : Has w H.length (H ++ [.box [.ptr w 0]]) := ⟨by have := hW.lt; omega, by simp⟩
  have b1 : boxO [] (AV.cells (.ptr w 0)) H = some (.ptr H.length 0, H ++ [.box [.ptr w 0]]) := by
    simp [boxO, boxA, AV.cells, AV.leaf]
  have hl : ld false 1 (.ptr H.length 0) (H ++ [.box [.ptr w 0]]) = some (.ptr w 0) := by rw [ld_box hv.2]; rfl
  have hc : conv .toBytes (.p (.v (.string s))) = some (.p (.sl (some false) false s.data.toList.length (s.data.toList.map fun b => PV.v (.int .u8 b.toNat)))) := by
    rw [hlen]; rfl
  have hout : ((s.data.toList.length : Int) :: s.data.toList.flatMap fun b => [(b.toNat : Int)]) = ftx s := by
    unfold ftx
    rw [hlen]
    congr 1
    induction s.data.toList with
    | nil => rfl
    | cons a l ih => simp [ih]
  obtain ⟨x, H1, e1, hW1, hK1⟩ := call128 (w := w) (nl := some false) (tg := false) (l := s.data.toList) (enc := fun b => PV.v (.int .u8 b.toNat)) (cl := .fn 129 [] [.ptr H.length 0]) (out := fun b => [(b.toNat : Int)]) (G := Has w H.length) Has.keep (fun b _ => call129 b) (by rw [hlen]; simp only [maxLen] at hs; omega) (H ++ [.box [.ptr w 0]]) acc (hW.push _) (by rw [hout]; exact hb) hv
  rw [hout] at hW1
  refine ⟨.tup [], H1, callA_keep (rs := []) rfl ?_, hW1, (KB.push _ _ _).trans hK1⟩
  rw [f68_eq]
  simp only [b1, obs, hl, hc, e1]
  rfl

end Flat
end Go.Proofs.Ytangmjeafnkfaaa
