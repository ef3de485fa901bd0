import Derived.Test.YtangmjeafnkfaaaRowS
import Derived.Test.YtangmjeafnkfaaaAm25
set_option linter.unusedVariables false
set_option linter.unusedSimpArgs false
namespace Go.Proofs.Ytangmjeafnkfaaa
open Go Go.AM
section
variable {nl : Option Bool} {tg : Bool} {l : List Ev}

/-- Does it hold of the event at a place? -/
def pat (l : List Ev) (p : Ev → Bool) (i : Nat) : Bool := (l[i]?).any p
theorem pat_at {p : Ev → Bool} {i : Nat} (h : i < l.length) : pat l p i = p l[i] := by simp [pat, h]

theorem call78 (e : Ev) (kind : Int) {id : Nat} {H : Heap} (ho : H[id]? = some (.box [I kind])) (lo : List Nat) : callV cfg O (.fn 78 [] [.ptr id 0]) [ag e] lo H = some (B (decide (e.1 = kind)), H ++ [bx e]) := by
  show callA cfg O 78 [ag e, .ptr id 0] lo H = _
  refine callA_keep (rs := [B _]) rfl ?_
  rw [f78_eq]
  simp only [boxAg, obs, fldA_ptr, ldB0, ld_box (push_get? ho _), List.getElem?_cons_zero, bin_eql]
  rfl

theorem call79 (e : Ev) (a b : Int) {i j : Nat} {H : Heap} (h1 : H[i]? = some (.box [I a])) (h2 : H[j]? = some (.box [I b])) (lo : List Nat) : callV cfg O (.fn 79 [] [.ptr i 0, .ptr j 0]) [ag e] lo H = some (B (decide (a ≤ e.2.1) && decide (e.2.1 < b)), H ++ [bx e]) := by
  show callA cfg O 79 [ag e, .ptr i 0, .ptr j 0] lo H = _
  refine callA_keep (rs := [B _]) rfl ?_
  rw [f79_eq]
  simp only [boxAg, obs, fldA_ptr, ldB1, ld_box (push_get? h1 _), ld_box (push_get? h2 _), List.getElem?_cons_zero, bin_leq]
  by_cases h : a ≤ e.2.1
  · simp only [h, decide_true, gd_B, if_true, obs, ldB1, ld_box (push_get? h2 _), List.getElem?_cons_zero, bin_lss, pickA_B, Bool.true_and]
    rfl
  · simp only [h, decide_false, gd_B, Bool.false_eq_true, if_false, obs, gd_undef, pickA_B, Bool.false_and]
    rfl

theorem loop77 {cl : AV} {p : Ev → Bool} {fx : List (Nat × List AV)} (hl : l.length ≤ 200) (hcl : ∀ e lo H, Cx H fx [] → callV cfg O cl [ag e] lo H = some (B (p e), H ++ [bx e])) (lo : List Nat) : ∀ (c i : Nat) (o : AV) (H : Heap), l.length - i = c → i ≤ l.length →
    Cx H fx [(o, 1, (flt (pat l p) i).length, (flt (pat l p) i).map Ia)] → ∃ o' H', L77_12 [cl, o, L nl tg l, I l.length, I i] lo H = some ([o', I 0], H') ∧ Cx H' fx [(o', 1, (flt (pat l p) l.length).length, (flt (pat l p) l.length).map Ia)] := by
  intro c
  induction c with
  | zero =>
    intro i o H hc hi h
    have : i = l.length := by omega
    subst this
    refine ⟨o, H, ?_, h⟩
    rw [L77_12_eq]
    simp only [bin_lss, obs, cond_B]
    rw [if_neg (by simp)]
    rfl
  | succ c ih =>
    intro i o H hc hi h
    have hi' : i < l.length := by omega
    have c1 := h.push [bx l[i]]
    have c2 := c1.push [bx l[i]]
    rw [L77_12_eq]
    simp only [bin_lss, obs, cond_B]
    rw [if_pos (by simp <;> omega)]
    simp only [idxL hi', obs, ldE hi', boxE, stE, oms, ldBE, hcl l[i] lo _ c1.tl, cond_B]
    cases hp : p l[i] with
    | true =>
      obtain ⟨o', H', e, c3⟩ := plc [] (by omega) c2 (by rw [pat_at hi', hp])
      simp only [if_true, lit1, obs, e]
      rw [L77_21_eq]
      simp only [bin_add, obs]
      rw [wrap_id (by omega), nxt]
      exact ih (i + 1) o' H' (by omega) (by omega) c3
    | false =>
      have c3 := plc0 [] c2 (by rw [pat_at hi', hp])
      simp only [Bool.false_eq_true, if_false]
      rw [L77_21_eq]
      simp only [bin_add, obs]
      rw [wrap_id (by omega), nxt]
      exact ih (i + 1) o _ (by omega) (by omega) c3

def errL (l : List Ev) : Int := if 200 < l.length then 2 else 0
def plcs (l : List Ev) (p : Ev → Bool) : List Int := if 200 < l.length then [] else flt (pat l p) l.length
theorem plcs_len (p : Ev → Bool) : (plcs l p).length ≤ 200 := by
  unfold plcs
  split
  · simp
  · have := flt_len (pat l p) l.length; omega

theorem call77 {cl : AV} {p : Ev → Bool} {fx : List (Nat × List AV)} (hcl : ∀ e lo H, Cx H fx [] → callV cfg O cl [ag e] lo H = some (B (p e), H ++ [bx e])) (lo : List Nat) {H : Heap} (h : Cx H fx []) :
    ∃ o' H', callA cfg O 77 [L nl tg l, cl] lo H = some (.tup [o', I (errL l)], H') ∧ Cx H' fx [(o', 1, (plcs l p).length, (plcs l p).map Ia)] := by
  unfold errL plcs
  by_cases hl : 200 < l.length
  · simp only [if_pos hl]
    refine ⟨.p nilS, H, callA_keep (rs := [.p nilS, I 2]) rfl ?_, h.newNil 1⟩
    rw [f77_eq]
    simp only [lenA_sl, obs, bin_gtr, cond_B]
    rw [if_pos (by simp <;> omega)]
    rfl
  · simp only [if_neg hl]
    obtain ⟨o', H', e, h'⟩ := loop77 (nl := nl) (tg := tg) (l := l) (p := p) (by omega) hcl lo _ 0 (.p nilS) H rfl (by omega) (h.newNil 1)
    refine ⟨o', H', callA_keep (rs := [o', I 0]) rfl ?_, h'⟩
    rw [f77_eq]
    simp only [lenA_sl, obs, bin_gtr, cond_B]
    rw [if_neg (by simp <;> omega)]
    exact e

theorem call20 (kind : Int) (lo : List Nat) (H : Heap) : ∃ n t, callA cfg O 20 [L nl tg l, I kind] lo H = some (.tup [V n t (plcs l fun e => decide (e.1 = kind)), I (errL l)], H) := by
  obtain ⟨o', H', e, h'⟩ := call77 (nl := nl) (tg := tg) (l := l) (cl := .fn 78 [] [.ptr 0 0]) (p := fun e => decide (e.1 = kind)) (fx := [(0, [I kind])]) (fun e lo H h => call78 e kind (h.box (0, [I kind]) (by simp)) lo) [] ((Cx.nil []).newBox [I kind])
  obtain ⟨n, t, H2, e2⟩ := h'.hd.leave2 [] (Ia (errL l))
  refine ⟨n, t, callA_args (H' := H2) (rs := [_, _]) rfl rfl ?_ rfl⟩
  rw [f20_eq]
  have b : boxO [] (AV.cells (I kind)) [] = some (.ptr 0 0, [.box [I kind]]) := rfl
  simp only [List.nil_append, List.length_nil] at e
  simp only [b, obs, e, extractA_tup, List.getElem?_cons_zero, List.getElem?_cons_succ]
  exact e2

theorem call21 (a b : Int) (lo : List Nat) (H : Heap) : ∃ n t, callA cfg O 21 [L nl tg l, I a, I b] lo H = some (.tup [V n t (plcs l fun e => decide (a ≤ e.2.1) && decide (e.2.1 < b)), I (errL l)], H) := by
  obtain ⟨o', H', e, h'⟩ := call77 (nl := nl) (tg := tg) (l := l) (cl := .fn 79 [] [.ptr 0 0, .ptr 1 0]) (p := fun e => decide (a ≤ e.2.1) && decide (e.2.1 < b)) (fx := [(1, [I b]), (0, [I a])]) (fun e lo H h => call79 e a b (h.box (0, [I a]) (by simp)) (h.box (1, [I b]) (by simp)) lo) [] (((Cx.nil []).newBox [I a]).newBox [I b])
  obtain ⟨n, t, H2, e2⟩ := h'.hd.leave2 [] (Ia (errL l))
  refine ⟨n, t, callA_args (H' := H2) (rs := [_, _]) rfl rfl ?_ rfl⟩
  rw [f21_eq]
  have b1 : boxO [] (AV.cells (I a)) [] = some (.ptr 0 0, [.box [I a]]) := rfl
  have b2 : boxO [] (AV.cells (I b)) [.box [I a]] = some (.ptr 1 0, [.box [I a], .box [I b]]) := rfl
  simp only [List.nil_append, List.length_nil] at e
  simp only [b1, b2, obs]
  have e' : callA cfg O 77 [L nl tg l, .fn 79 [] [.ptr 0 0, .ptr 1 0]] [] [.box [I a], .box [I b]] = some (.tup [o', I (errL l)], H') := e
  simp only [e', obs, extractA_tup, List.getElem?_cons_zero, List.getElem?_cons_succ]
  exact e2

theorem call24 (at_ : Int) (h : at_ = 0) (lo : List Nat) (H : Heap) : callA cfg O 24 [L nl tg l, I at_] lo H = some (I (errL l), H) := by
  subst h
  refine callA_args (H' := []) (rs := [I (errL l)]) rfl rfl ?_ rfl
  rw [f24_eq]
  unfold errL
  by_cases hl : 200 < l.length
  · simp only [lenA_sl, obs, bin_gtr, cond_B]
    rw [if_pos (by simp <;> omega), if_pos hl]
    rfl
  · simp only [lenA_sl, obs, bin_gtr, cond_B, between_eq, un_not]
    rw [if_neg (by simp <;> omega), if_neg hl]
    have : (0 : Int) ≤ l.length := by omega
    simp [this]

/-! ### Kinds counted -/
def kd (e : Ev) : Nat := if e.1 < 0 ∨ 17 < e.1 then 0 else e.1.toNat
theorem kd_lt (e : Ev) : kd e < 18 := by unfold kd; split <;> omega
def many (l : List Ev) (n : Nat) : Nat := (l.filter fun e => decide (kd e = n)).length
theorem many_le (n : Nat) : many l n ≤ l.length := List.length_filter_le _ _
def cnts (l : List Ev) : List Int := (List.range 18).map fun n => (many l n : Int)

theorem many_snoc (l : List Ev) (e : Ev) (n : Nat) : many (l ++ [e]) n = many l n + if kd e = n then 1 else 0 := by
  unfold many
  rw [List.filter_append, List.length_append]
  by_cases h : kd e = n <;> simp [h]

theorem cnts_step (l : List Ev) (e : Ev) : (cnts l).set (kd e) (many l (kd e) + 1) = cnts (l ++ [e]) := by
  refine List.ext_getElem (by simp [cnts]) fun n h1 h2 => ?_
  simp only [List.getElem_set, cnts, List.getElem_map, List.getElem_range, many_snoc]
  split
  · rename_i h; subst h; simp
  · simp [*]

theorem loop22 (hl : l.length ≤ 200) (lo : List Nat) {id g : Nat} : ∀ (c i : Nat) (H : Heap), l.length - i = c → i ≤ l.length → Cx H [] [(.row id g 0 18, 1, 18, (cnts (l.take i)).map Ia)] →
    ∃ n t H', L22_12 [.row id g 0 18, L nl tg l, I l.length, I i] lo H = some ([V n t (cnts l), I 0], H') := by
  intro c
  induction c with
  | zero =>
    intro i H hc hi h
    have : i = l.length := by omega
    subst this
    rw [List.take_length] at h
    obtain ⟨n, t, H2, e2⟩ := h.hd.leave2 lo (Ia 0)
    refine ⟨n, t, H2, ?_⟩
    rw [L22_12_eq]
    simp only [bin_lss, obs, cond_B]
    rw [if_neg (by simp)]
    exact e2
  | succ c ih =>
    intro i H hc hi h
    have hi' : i < l.length := by omega
    have c1 := h.push [bx l[i]]
    have hk := kd_lt l[i]
    obtain ⟨e1, e2, e3, e4⟩ := Cx.cell [] c1 hk
    obtain ⟨e5, e6⟩ := e4 (Ia (many (l.take i) (kd l[i]) + 1)) lo
    have hcell : ld false 1 (.rptr id g (kd l[i])) (H ++ [bx l[i]]) = some (I (many (l.take i) (kd l[i]))) := by
      rw [e2]
      simp [cnts, hk]
    have hm := many_le (l := l.take i) (kd l[i])
    have hm2 : (l.take i).length ≤ 200 := by simp; omega
    have next : L22_23 [.row id g 0 18, I (kd l[i]), L nl tg l, I l.length, I i] lo (H ++ [bx l[i]]) = L22_12 [.row id g 0 18, L nl tg l, I l.length, I (i + 1 : Nat)] lo ((H ++ [bx l[i]]).set id (.row g 1 (((cnts (l.take i)).map Ia).set (kd l[i]) (Ia (many (l.take i) (kd l[i]) + 1))))) := by
      rw [L22_23_eq]
      simp only [e1, obs, hcell, bin_add]
      rw [wrap_id (by omega), e5]
      simp only [oms, obs]
      rw [wrap_id (by omega), nxt]
    rw [L22_12_eq]
    simp only [bin_lss, obs, cond_B]
    rw [if_pos (by simp <;> omega)]
    have e6' : Cx ((H ++ [bx l[i]]).set id (.row g 1 (((cnts (l.take i)).map Ia).set (kd l[i]) (Ia (many (l.take i) (kd l[i]) + 1))))) [] [(.row id g 0 18, 1, 18, (cnts (l.take (i + 1))).map Ia)] := by
      have : ((cnts (l.take i)).map Ia).set (kd l[i]) (Ia (many (l.take i) (kd l[i]) + 1)) = (cnts (l.take (i + 1))).map Ia := by
        rw [← List.map_set, cnts_step, List.take_append_getElem hi']
      rw [this] at e6 ⊢
      exact e6
    obtain ⟨n, t, H', e⟩ := ih (i + 1) _ (by omega) (by omega) e6'
    refine ⟨n, t, H', ?_⟩
    rw [← next] at e
    simp only [idxL hi', obs, ldE hi', boxE, stE, oms, fldA_ptr, ldB0]
    by_cases h0 : l[i].1 < 0
    · have hz : kd l[i] = 0 := by unfold kd; rw [if_pos (by omega)]
      rw [hz] at e
      simp only [bin_lss, h0, decide_true, gd_B, Bool.true_eq_false, if_false, obs, gd_undef, pickA_B, if_true, cond_B]
      exact e
    · by_cases h1 : 17 < l[i].1
      · have hz : kd l[i] = 0 := by unfold kd; rw [if_pos (by omega)]
        rw [hz] at e
        simp only [bin_lss, h0, h1, decide_true, decide_false, gd_B, if_true, obs, bin_gtr, pickA_B, cond_B, Bool.false_eq_true, if_false]
        exact e
      · have hz : ((kd l[i] : Nat) : Int) = l[i].1 := by unfold kd; rw [if_neg (by omega)]; omega
        rw [hz] at e
        simp only [bin_lss, h0, h1, decide_false, gd_B, if_true, obs, bin_gtr, pickA_B, cond_B, Bool.false_eq_true, if_false]
        exact e

def cntR (l : List Ev) : List Int := if 200 < l.length then [] else cnts l
theorem call22 (lo : List Nat) (H : Heap) : ∃ n t, callA cfg O 22 [L nl tg l] lo H = some (.tup [V n t (cntR l), I (errL l)], H) := by
  unfold cntR errL
  by_cases hl : 200 < l.length
  · simp only [if_pos hl]
    refine ⟨some true, true, callA_args (H' := []) (rs := [_, _]) rfl rfl ?_ rfl⟩
    rw [f22_eq]
    simp only [lenA_sl, obs, bin_gtr, cond_B]
    rw [if_pos (by simp <;> omega)]
    rfl
  · simp only [if_neg hl]
    have hz : zerosA 18 [(.v (.int .i64 0) : PV)] = (cnts (l.take 0)).map Ia := rfl
    have hC : Cx ([] ++ [.row 0 1 ((cnts (l.take 0)).map Ia)]) [] [(.row 0 0 0 18, 1, 18, (cnts (l.take 0)).map Ia)] := (Cx.nil []).newRow (sz := 1) (m := 18) (cs := (cnts (l.take 0)).map Ia) rfl
    obtain ⟨n, t, H', e⟩ := loop22 (nl := nl) (tg := tg) (l := l) (by omega) [] _ 0 _ rfl (by omega) hC
    refine ⟨n, t, callA_args (H' := H') (rs := [_, _]) rfl rfl ?_ rfl⟩
    rw [f22_eq]
    simp only [lenA_sl, obs, bin_gtr, cond_B]
    rw [if_neg (by simp <;> omega)]
    have hm : mkRow 1 8 [(.v (.int .i64 0))] (I 18) (I 18) [] = some (.row 0 0 0 18, [] ++ [.row 0 1 ((cnts (l.take 0)).map Ia)]) := rfl
    simp only [hm, obs]
    exact e

end
end Go.Proofs.Ytangmjeafnkfaaa
