import Derived.Test.YtfdkacaocngfkaaHunW
set_option linter.unusedVariables false
set_option linter.unusedSimpArgs false
namespace Go.Proofs.Ytfdkacaocngfkaa
open Go Go.AM
namespace Hun

theorem bests_max (x y : Int) : bests true (I x) [I y] = some (I (max x y)) := by
  simp only [bests, best, if_true, Option.bind_some]
  congr 2
  rw [Int.max_def]
  split <;> split <;> simp_all <;> omega
theorem bests_min (x y : Int) : bests false (I x) [I y] = some (I (min x y)) := by
  simp only [bests, best, if_true, Option.bind_some, Bool.false_eq_true, if_false]
  congr 2
  rw [Int.min_def]
  split <;> split <;> simp_all <;> omega

def Kn (nl : Option Bool) (zs : List Int) : Prop := nl = some false ∨ (nl = some true ∧ zs = [])

theorem ia_cells (zs : List Int) : (zs.map Ia).length = zs.length * 1 := by simp

theorem app0 {x : AV} {H : Heap} {zs : List Int} (hb : zs.length < 2 ^ 40) (hc : cellsA 1 x H = some (zs.length, zs.map Ia)) : appA 1 8 (.p (.sl (some false) true 0 [])) x H = some (.row H.length 0 0 zs.length, H ++ [.row 0 1 (zs.map Ia)]) := by
  simp only [appA, hc, obs, appTo]
  rw [if_neg (by omega), if_pos (by simp only [room]; simp; omega)]
  simp

section
variable {l : List Dd} {fx : List (Nat × AObj)} {ls : List Ll} {hid : Nat} {o : AV}

theorem call55 {nl : Option Bool} {tg : Bool} {zs : List Int} (hb : zs.length < 2 ^ 40) (hk : Kn nl zs) {H : Heap} (hC : Cx H fx ls) (lo : List Nat) :
    ∃ x H', callA cfg O 55 [V nl tg zs] lo H = some (x, H') ∧ Cx H' fx ((x, 1, zs.length, zs.map Ia) :: ls) ∧ (nl = some false → ∃ id g, x = .row id g 0 zs.length) := by
  rcases hk with rfl | ⟨rfl, rfl⟩
  · refine ⟨.row H.length 0 0 zs.length, H ++ [.row 0 1 (zs.map Ia)], callA_keep (rs := [_]) rfl ?_, hC.newRow (ia_cells zs), fun _ => ⟨_, _, rfl⟩⟩
    rw [f55_eq]
    have e : bin .eql .slice (V (some false) tg zs) (.p nilS) = some (B false) := rfl
    have e2 : litA false 1 [] H = some (.p (.sl (some false) true 0 []), H) := rfl
    have hc : cellsA 1 (V (some false) tg zs) H = some (zs.length, zs.map Ia) := by simp [cellsA]
    simp only [e, obs, oms, bin_add, bin_sub, bin_lss, bin_leq, bin_gtr, bin_geq, bin_eql, bin_neq, bin_eqlB, bin_neqB, un_not, cond_B, gd_B, gd_undef, gdH_B, gdH_undef, pickA_B, extractA_tup, lenA_sl, lenA_row, fldA_fp, fldA_ptr, fldA_rptr, List.getElem?_cons_zero, List.getElem?_cons_succ, decide_true, decide_false, if_true, if_false, Bool.true_eq_false, Bool.false_eq_true, Bool.not_true, Bool.not_false, e2, app0 hb hc]
    rfl
  · refine ⟨.p nilS, H, callA_keep (rs := [_]) rfl ?_, hC.newNil 1, fun h => by cases h⟩
    rw [f55_eq]
    have e : bin .eql .slice (V (some true) tg []) (.p nilS) = some (B true) := rfl
    simp only [e, obs, oms, bin_add, bin_sub, bin_lss, bin_leq, bin_gtr, bin_geq, bin_eql, bin_neq, bin_eqlB, bin_neqB, un_not, cond_B, gd_B, gd_undef, gdH_B, gdH_undef, pickA_B, extractA_tup, lenA_sl, lenA_row, fldA_fp, fldA_ptr, fldA_rptr, List.getElem?_cons_zero, List.getElem?_cons_succ, decide_true, decide_false, if_true, if_false, Bool.true_eq_false, Bool.false_eq_true, Bool.not_true, Bool.not_false]
    rfl

/-! ### suspects -/
def sus (l : List Dd) (b : Nat) (gs : List Int) (k : Nat) : Prop := Reach l b k ∧ ∀ g ∈ gs, ¬ Reach l g.toNat k
open Classical in
noncomputable def sb (l : List Dd) (b : Nat) (gs : List Int) (k : Nat) : Bool := rb l b k && !(gs.any fun g => rb l g.toNat k)
noncomputable def ss (l : List Dd) (b : Nat) (gs : List Int) : List Int := flt l.length (sb l b gs)

theorem ss_len (b : Nat) (gs : List Int) : (ss l b gs).length ≤ l.length := flt_len _ _

theorem ss_eq (b : Nat) (gs : List Int) : (flt l.length (rb l b)).filter (fun n => !clears l gs n) = ss l b gs := by
  unfold ss flt
  rw [List.filter_map, List.filter_filter]
  congr 1
  refine List.filter_congr fun k hk => ?_
  have hk' : k < l.length := by simpa using hk
  have : clears l gs (k : Int) = gs.any fun g => rb l g.toNat k := by
    unfold clears
    congr 1
    funext g
    rw [Bool.eq_iff_iff, decide_eq_true_eq, flt_mem]
    exact ⟨fun h => h.2, fun h => ⟨hk', h⟩⟩
  simp only [Function.comp, this, sb, Bool.and_comm]

theorem boxO1 {x : AV} (h : x.cells = [x] ∧ x.leaf = true) (H : Heap) : boxO [] (AV.cells x) H = some (.ptr H.length 0, H ++ [.box [x]]) := by
  rw [h.1]
  have : [x].all AV.leaf = true := by simp [h.2]
  simp [boxO, this, boxA]

theorem Src.leaf {x : AV} {H : Heap} {zs : List Int} (h : Src x H zs) : x.cells = [x] ∧ x.leaf = true := by
  obtain ⟨nl, tg, rfl⟩ | ⟨id, g, tail, rfl, _⟩ := h <;> exact ⟨rfl, rfl⟩

theorem call61 {H : Heap} (hC : Cx H fx ls) {x : AV} {gs : List Int} (h2 : (hid, .box [o]) ∈ fx) (ho : (o, 1, l.length, backs l l.length) ∈ ls) (hx : ∀ H, Cx H fx ls → Src x H gs)
    (hN : l.length ≤ 200) (hgl : gs.length < 2 ^ 40) (hgs : ∀ g ∈ gs, 0 ≤ g ∧ g < (l.length : Int)) {b : Nat} (hb : b < l.length) :
    ∃ H' id g m tail, callA cfg O 61 [.ptr hid 0, I b, x] [] H = some (.row id g 0 (ss l b gs).length, H') ∧ Cx H' fx ((.row id g 0 m, 1, m, (ss l b gs).map Ia ++ tail) :: ls) := by
  have hC1 := hC.newBox [.ptr hid 0]
  have hC2 := hC1.newBox [x]
  have b1 : boxO [] (AV.cells (.ptr hid 0)) H = some (.ptr H.length 0, H ++ [.box [.ptr hid 0]]) := boxO1 ⟨rfl, rfl⟩ H
  have b2 := boxO1 (hx _ hC1.bt).leaf (H ++ [.box [.ptr hid 0]])
  have hm : ∀ {q : Nat × AObj}, q ∈ fx → q ∈ ((H ++ [AObj.box [.ptr hid 0]]).length, AObj.box [x]) :: (H.length, AObj.box [.ptr hid 0]) :: fx := fun h => List.mem_cons_of_mem _ (List.mem_cons_of_mem _ h)
  obtain ⟨p, e1, e2⟩ := rdBack hC2 ho hb
  have hfl := flt_len l.length (rb l b)
  obtain ⟨y, H3, e3, hC3, hy⟩ := call55 (nl := some false) (tg := false) (zs := flt l.length (rb l b)) (by omega) (.inl rfl) hC2 []
  obtain ⟨id, g, rfl⟩ := hy rfl
  obtain ⟨H4, tail, e4, hC4⟩ := call75 (p := clears l gs) (cl := .fn 76 [] [.ptr (H ++ [AObj.box [.ptr hid 0]]).length 0, .ptr H.length 0]) (by omega) (fun n hn H' h => ⟨_, call76 h (r := H.length) (gid := (H ++ [AObj.box [.ptr hid 0]]).length) (x := x) (gs := gs) (o := o) (hid := hid) (by simp) (hm h2) ho (by simp) (fun H h => hx H h.bt.bt) hN (by omega) hgs n []⟩) hC3
  rw [ss_eq] at e4 hC4
  refine ⟨H4, id, g, _, tail, callA_keep (rs := [_]) rfl ?_, hC4.bt.bt⟩
  rw [f61_eq]
  simp only [b1, obs, b2, ldBox hC2 (List.mem_cons_of_mem _ (List.mem_cons_self ..)), nilCheckA, fldA_ptr, Nat.zero_add, ldBox hC2 (hm h2), e1, e2, e3, e4]
  rfl
end
end Hun
end Go.Proofs.Ytfdkacaocngfkaa
