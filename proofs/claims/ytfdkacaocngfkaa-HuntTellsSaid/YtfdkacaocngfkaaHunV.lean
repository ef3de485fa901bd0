import Derived.Test.YtfdkacaocngfkaaHunU
set_option linter.unusedVariables false
set_option linter.unusedSimpArgs false
namespace Go.Proofs.Ytfdkacaocngfkaa
open Go Go.AM
namespace Hun

theorem Lst.rd {o : AV} {H : Heap} {m : Nat} {cs : List PV} (h : Lst 1 o H m cs) {k : Nat} (hk : k < m) : ∃ p, idxA 1 o (I k) = some p ∧ ld false 1 p H = (cs[k]?).map .p := by
  obtain ⟨hl, ⟨nl, rfl, h1⟩ | ⟨id, g, rfl, ho⟩⟩ := h
  · refine ⟨_, idxA_sl (by omega), ?_⟩
    rw [ld_fp]; simp
  · refine ⟨_, idxA_row (by omega), ?_⟩
    rw [ld_row ho]; simp

/-! ### Contains -/
theorem hasLoop {nl : Option Bool} {tg : Bool} {zs : List Int} {n : Int} (hb : zs.length < 2 ^ 63) : ∀ (c i : Nat), zs.length - i = c → i ≤ zs.length →
    ∃ z : Int, L87_6 [V nl tg zs, I n, I zs.length, I i] [] [] = some ([I z], []) ∧ decide (0 ≤ z) = decide (n ∈ zs.drop i) := by
  intro c
  induction c with
  | zero =>
    intro i hc hi
    have : i = zs.length := by omega
    subst this
    refine ⟨-1, ?_, by simp⟩
    rw [L87_6_eq]
    simp only [obs, oms, bin_add, bin_sub, bin_lss, bin_leq, bin_gtr, bin_geq, bin_eql, bin_neq, bin_eqlB, bin_neqB, un_not, cond_B, gd_B, gd_undef, gdH_B, gdH_undef, pickA_B, extractA_tup, lenA_sl, lenA_row, fldA_fp, fldA_ptr, fldA_rptr, List.getElem?_cons_zero, List.getElem?_cons_succ, decide_true, decide_false, if_true, if_false, Bool.true_eq_false, Bool.false_eq_true, Bool.not_true, Bool.not_false, leave0_I]
    rw [if_neg (by simp)]
  | succ c ih =>
    intro i hc hi
    have hi' : i < zs.length := by omega
    obtain ⟨z, h1, h2⟩ := ih (i + 1) (by omega) (by omega)
    have hm : n ∈ zs.drop i ↔ (n = zs[i] ∨ n ∈ zs.drop (i + 1)) := by rw [List.drop_eq_getElem_cons hi', List.mem_cons]
    rw [L87_6_eq]
    simp only [obs, oms, bin_add, bin_sub, bin_lss, bin_leq, bin_gtr, bin_geq, bin_eql, bin_neq, bin_eqlB, bin_neqB, un_not, cond_B, gd_B, gd_undef, gdH_B, gdH_undef, pickA_B, extractA_tup, lenA_sl, lenA_row, fldA_fp, fldA_ptr, fldA_rptr, List.getElem?_cons_zero, List.getElem?_cons_succ, decide_true, decide_false, if_true, if_false, Bool.true_eq_false, Bool.false_eq_true, Bool.not_true, Bool.not_false, leave0_I]
    rw [if_pos (by simp <;> omega), idxV hi']
    simp only [obs, oms, bin_add, bin_sub, bin_lss, bin_leq, bin_gtr, bin_geq, bin_eql, bin_neq, bin_eqlB, bin_neqB, un_not, cond_B, gd_B, gd_undef, gdH_B, gdH_undef, pickA_B, extractA_tup, lenA_sl, lenA_row, fldA_fp, fldA_ptr, fldA_rptr, List.getElem?_cons_zero, List.getElem?_cons_succ, decide_true, decide_false, if_true, if_false, Bool.true_eq_false, Bool.false_eq_true, Bool.not_true, Bool.not_false, ldV hi', leave0_I]
    by_cases e : n = zs[i]
    · refine ⟨i, by rw [if_pos (by simpa using e)], ?_⟩
      simp only [decide_eq_decide]
      rw [hm]
      exact ⟨fun _ => .inl e, fun _ => by omega⟩
    · refine ⟨z, ?_, ?_⟩
      · rw [if_neg (by simpa using e), wrap_id (by omega), nxt, h1]
      · rw [h2]
        simp only [decide_eq_decide]
        rw [hm]
        exact ⟨fun h => .inr h, fun h => h.resolve_left e⟩

theorem call87 {nl : Option Bool} {tg : Bool} {zs : List Int} {n : Int} (hb : zs.length < 2 ^ 63) (lo : List Nat) (H : Heap) : ∃ z : Int, callA cfg O 87 [V nl tg zs, I n] lo H = some (I z, H) ∧ decide (0 ≤ z) = decide (n ∈ zs) := by
  obtain ⟨z, h1, h2⟩ := hasLoop (nl := nl) (tg := tg) (n := n) hb _ 0 rfl (by omega)
  refine ⟨z, callA_args (H' := []) (rs := [I z]) rfl rfl ?_ rfl, by simpa using h2⟩
  rw [f87_eq]
  simp only [lenA_sl, obs]
  exact h1

theorem call74 {x : AV} {H : Heap} {zs : List Int} (hb : zs.length < 2 ^ 63) (hx : Src x H zs) (n : Int) (lo : List Nat) : callA cfg O 74 [x, I n] lo H = some (B (decide (n ∈ zs)), H) := by
  obtain ⟨nl, tg, b, hp⟩ := hx.pure
  refine callA_rows (H' := []) (rs := [B (decide (n ∈ zs))]) (ys := [V nl tg zs, I n]) (b := b || false) rfl ?_ ?_ rfl rfl
  · have : pureArg H (I n) = some (I n, false) := rfl
    simp only [pureArgs, hp, this, obs, oms, Bool.or_false]
  · rw [f74_eq]
    obtain ⟨z, h1, h2⟩ := call87 (nl := nl) (tg := tg) (n := n) hb [] []
    simp only [h1, obs, oms, bin_add, bin_sub, bin_lss, bin_leq, bin_gtr, bin_geq, bin_eql, bin_neq, bin_eqlB, bin_neqB, un_not, cond_B, gd_B, gd_undef, gdH_B, gdH_undef, pickA_B, extractA_tup, lenA_sl, lenA_row, fldA_fp, fldA_ptr, fldA_rptr, List.getElem?_cons_zero, List.getElem?_cons_succ, decide_true, decide_false, if_true, if_false, Bool.true_eq_false, Bool.false_eq_true, Bool.not_true, Bool.not_false, h2, leave0_B]

/-! ### The hunter -/
section
variable {l : List Dd}
noncomputable def bk (l : List Dd) (i : Nat) : PV := .sl (some false) false (flt l.length (rb l i)).length ((flt l.length (rb l i)).map Ia)
noncomputable def backs (l : List Dd) (k : Nat) : List PV := (List.range k).map (bk l)
theorem backs_len (k : Nat) : (backs l k).length = k := by simp [backs]
theorem backs_get {k i : Nat} (h : i < k) : (backs l k)[i]? = some (bk l i) := by simp [backs, h]

theorem flt_mem {N k : Nat} {q : Nat → Bool} : (k : Int) ∈ flt N q ↔ k < N ∧ q k = true := by
  simp only [flt, List.mem_map, List.mem_filter, List.mem_range]
  constructor
  · rintro ⟨m, ⟨h1, h2⟩, e⟩
    have : m = k := by omega
    subst this; exact ⟨h1, h2⟩
  · rintro ⟨h1, h2⟩; exact ⟨k, ⟨h1, h2⟩, rfl⟩
theorem flt_nat {N : Nat} {q : Nat → Bool} {n : Int} (h : n ∈ flt N q) : ∃ k : Nat, n = k ∧ k < N ∧ q k = true := by
  simp only [flt, List.mem_map, List.mem_filter, List.mem_range] at h
  obtain ⟨m, ⟨h1, h2⟩, e⟩ := h
  exact ⟨m, e.symm, h1, h2⟩

variable {fx : List (Nat × AObj)} {ls : List Ll} {hid : Nat} {o : AV}

/-- A version's own and all that it comes of, as the hunter has them. -/
theorem rdBack {H : Heap} (hC : Cx H fx ls) (ho : (o, 1, l.length, backs l l.length) ∈ ls) {k : Nat} (hk : k < l.length) :
    ∃ p, idxA 1 o (I k) = some p ∧ ld false 1 p H = some (V (some false) false (flt l.length (rb l k))) := by
  obtain ⟨p, e1, e2⟩ := Lst.rd (hC.lst _ ho) hk
  refine ⟨p, e1, ?_⟩
  rw [e2, backs_get hk]
  rfl

theorem ldBox {H : Heap} (hC : Cx H fx ls) {id : Nat} {y : AV} (h : (id, .box [y]) ∈ fx) : ld false 1 (.ptr id 0) H = some y := by
  rw [ld_box (hC.at h)]; rfl

theorem call78 {H : Heap} (hC : Cx H fx ls) {r nid : Nat} (h1 : (r, .box [.ptr hid 0]) ∈ fx) (h2 : (hid, .box [o]) ∈ fx) (ho : (o, 1, l.length, backs l l.length) ∈ ls) {n : Int} (h3 : (nid, .box [I n]) ∈ fx) (hN : l.length ≤ 200) {g : Nat} (hg : g < l.length) (lo : List Nat) :
    callV cfg O (.fn 78 [] [.ptr r 0, .ptr nid 0]) [I g] lo H = some (B (decide (n ∈ flt l.length (rb l g))), H) := by
  show callA cfg O 78 [I g, .ptr r 0, .ptr nid 0] lo H = _
  refine callA_keep (rs := [B (decide (n ∈ flt l.length (rb l g)))]) rfl ?_
  rw [f78_eq]
  obtain ⟨p, e1, e2⟩ := rdBack hC ho hg
  have hl := flt_len l.length (rb l g)
  simp only [ldBox hC h1, obs, nilCheckA, fldA_ptr, Nat.zero_add, ldBox hC h2, e1, e2, ldBox hC h3, call74 (show (flt l.length (rb l g)).length < 2 ^ 63 by omega) (Src.v (some false) false _ H) n lo]
  rfl

noncomputable def clears (l : List Dd) (gs : List Int) (n : Int) : Bool := gs.any fun g => decide (n ∈ flt l.length (rb l g.toNat))

theorem call76 {H : Heap} (hC : Cx H fx ls) {r gid : Nat} {x : AV} {gs : List Int} (h1 : (r, .box [.ptr hid 0]) ∈ fx) (h2 : (hid, .box [o]) ∈ fx) (ho : (o, 1, l.length, backs l l.length) ∈ ls) (h3 : (gid, .box [x]) ∈ fx) (hx : ∀ H, Cx H fx ls → Src x H gs)
    (hN : l.length ≤ 200) (hgl : gs.length < 2 ^ 63) (hgs : ∀ g ∈ gs, 0 ≤ g ∧ g < (l.length : Int)) (n : Int) (lo : List Nat) :
    callV cfg O (.fn 76 [] [.ptr gid 0, .ptr r 0]) [I n] lo H = some (B (clears l gs n), H ++ [.box [I n]]) := by
  show callA cfg O 76 [I n, .ptr gid 0, .ptr r 0] lo H = _
  refine callA_keep (rs := [B (clears l gs n)]) rfl ?_
  rw [f76_eq]
  have hC' := hC.newBox [I n]
  have hb : boxO [] (AV.cells (I n)) H = some (.ptr H.length 0, H ++ [.box [I n]]) := boxO_p [Ia n] H
  have hm : ∀ {q : Nat × AObj}, q ∈ fx → q ∈ (H.length, AObj.box [I n]) :: fx := fun h => List.mem_cons_of_mem _ h
  have h77 := call77 (x := x) (cl := .fn 78 [] [.ptr r 0, .ptr H.length 0]) (zs := gs) (lo := lo) (p := fun g => decide (n ∈ flt l.length (rb l g.toNat))) (H := H ++ [.box [I n]]) hgl (hx _ hC'.bt) (fun g hg => by
    obtain ⟨a, b⟩ := hgs g hg
    obtain ⟨k, rfl⟩ : ∃ k : Nat, g = k := ⟨g.toNat, by omega⟩
    exact call78 hC' (hm h1) (hm h2) ho (List.mem_cons_self ..) hN (by omega) lo)
  simp only [hb, obs, ldBox hC' (hm h3), h77]
  rfl

end
end Hun
end Go.Proofs.Ytfdkacaocngfkaa
