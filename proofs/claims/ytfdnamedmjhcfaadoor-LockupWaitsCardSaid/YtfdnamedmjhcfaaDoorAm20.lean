/-
Lists that are built by appending; loops over bytes.
-/
import Derived.Test.YtfdnamedmjhcfaaDoorAm19
set_option linter.unusedVariables false
set_option linter.unusedSimpArgs false
namespace Go.AM

/-- A list under way: m elements, these cells. -/
def Lst (sz : Nat) (out : AV) (H : Heap) (m : Nat) (cs : List PV) : Prop :=
  cs.length = m * sz ∧ ((∃ nl, out = .p (.sl nl true m cs) ∧ (nl = some true → m = 0)) ∨ ∃ id g, out = .row id g 0 m ∧ H[id]? = some (.row g sz cs))

theorem Lst.nil (sz : Nat) (H : Heap) : Lst sz (.p nilS) H 0 [] := ⟨by simp, .inl ⟨_, rfl, fun _ => rfl⟩⟩
theorem Lst.lit {sz : Nat} {H : Heap} {m : Nat} {cs : List PV} (h : cs.length = m * sz) : Lst sz (.p (.sl (some false) true m cs)) H m cs := ⟨h, .inl ⟨_, rfl, fun e => by cases e⟩⟩
theorem Lst.row {sz id g : Nat} {H : Heap} {m : Nat} {cs : List PV} (h : cs.length = m * sz) (ho : H[id]? = some (.row g sz cs)) : Lst sz (.row id g 0 m) H m cs := ⟨h, .inr ⟨_, _, rfl, ho⟩⟩

/-- Does a heap hold all that another one held, but for one row? -/
def Keeps (out : AV) (H H' : Heap) : Prop := H.length ≤ H'.length ∧ ∀ (j : Nat) o, H[j]? = some o → (∀ g n, out ≠ .row j g 0 n) → H'[j]? = some o

theorem Keeps.refl (out : AV) (H : Heap) : Keeps out H H := ⟨Nat.le_refl _, fun _ _ h _ => h⟩

theorem push_get? {H : Heap} {j : Nat} {o : AObj} (h : H[j]? = some o) (l : List AObj) : (H ++ l)[j]? = some o := by
  rw [List.getElem?_append_left (getElem?_lt h)]; exact h

theorem Lst.push {sz : Nat} {out : AV} {H : Heap} {m : Nat} {cs : List PV} (h : Lst sz out H m cs) (l : List AObj) : Lst sz out (H ++ l) m cs := by
  obtain ⟨hl, ⟨nl, rfl, h1⟩ | ⟨id, g, rfl, ho⟩⟩ := h
  · exact ⟨hl, .inl ⟨nl, rfl, h1⟩⟩
  · exact ⟨hl, .inr ⟨id, g, rfl, push_get? ho l⟩⟩

theorem Lst.set {sz : Nat} {out : AV} {H : Heap} {m : Nat} {cs : List PV} (h : Lst sz out H m cs) {j : Nat} {o : AObj} (hj : ∀ g n, out ≠ .row j g 0 n) : Lst sz out (H.set j o) m cs := by
  obtain ⟨hl, ⟨nl, rfl, h1⟩ | ⟨id, g, rfl, ho⟩⟩ := h
  · exact ⟨hl, .inl ⟨nl, rfl, h1⟩⟩
  · refine ⟨hl, .inr ⟨id, g, rfl, ?_⟩⟩
    have : j ≠ id := fun e => hj g m (by rw [e])
    rw [List.getElem?_set_ne this]; exact ho

theorem Lst.lt {sz : Nat} {out : AV} {H : Heap} {m : Nat} {cs : List PV} (h : Lst sz out H m cs) {j : Nat} (hj : H.length ≤ j) : ∀ g n, out ≠ .row j g 0 n := by
  obtain ⟨hl, ⟨nl, rfl, h1⟩ | ⟨id, g, rfl, ho⟩⟩ := h
  · intro g n e; cases e
  · intro g n e; cases e; have := getElem?_lt ho; omega

theorem Lst.app {sz bytes : Nat} {out y : AV} {H : Heap} {m k : Nat} {cs new : List PV} (h : Lst sz out H m cs) (hy : cellsA sz y H = some (k, new)) (hn : new.length = k * sz) (hk : 0 < k) (hr : (m + k) * bytes ≤ room) :
    ∃ out' H', appA sz bytes out y H = some (out', H') ∧ Lst sz out' H' (m + k) (cs ++ new) ∧ Keeps out H H' ∧ (∀ j, H.length ≤ j → H'.length ≤ j → ∀ g n, out' ≠ .row j g 0 n) ∧ (∀ j, j < H.length → (∀ g n, out ≠ .row j g 0 n) → ∀ g n, out' ≠ .row j g 0 n) ∧ ∃ id g, out' = .row id g 0 (m + k) ∧ H'[id]? = some (.row g sz (cs ++ new)) := by
  obtain ⟨hl, ⟨nl, rfl, h1⟩ | ⟨id, g, rfl, ho⟩⟩ := h
  · have hl2 : (cs ++ new).length = (m + k) * sz := by rw [List.length_append, hl, hn, Nat.add_mul]
    have key : appTo sz bytes (.p (.sl nl true m cs)) k new H = some (.row H.length 0 0 (m + k), H ++ [.row 0 sz (cs ++ new)]) := by
      have gen : (nl ≠ some true) → appTo sz bytes (.p (.sl nl true m cs)) k new H = some (.row H.length 0 0 (m + k), H ++ [.row 0 sz (cs ++ new)]) := by
        intro hnl
        have e : appTo sz bytes (.p (.sl nl true m cs)) k new H = if k = 0 ∧ 0 < m then some (.p (.sl nl true m cs), H) else if cs.length = m * sz ∧ (m = 0 ∨ 0 < k) ∧ (m + k) * bytes ≤ room then some (.row H.length 0 0 (m + k), H ++ [.row 0 sz (cs ++ new)]) else none := by
          cases nl with
          | none => rfl
          | some b => cases b with
            | true => exact (hnl rfl).elim
            | false => rfl
        rw [e, if_neg (by omega), if_pos ⟨hl, by omega, hr⟩]
      by_cases hnl : nl = some true
      · have hm := h1 hnl
        subst hm hnl
        have hc : cs = [] := List.length_eq_zero_iff.mp (by simpa using hl)
        subst hc
        simp only [Nat.zero_add] at hr
        simp [appTo, hr, Nat.pos_iff_ne_zero.mp hk]
      · exact gen hnl
    refine ⟨_, _, by simp only [appA, hy, Option.bind_some]; exact key, .row hl2 (by simp), ⟨by simp, fun j o hj _ => push_get? hj _⟩, fun j hj hj' g n e => ?_, fun j hj hj' g n e => ?_, _, _, rfl, by simp⟩
    · cases e; simp at hj'; omega
    · cases e; omega
  · have hl2 : (cs ++ new).length = (m + k) * sz := by rw [List.length_append, hl, hn, Nat.add_mul]
    have hlt := getElem?_lt ho
    refine ⟨.row id (g + 1) 0 (m + k), H.set id (.row (g + 1) sz (cs ++ new)), ?_, .row hl2 (by rw [List.getElem?_set_self hlt]), ⟨by simp, fun j o hj hne => ?_⟩, fun j hj hj' g' n e => ?_, fun j hj hj' g' n e => ?_, _, _, rfl, by rw [List.getElem?_set_self hlt]⟩
    · simp only [appA, hy, Option.bind_some, appTo, ho]
      rw [if_pos (by simp only [true_and]; exact ⟨by omega, hr⟩)]
      rw [List.drop_zero, List.take_of_length_le (by omega)]
    · have : id ≠ j := fun e => hne g m (by rw [e])
      rw [List.getElem?_set_ne this]; exact hj
    · cases e; omega
    · cases e; exact hj' g m rfl

theorem Lst.frz {sz : Nat} {out : AV} {H : Heap} {m : Nat} {cs : List PV} (h : Lst sz out H m cs) : ∃ nl tg H', frzA H out = some (.p (.sl nl tg m cs), H') := by
  obtain ⟨hl, ⟨nl, rfl, h1⟩ | ⟨id, g, rfl, ho⟩⟩ := h
  · exact ⟨nl, true, H, rfl⟩
  · refine ⟨if 0 < m then some false else none, false, H.set id (.row (g + 1) sz []), ?_⟩
    simp only [frzA, frzLeaf, toPV, ho, Nat.zero_add, hl, Nat.le_refl, and_self, if_true, Option.map_some]
    rw [List.drop_zero, List.take_of_length_le (by omega)]

theorem frzA_p (H : Heap) (x : PV) : frzA H (.p x) = some (.p x, H) := rfl

theorem leave0_all {lo : List Nat} {H H' : Heap} {xs : List AV} {ps : List PV} (h : frzAll H xs = some (ps.map .p, H')) : leave 0 lo xs H = some (ps.map .p, []) := by
  have hl : (ps.map AV.p).all (AV.ltd 0) = true := by
    simp only [List.all_eq_true, List.mem_map]
    rintro _ ⟨x, _, rfl⟩
    rfl
  simp only [leave, h, obs, hl, if_true]

theorem leave0_heap {lo : List Nat} {H H' : Heap} {xs rs : List AV} (h : leave 0 lo xs H = some (rs, H')) : H' = [] := by
  simp only [leave] at h
  rw [Option.bind_eq_some_iff] at h
  obtain ⟨q, _, h2⟩ := h
  split at h2
  · exact (congrArg (fun o => (o.map Prod.snd).getD []) h2).symm
  · cases h2

theorem Lst.leave1 {sz : Nat} {out : AV} {H : Heap} {m : Nat} {cs : List PV} (h : Lst sz out H m cs) (lo : List Nat) : ∃ nl tg H', leave 0 lo [out] H = some ([.p (.sl nl tg m cs)], H') := by
  obtain ⟨nl, tg, H', e⟩ := h.frz
  exact ⟨nl, tg, [], leave0_all (ps := [_]) (H' := H') (by simp [frzAll, e])⟩

theorem Lst.leave2 {sz : Nat} {out : AV} {H : Heap} {m : Nat} {cs : List PV} (h : Lst sz out H m cs) (lo : List Nat) (x : PV) : ∃ nl tg H', leave 0 lo [out, .p x] H = some ([.p (.sl nl tg m cs), .p x], H') := by
  obtain ⟨nl, tg, H', e⟩ := h.frz
  exact ⟨nl, tg, [], leave0_all (ps := [_, _]) (H' := H') (by simp only [frzAll, e, frzA_p, obs, oms, List.map_cons, List.map_nil])⟩

theorem Lst.leave3 {sz : Nat} {out : AV} {H : Heap} {m : Nat} {cs : List PV} (h : Lst sz out H m cs) (lo : List Nat) (x y : PV) : ∃ nl tg H', leave 0 lo [out, .p x, .p y] H = some ([.p (.sl nl tg m cs), .p x, .p y], H') := by
  obtain ⟨nl, tg, H', e⟩ := h.frz
  exact ⟨nl, tg, [], leave0_all (ps := [_, _, _]) (H' := H') (by simp only [frzAll, e, frzA_p, obs, oms, List.map_cons, List.map_nil])⟩

theorem Lst.len {sz : Nat} {out : AV} {H : Heap} {m : Nat} {cs : List PV} (h : Lst sz out H m cs) (H' : Heap) : lenA .slice out H' = some (I m) := by
  obtain ⟨hl, ⟨nl, rfl, h1⟩ | ⟨id, g, rfl, ho⟩⟩ := h <;> rfl

theorem Lst.cells {sz : Nat} {out : AV} {H : Heap} {m : Nat} {cs : List PV} (h : Lst sz out H m cs) : cellsA sz out H = some (m, cs) := by
  obtain ⟨hl, ⟨nl, rfl, h1⟩ | ⟨id, g, rfl, ho⟩⟩ := h
  · simp [cellsA, hl]
  · simp only [cellsA, ho, Nat.zero_add, hl, Nat.le_refl, and_self, if_true]
    rw [List.drop_zero, List.take_of_length_le (by omega)]

/-! ### More operations -/
theorem leave0_nil (lo : List Nat) (H : Heap) (x : PV) : leave 0 lo [.p x] H = some ([.p x], []) := rfl
theorem leave0_2 (lo : List Nat) (H : Heap) (x y : PV) : leave 0 lo [.p x, .p y] H = some ([.p x, .p y], []) := rfl
theorem leave0_3 (lo : List Nat) (H : Heap) (x y z : PV) : leave 0 lo [.p x, .p y, .p z] H = some ([.p x, .p y, .p z], []) := rfl
theorem leave0_agg (lo : List Nat) (H : Heap) (xs : List PV) (y : PV) : leave 0 lo [.agg (xs.map .p), .p y] H = some ([.agg (xs.map .p), .p y], []) := by
  have h : ∀ xs : List PV, frzLeaves H (xs.map .p) = some (xs.map .p, H) := by
    intro xs
    induction xs with
    | nil => rfl
    | cons x xs ih => simp [frzLeaves, frzLeaf, ih]
  have hl : (xs.map AV.p).all (AV.lt 0 5) = true := by
    simp only [List.all_eq_true, List.mem_map]
    rintro _ ⟨x, _, rfl⟩
    rfl
  simp [leave, frzAll, frzA, frzLeaf, h, AV.ltd, AV.lt]

/-- A variable in memory at the heap's end. -/
theorem boxO_p (xs : List PV) (H : Heap) : boxO [] (xs.map .p) H = some (.ptr H.length 0, H ++ [.box (xs.map .p)]) := by
  have : (xs.map AV.p).all AV.leaf = true := by simp [List.all_eq_true]; intro x _; rfl
  simp [boxO, this, boxA]

theorem ld_box {H : Heap} {id n off : Nat} {xs : List AV} (h : H[id]? = some (.box xs)) : ld false n (.ptr id off) H = xs[off]? := by
  cases xs with
  | nil => simp [ld, h]
  | cons => simp [ld, h, partA]

theorem ldS_ptr {agg : Bool} {n id off : Nat} {H : Heap} : ldS agg n (.ptr id off) H = ld agg n (.ptr id off) H := _root_.id rfl
theorem ldS_fp {agg : Bool} {n off : Nat} {xs : List PV} {H : Heap} : ldS agg n (.fp xs off) H = ld agg n (.fp xs off) H := _root_.id rfl

theorem ldAgg_box {H : Heap} {id n off : Nat} {xs : List AV} (h : H[id]? = some (.box xs)) (hn : off + n ≤ xs.length) (h0 : 0 < xs.length := by simp) : ld true n (.ptr id off) H = some (.agg ((xs.drop off).take n)) := by
  simp only [ld, h, partA, hn, h0, if_true]

theorem stA_box {H : Heap} {id n off : Nat} {xs : List AV} {y : AV} {lo : List Nat} (h : H[id]? = some (.box xs)) (h1 : y.cells.length = n) (h2 : off + n ≤ xs.length) (h3 : y.cells.all AV.leaf = true) (h4 : okLevels lo id y.cells = true) (h0 : 0 < xs.length := by simp) :
    stA n (.ptr id off) y lo H = some (H.set id (.box (splice xs off y.cells))) := by
  simp only [stA, h]
  rw [if_pos ⟨h1, h2, h0, h3, h4⟩]

theorem okLevels_p (lo : List Nat) (id : Nat) (xs : List PV) : okLevels lo id (xs.map .p) = true := by
  simp only [okLevels, List.all_eq_true]
  intro l _
  have : (xs.map AV.p).all (AV.ltd l) = true := by
    simp only [List.all_eq_true, List.mem_map]
    rintro _ ⟨x, _, rfl⟩
    rfl
  simp [this]

theorem stA_one {H : Heap} {id : Nat} {x0 : AV} {y : PV} {lo : List Nat} (h : H[id]? = some (.box [x0])) : stA 1 (.ptr id 0) (.p y) lo H = some (H.set id (.box [.p y])) :=
  stA_box (n := 1) (off := 0) (y := .p y) (xs := [x0]) h rfl (by simp) rfl (okLevels_p lo id [y])
theorem stA_oneA {H : Heap} {id : Nat} {x0 : AV} {y : PV} {lo : List Nat} (h : H[id]? = some (.box [x0])) : stA 1 (.ptr id 0) (.agg [.p y]) lo H = some (H.set id (.box [.p y])) :=
  stA_box (n := 1) (off := 0) (y := .agg [.p y]) (xs := [x0]) h rfl (by simp) rfl (okLevels_p lo id [y])

theorem stA_row {H : Heap} {id g off sz : Nat} {xs : List PV} {x : PV} {lo : List Nat} (h : H[id]? = some (.row g sz xs)) (h2 : off < xs.length) :
    stA 1 (.rptr id g off) (.p x) lo H = some (H.set id (.row g sz (xs.set off x))) := by
  simp only [stA, h]
  rw [if_pos ⟨by trivial, by rfl, by omega⟩]
  simp only [AV.cells, toPVs, toPV, obs, oms, h, and_self, if_true, splice]

theorem ld_row {H : Heap} {id g off sz n : Nat} {xs : List PV} (h : H[id]? = some (.row g sz xs)) : ld false n (.rptr id g off) H = (xs[off]?).map .p := by
  simp [ld, h, partP]

/-- A pure call that reads rows of the caller's own. -/
theorem callA_rows {cfg : Cfg} {O : Oracle} {g : FuncId} {xs ys : List AV} {b : Bool} {lo : List Nat} {H H' : Heap} {rs : List AV} (hm : cfg.mode g = 0) (hp : pureArgs H xs = some (ys, b)) (h : O.ent g ys [] [] = some (rs, H')) (hr : rs.all (AV.ltd 0) = true) (hs : rs.all scalarA = true) :
    callA cfg O g xs lo H = some (ret rs, H) := by
  unfold callA
  rw [hm]
  simp only [hp, Option.bind_some, h, hr, hs, Bool.or_true, Bool.and_true, if_true]

theorem callA_keep {cfg : Cfg} {O : Oracle} {g : FuncId} {xs : List AV} {lo : List Nat} {H H' : Heap} {rs : List AV} (hm : cfg.mode g = 1) (h : O.ent g xs lo H = some (rs, H')) : callA cfg O g xs lo H = some (ret rs, H') := by
  unfold callA
  rw [hm]
  simp only [h, oms]

theorem callA_same {cfg : Cfg} {O : Oracle} {g : FuncId} {xs : List AV} {lo : List Nat} {H : Heap} {rs : List AV} (hm : cfg.mode g = 3) (h : O.ent g xs lo H = some (rs, H)) : callA cfg O g xs lo H = some (ret rs, H) := by
  unfold callA
  rw [hm]
  simp only [h, obs, sameH, if_true]

theorem leave3_B (lo : List Nat) (H : Heap) (b : Bool) : leave 3 (H.length :: lo) [B b] H = some ([B b], H) := by
  have e : leave 3 (H.length :: lo) [B b] H = some ([B b], H.take H.length) := rfl
  rw [e, List.take_length]

/-- Two lists of which neither is the other's row. -/
def Sep (a b : AV) : Prop := ∀ j g n g' n', a = .row j g 0 n → b ≠ .row j g' 0 n'

theorem Lst.keep {sz : Nat} {a b : AV} {H H' : Heap} {m : Nat} {cs : List PV} (h : Lst sz b H m cs) (hk : Keeps a H H') (hs : Sep a b) : Lst sz b H' m cs := by
  obtain ⟨hl, ⟨nl, rfl, h1⟩ | ⟨id, g, rfl, ho⟩⟩ := h
  · exact ⟨hl, .inl ⟨nl, rfl, h1⟩⟩
  · exact ⟨hl, .inr ⟨id, g, rfl, hk.2 id _ ho fun g' n e => hs id g' n g m e rfl⟩⟩

theorem Sep.app {sz : Nat} {a a' b : AV} {H : Heap} {m : Nat} {cs : List PV} (h : Lst sz b H m cs) (hs : Sep a b) (h6 : ∀ j, j < H.length → (∀ g n, a ≠ .row j g 0 n) → ∀ g n, a' ≠ .row j g 0 n) : Sep a' b := by
  intro j g n g' n' e e'
  obtain ⟨hl, ⟨nl, rfl, h1⟩ | ⟨id, q, rfl, ho⟩⟩ := h
  · cases e'
  · cases e'
    exact h6 j (getElem?_lt ho) (fun g'' n'' e'' => hs j g'' n'' _ _ e'' rfl) _ _ e

theorem Sep.symm {a b : AV} (h : Sep a b) : Sep b a := fun j g n g' n' e e' => h j _ _ _ _ e' e
theorem Sep.nil (a : AV) (x : PV) : Sep a (.p x) := fun _ _ _ _ _ _ e => by cases e

theorem pureArgs_row {H : Heap} {id g off n sz : Nat} {xs : List PV} (h : H[id]? = some (.row g sz xs)) (hl : off + n * sz ≤ xs.length) : pureArgs H [.row id g off n] = some ([.p (.sl none false n ((xs.drop off).take (n * sz)))], true) := by
  simp [pureArgs, pureArg, pureLeaf, h, hl]

theorem cutA_row_hi {sz id g n : Nat} {h : Int} {H : Heap} {g' : Nat} {xs : List PV} (ho : H[id]? = some (.row g' sz xs)) (hb : 0 ≤ h ∧ h ≤ n) : cutA sz (.row id g 0 n) none (some (I h)) none H = some (.row id g 0 h.toNat) := by
  simp only [cutA, bnd, asI, Option.bind_some, ho]
  rw [if_pos (by simp; omega)]
  simp

theorem drop_set {α : Type} {l : List α} {j : Nat} {x : α} (h : j < l.length) : (l.set j x).drop j = x :: l.drop (j + 1) := by
  rw [List.drop_eq_getElem_cons (by simpa using h), List.getElem_set_self, List.drop_set_of_lt (by omega)]

/-! ### Slices of slices -/
theorem cutA_sl {sz n : Nat} {nl : Option Bool} {t : Bool} {xs : List PV} {l h : Int} {H : Heap} (hb : 0 ≤ l ∧ l ≤ h ∧ h ≤ n) : cutA sz (.p (.sl nl t n xs)) (some (I l)) (some (I h)) none H =
    some (.p (.sl nl (t && decide (h = n)) (h.toNat - l.toNat) ((xs.drop (l.toNat * sz)).take ((h.toNat - l.toNat) * sz)))) := by
  simp only [cutA, bnd, asI, Option.bind_some]
  rw [if_pos hb]
theorem cutA_lo {sz n : Nat} {nl : Option Bool} {t : Bool} {xs : List PV} {l : Int} {H : Heap} (hb : 0 ≤ l ∧ l ≤ n) : cutA sz (.p (.sl nl t n xs)) (some (I l)) none none H =
    some (.p (.sl nl t (n - l.toNat) ((xs.drop (l.toNat * sz)).take ((n - l.toNat) * sz)))) := by
  simp only [cutA, bnd, asI, Option.bind_some]
  rw [if_pos (by omega)]
  simp
theorem cutA_hi {sz n : Nat} {nl : Option Bool} {t : Bool} {xs : List PV} {h : Int} {H : Heap} (hb : 0 ≤ h ∧ h ≤ n) : cutA sz (.p (.sl nl t n xs)) none (some (I h)) none H =
    some (.p (.sl nl (t && decide (h = n)) h.toNat (xs.take (h.toNat * sz)))) := by
  simp only [cutA, bnd, asI, Option.bind_some]
  rw [if_pos (by omega)]
  simp

end Go.AM
