/-
copy, make, literals, new variables, strings as bytes.
-/
import Derived.Test.YtfdnamedmjhcfaaDoorAm7
set_option linter.unusedVariables false
set_option linter.unusedSimpArgs false
set_option linter.unnecessarySimpa false
set_option linter.unusedSectionVars false
namespace Go.AM
variable [Know]
section
variable {P : Program} {H : Heap} {β : Beta} {F : Frz} {w : World}

theorem appA_sound (hI : Inv H β F w) {t0 t1 e ty : TypeId} {d1 : TypeDesc} (h0 : P.underlying t0 = some (.slice e)) (hok : elemOk P e = true) (h1 : P.underlying t1 = some d1) (hd1 : (∃ e', d1 = .slice e') ∨ d1 = .string)
    {X Y C : AV} {H' : Heap} {vx vy : Value} (h : appA (P.cellsOf e) (P.bytesOf e) X Y H = some (C, H')) (hx : RA H β F w vx X) (hy : RA H β F w vy Y) :
    Runs P H β F w (Builtin.append_ #[t0, t1] ty #[vx, vy]) C H' := by
  unfold appA at h
  rw [Option.bind_eq_some_iff] at h
  obtain ⟨⟨k, new⟩, hc, h⟩ := h
  obtain ⟨c1, c2, vs, c3, c4⟩ := cellsA_sound (P := P) hI hc hy
  have hl : vs.length = k * P.cellsOf e := by rw [c3.get.1]; exact c1
  have c5 := c4 k (Nat.le_refl _)
  rw [List.take_of_length_le (by omega)] at c5
  obtain ⟨d, i, z, hd, hi, hz, hzs, hzl, hb1, hb2⟩ := elemOk_inv hok
  exact appTo_sound hI h0 hok h hx c1 c3 (.cells h0 hd h1 hd1 c2 c5)

theorem RPs.take {vs : List Value} {xs : List PV} (h : RPs F w vs xs) : ∀ m, RPs F w (vs.take m) (xs.take m) := by
  induction h with
  | nil => intro m; simp; exact .nil
  | cons h _ ih =>
    intro m
    cases m with
    | zero => exact .nil
    | succ m => exact .cons h (ih m)

theorem copyA_sound (hI : Inv H β F w) {t0 e ty : TypeId} {d : TypeDesc} {ts : Array TypeId} (hts : ts[0]? = some t0) (h0 : P.underlying t0 = some (.slice e)) (hd : P.underlying e = some d)
    {X Y C : AV} {H' : Heap} {vx vy : Value} (h : copyA (P.cellsOf e) X Y H = some (C, H')) (hx : RA H β F w vx X) (hy : RA H β F w vy Y) :
    Runs P H β F w (Builtin.copy_ ts ty #[vx, vy]) C H' := by
  unfold copyA at h
  split at h
  · rename_i id g off n
    split at h
    · rename_i g' sz' xs ho
      split at h
      · rename_i hc
        obtain ⟨rfl, rfl, hle⟩ := hc
        rw [Option.bind_eq_some_iff] at h
        obtain ⟨⟨k, new⟩, hcell, h⟩ := h
        cases h
        have hcell' : cellsA (P.cellsOf e) Y H = some (k, new) := hcell
        obtain ⟨c1, c2, vs, c3, c4⟩ := cellsA_sound (P := P) hI hcell' hy
        have hvl : vs.length = k * P.cellsOf e := by rw [c3.get.1]; exact c1
        have c5 := (c4 (min k n) (Nat.min_le_left _ _)).1
        have hmul : min k n * P.cellsOf e ≤ n * P.cellsOf e := Nat.mul_le_mul_right _ (Nat.min_le_right _ _)
        have hmul2 : min k n * P.cellsOf e ≤ k * P.cellsOf e := Nat.mul_le_mul_right _ (Nat.min_le_left _ _)
        have htl : (vs.take (min k n * P.cellsOf e)).length = min k n * P.cellsOf e := by rw [List.length_take]; omega
        have hnl : (new.take (min k n * P.cellsOf e)).length = min k n * P.cellsOf e := by rw [List.length_take]; omega
        have htk : RPs F w (vs.take (min k n * P.cellsOf e)) (new.take (min k n * P.cellsOf e)) := c3.take _
        have hrun : ∀ (base : Option Addr) (cap : Nat), (Builtin.copy_ ts ty #[.slice base n cap, vy]).run P w =
            ((match base with | some a => (storeCells a (vs.take (min k n * P.cellsOf e))).run P w | none => .ok () w) : Result Unit).andThen fun _ w' => .ok (goInt (min k n : Nat)) w' := by
          intro base cap
          cases base <;> simp [Builtin.copy_, hts, run_underlying h0, run_sizeOf hd, c2, c5]
        cases hx with
        | row hl ho' hg hr0 =>
          rw [ho] at ho'
          cases ho'
          have hr' := hr0 rfl
          unfold RowAt at hr'
          split at hr'
          · rename_i hβ
            obtain ⟨rfl, rfl, h3, a, rfl, hsp⟩ := hr'
            have hx0 : xs = [] := List.length_eq_zero_iff.mp h3
            subst hx0
            have e1 : new.take (min k 0 * P.cellsOf e) = [] := List.length_eq_zero_iff.mp (by rw [hnl]; simp)
            have e2 : vs.take (min k 0 * P.cellsOf e) = [] := List.length_eq_zero_iff.mp (by rw [htl]; simp)
            rw [e1]
            obtain ⟨i1, i2⟩ := Inv.update (F' := F) (o' := .row g' (P.cellsOf e) (splice [] 0 [])) (nb := none) hI ho (Touch.refl w _) (fun b s t e => by cases e) ⟨rfl, Nat.le_refl _, fun _ => ⟨rfl, by rw [updB_same, hβ]⟩⟩ (fun _ _ h => h) (fun _ _ h => .inl h) hI.fz (fun hE => .inl ⟨rfl, updB_same _ _ _⟩)
            refine ⟨_, w, _, F, ?_, .of_leafy rfl, i1, i2⟩
            rw [hrun, e2]
            cases a <;> simp [storeCells, goInt]
          · rename_i b s t hb
            obtain ⟨A, cap, rfl, hA, h5, h6, h7⟩ := hr'
            rcases hI.obj id _ ho with ⟨_, k1⟩ | ⟨b', s', t'', c, e1, k1, k2, k3, k4, k5⟩
            · rw [hb] at k1; cases k1
            · rw [hb] at k1
              cases k1
              have hst : ∃ w' c', (storeCells A (vs.take (min k n * P.cellsOf e))).run P w = .ok () w' ∧ w'.heap[b]? = some (.cells c' e1 (0, 0)) ∧ c'.size = c.size ∧ Touch w w' (fun k => k = b) ∧
                  ∀ j, c'.getD j undef = if s + off ≤ j ∧ j < s + off + (vs.take (min k n * P.cellsOf e)).length then (vs.take (min k n * P.cellsOf e)).getD (j - (s + off)) undef else c.getD j undef := by
                rcases hA with rfl | ⟨rfl, rfl, hsp⟩
                · obtain ⟨w', c', r1, r2, r3, r4, r5⟩ := storeCells_run (P := P) (o := s + off) (vs.take (min k n * P.cellsOf e)) 0 w c k2 htk.leafy (by rw [htl]; omega)
                  exact ⟨w', c', r1, r2, r3, r4, r5⟩
                · have e2 : vs.take (min k 0 * P.cellsOf e) = [] := List.length_eq_zero_iff.mp (by rw [htl]; simp)
                  rw [e2]
                  exact ⟨w, c, by simp [storeCells], k2, rfl, Touch.refl _ _, fun j => by rw [if_neg (by simp)]⟩
              obtain ⟨w', c', r1, r2, r3, r4, r5⟩ := hst
              have hT := r4.own (β := β) hb
              obtain ⟨i1, i2⟩ := Inv.update (w' := w') (F' := F) (o' := .row g' (P.cellsOf e) (splice xs off (new.take (min k n * P.cellsOf e)))) (nb := β id) hI ho hT (fun b2 s2 t2 e2 => ⟨.inr ⟨s2, t2, e2⟩, fun j => hI.own _ _ _ _ _ e2⟩)
                ⟨rfl, Nat.le_refl _, fun _ => ⟨splice_length _ _ _, updB_same _ _ _⟩⟩ (fun _ _ h => h) (fun _ _ h => .inl h) (fz_later hI hb r4) (fun hE => by
                  refine .inr ⟨b, s, t, c', e1, by rw [updB_same, hb], r2, r3.trans k3, by rw [splice_length]; exact k4, fun i hi => ?_⟩
                  rw [splice_length] at hi
                  have hg := splice_get (new.take (min k n * P.cellsOf e)) xs off i (by omega)
                  rw [List.getElem?_eq_getElem (by rw [splice_length]; exact hi)] at hg
                  rw [r5 (s + i)]
                  by_cases hin : off ≤ i ∧ i < off + (new.take (min k n * P.cellsOf e)).length
                  · rw [if_pos hin] at hg
                    rw [if_pos (by omega)]
                    have hk : i - off < (new.take (min k n * P.cellsOf e)).length := by omega
                    rw [List.getElem?_eq_getElem hk] at hg
                    simp only [Option.some.injEq] at hg
                    rw [hg]
                    have := (htk.get.2 _ hk).ext hI hE
                    have e1 : s + i - (s + off) = i - off := by omega
                    rw [e1]
                    exact this
                  · rw [if_neg hin] at hg
                    rw [if_neg (by omega)]
                    rw [List.getElem?_eq_getElem hi] at hg
                    simp only [Option.some.injEq] at hg
                    rw [hg]
                    exact (k5 i hi).ext hI hE)
              refine ⟨_, w', _, F, ?_, .of_leafy rfl, i1, i2⟩
              rw [hrun]
              simp only [r1, Result.andThen_ok]
              rfl
      · cases h
    · cases h
  · cases h


/-! ### Zeros -/
theorem pvCells_inv : ∀ (l : List AV) (q : List PV), pvCells l = some q → l = q.map .p := by
  intro l
  induction l with
  | nil => intro q h; cases h; rfl
  | cons x l ih =>
    intro q h
    unfold pvCells at h
    split at h
    · rename_i e; cases e
    · rename_i y ys e
      cases e
      rw [Option.map_eq_some_iff] at h
      obtain ⟨r, hr, rfl⟩ := h
      rw [ih r hr]
      rfl
    · cases h

theorem ofValue_cells (z : Value) (hz : ∀ v ∈ z.cells.toList, leafyV v = true) : (ofValue z).cells = z.cells.toList.map fun v => .p (pvOf v) := by
  have lf : ∀ v, leafyV v = true → leafOf v = .p (pvOf v) := by
    intro v hv
    cases v <;> first | rfl | cases hv
  unfold ofValue
  split
  · rename_i cs
    simp only [AV.cells, Value.cells] at hz ⊢
    exact List.map_congr_left fun v hv => lf v (hz v hv)
  · rename_i h
    have hc : z.cells = #[z] := by cases z <;> first | rfl | exact (h _ rfl).elim
    have hl : leafyV z = true := hz z (by rw [hc]; simp)
    rw [lf z hl, hc]
    rfl

theorem zeroCells_inv {e : TypeId} {i : TypeInfo} {z : Value} {q : List PV} (hi : P.info? e = some i) (hz : i.zero = some z) (hl : ∀ v ∈ z.cells.toList, leafyV v = true) (h : zeroCellsOf P e = some q) : q = z.cells.toList.map pvOf := by
  unfold zeroCellsOf zeroOf at h
  simp only [hi, hz, Option.map_some, Option.bind_some] at h
  rw [ofValue_cells z hl] at h
  have := pvCells_inv _ _ h
  have h2 := congrArg (List.map fun x : AV => match x with | .p y => y | _ => nilS) this
  simp only [List.map_map] at h2
  have e1 : (List.map ((fun x : AV => match x with | .p y => y | _ => nilS) ∘ fun v => AV.p (pvOf v)) z.cells.toList) = z.cells.toList.map pvOf := List.map_congr_left fun _ _ => rfl
  have e2 : (List.map ((fun x : AV => match x with | .p y => y | _ => nilS) ∘ AV.p) q) = q := by
    conv => rhs; rw [← List.map_id q]
    exact List.map_congr_left fun _ _ => rfl
  rw [e1, e2] at h2
  exact h2.symm

theorem RPs.replicate {vs : List Value} {xs : List PV} (h : RPs F w vs xs) (n : Nat) : RPs F w (List.replicate n vs).flatten (List.replicate n xs).flatten := by
  induction n with
  | zero => exact .nil
  | succ n ih => rw [List.replicate_succ, List.replicate_succ, List.flatten_cons, List.flatten_cons]; exact h.append ih

theorem pvOf_all : ∀ (l : List Value), (∀ v ∈ l, leafyV v = true) → RPs F w l (l.map pvOf) := by
  intro l
  induction l with
  | nil => intro _; exact .nil
  | cons v l ih => intro h; exact .cons (pvOf_sound v (h v (by simp))) (ih fun x hx => h x (by simp [hx]))

theorem flatten_replicate_get {α : Type} (l : List α) : ∀ (n i : Nat), i < n * l.length → (List.replicate n l).flatten[i]? = l[i % l.length]? := by
  intro n
  induction n with
  | zero => intro i h; omega
  | succ n ih =>
    intro i h
    rw [List.replicate_succ, List.flatten_cons]
    rw [Nat.succ_mul] at h
    by_cases hi : i < l.length
    · rw [List.getElem?_append_left hi, Nat.mod_eq_of_lt hi]
    · rw [List.getElem?_append_right (by omega), ih _ (by omega)]
      congr 1
      rw [← Nat.mod_eq_sub_mod (by omega)]

/-- The zeros of a make. -/
theorem range_zeros (zs : Array Value) (n m : Nat) (hm : n * zs.size ≤ m) : ∀ i, i < n * zs.size → ((Array.range m).map fun j => zs[j % zs.size]!).getD (0 + i) undef = (List.replicate n zs.toList).flatten.getD i undef := by
  intro i hi
  have hpos : 0 < zs.size := by
    rcases Nat.eq_zero_or_pos zs.size with h | h
    · rw [h] at hi; omega
    · exact h
  rw [List.getD_eq_getElem?_getD, flatten_replicate_get _ _ _ (by simpa using hi)]
  have h1 : i % zs.size < zs.size := Nat.mod_lt _ hpos
  simp [Array.getD, show i < m by omega, h1]

theorem mkRow_sound (hI : Inv H β F w) {t e : TypeId} (h0 : P.underlying t = some (.slice e)) (hok : elemOk P e = true) {q : List PV} (hq : zeroCellsOf P e = some q)
    {L K C : AV} {H' : Heap} {vl vk : Value} (h : mkRow (P.cellsOf e) (P.bytesOf e) q L K H = some (C, H')) (hl : RA H β F w vl L) (hk : RA H β F w vk K) :
    Runs P H β F w (Instr.makeSlice t vl vk) C H' := by
  obtain ⟨d, i, z, hd, hi, hz, hzs, hzl, hb1, hb2⟩ := elemOk_inv hok
  have hq' := zeroCells_inv hi hz hzl hq
  unfold mkRow at h
  rw [Option.bind_eq_some_iff] at h
  obtain ⟨l, h1, h⟩ := h
  rw [Option.bind_eq_some_iff] at h
  obtain ⟨k, h2, h⟩ := h
  obtain ⟨kl, rfl⟩ := asI_inv h1
  obtain ⟨kk, rfl⟩ := asI_inv h2
  cases hl.v_inv.1
  cases hk.v_inv.1
  split at h
  · rename_i hc
    obtain ⟨c1, c2, c3⟩ := hc
    cases h
    rw [hb1] at c3
    unfold room at c3
    have hbp : (1 : Int) ≤ i.bytes := by omega
    have hk47 : k ≤ 140737488355328 := by
      have : k * 1 ≤ k * (i.bytes : Int) := Int.mul_le_mul_of_nonneg_left hbp (by omega)
      omega
    have wk : IntKind.i64.wrap k = k := by simp [IntKind.wrap, IntKind.bits, IntKind.signed]; omega
    have wl : IntKind.i64.wrap l = l := by simp [IntKind.wrap, IntKind.bits, IntKind.signed]; omega
    have tk : ¬ (k < 0) := by omega
    have tb : ¬ (281474976710656 < (i.bytes : Int) * k) := by rw [Int.mul_comm]; omega
    have tl : ¬ (l < 0) := by omega
    have tlk : ¬ (k < l) := by omega
    have hle : l.toNat ≤ k.toNat := by omega
    have hmul : l.toNat * P.cellsOf e ≤ k.toNat * P.cellsOf e := Nat.mul_le_mul_right _ hle
    have hrun : (Instr.makeSlice t (.int kl l) (.int kk k)).run P w = .ok (.slice (some ⟨w.heap.size, 0, none⟩) l.toNat k.toNat)
        (w.alloc (.cells ((Array.range (k.toNat * P.cellsOf e)).map fun j => (if k.toNat * P.cellsOf e = 0 then #[] else z.cells)[j % (if k.toNat * P.cellsOf e = 0 then #[] else z.cells).size]!) e)) := by
      by_cases hz0 : k.toNat * P.cellsOf e = 0
      · simp [Instr.makeSlice, asInt, asIntOf, run_underlying h0, run_typeInfo hi, run_sizeOf hd, wk, wl, tk, tb, tl, tlk, hz0, newRow]
      · simp [Instr.makeSlice, asInt, asIntOf, run_underlying h0, run_typeInfo hi, run_sizeOf hd, run_zeroValue hi hz, wk, wl, tk, tb, tl, tlk, hz0, newRow]
    have hrp : RPs F w (List.replicate l.toNat z.cells.toList).flatten (zerosA l.toNat q) := by
      subst hq'
      exact (pvOf_all _ hzl).replicate _
    obtain ⟨p1, p2⟩ := hrp.get
    have plen : (zerosA l.toNat q).length = l.toNat * P.cellsOf e := by
      subst hq'
      simp [zerosA, hzs]
    obtain ⟨i1, i2⟩ := Inv.push (o' := .row 0 (P.cellsOf e) (zerosA l.toNat q)) (nb := some (w.heap.size, 0, k.toNat * P.cellsOf e)) hI (alloc_touch (w := w) (.cells ((Array.range (k.toNat * P.cellsOf e)).map fun j => (if k.toNat * P.cellsOf e = 0 then #[] else z.cells)[j % (if k.toNat * P.cellsOf e = 0 then #[] else z.cells).size]!) e) _)
      (fun b s t e => by cases e; exact Nat.le_refl _) (fun hE => .inr ⟨w.heap.size, 0, k.toNat * P.cellsOf e, _, e, updB_same _ _ _, heap_alloc_new' _, by simp, by rw [plen]; omega, by
        refine (hrp.mono fun v x h => h.ext hI hE).at_ _ 0 fun j hj => ?_
        rw [p1, plen] at hj
        have hne : ¬ (k.toNat * P.cellsOf e = 0) := by omega
        simp only [if_neg hne]
        exact range_zeros z.cells l.toNat _ (by rw [hzs]; exact hmul) j (by rw [hzs]; exact hj)⟩)
    refine ⟨_, _, _, F, hrun, .row ⟨_, _, rfl, hle, by simp⟩ (push_get _ _) (Nat.le_refl _) fun _ => ?_, i1, i2⟩
    unfold RowAt
    rw [updB_same]
    exact ⟨_, k.toNat, rfl, .inl rfl, hle, by omega, by rw [plen]; omega⟩
  · cases h

theorem fillRow_sound (hI : Inv H β F w) {t e : TypeId} (h0 : P.underlying t = some (.slice e)) (hok : elemOk P e = true) {q : List PV} (hq : zeroCellsOf P e = some q)
    {L K C : AV} {H' : Heap} {vl vk : Value} {m r : Nat} (h : fillRow m r (P.cellsOf e) (P.bytesOf e) q L K H = some (C, H')) (hl : RA H β F w vl L) (hk : RA H β F w vk K) :
    Runs P H β F w (Instr.makeSlice t vl vk) C H' := by
  obtain ⟨d, i, z, hd, hi, hz, hzs, hzl, hb1, hb2⟩ := elemOk_inv hok
  have hq' := zeroCells_inv hi hz hzl hq
  unfold fillRow at h
  rw [Option.bind_eq_some_iff] at h
  obtain ⟨l, h1, h⟩ := h
  rw [Option.bind_eq_some_iff] at h
  obtain ⟨k, h2, h⟩ := h
  obtain ⟨kl, rfl⟩ := asI_inv h1
  obtain ⟨kk, rfl⟩ := asI_inv h2
  cases hl.v_inv.1
  cases hk.v_inv.1
  split at h
  · rename_i ho
    split at h
    case isFalse => cases h
    rename_i hc
    obtain ⟨c1, c2, c3, c4, c5⟩ := hc
    cases h
    generalize H.length - m + r = id at *
    rw [hb1] at c3
    unfold room at c3
    have hbp : (1 : Int) ≤ i.bytes := by omega
    have hk47 : k ≤ 140737488355328 := by
      have : k * 1 ≤ k * (i.bytes : Int) := Int.mul_le_mul_of_nonneg_left hbp (by omega)
      omega
    have wk : IntKind.i64.wrap k = k := by simp [IntKind.wrap, IntKind.bits, IntKind.signed]; omega
    have wl : IntKind.i64.wrap l = l := by simp [IntKind.wrap, IntKind.bits, IntKind.signed]; omega
    have tk : ¬ (k < 0) := by omega
    have tb : ¬ (281474976710656 < (i.bytes : Int) * k) := by rw [Int.mul_comm]; omega
    have tl : ¬ (l < 0) := by omega
    have tlk : ¬ (k < l) := by omega
    have hle : l.toNat ≤ k.toNat := by omega
    have hmul : l.toNat * P.cellsOf e ≤ k.toNat * P.cellsOf e := Nat.mul_le_mul_right _ hle
    have hrun : (Instr.makeSlice t (.int kl l) (.int kk k)).run P w = .ok (.slice (some ⟨w.heap.size, 0, none⟩) l.toNat k.toNat)
        (w.alloc (.cells ((Array.range (k.toNat * P.cellsOf e)).map fun j => (if k.toNat * P.cellsOf e = 0 then #[] else z.cells)[j % (if k.toNat * P.cellsOf e = 0 then #[] else z.cells).size]!) e)) := by
      by_cases hz0 : k.toNat * P.cellsOf e = 0
      · simp [Instr.makeSlice, asInt, asIntOf, run_underlying h0, run_typeInfo hi, run_sizeOf hd, wk, wl, tk, tb, tl, tlk, hz0, newRow]
      · simp [Instr.makeSlice, asInt, asIntOf, run_underlying h0, run_typeInfo hi, run_sizeOf hd, run_zeroValue hi hz, wk, wl, tk, tb, tl, tlk, hz0, newRow]
    have hrp : RPs F w (List.replicate l.toNat z.cells.toList).flatten (zerosA l.toNat q) := by
      subst hq'
      exact (pvOf_all _ hzl).replicate _
    obtain ⟨p1, p2⟩ := hrp.get
    have plen : (zerosA l.toNat q).length = l.toNat * P.cellsOf e := by
      subst hq'
      simp [zerosA, hzs]
    have hT : Touch w (w.alloc (.cells ((Array.range (k.toNat * P.cellsOf e)).map fun j => (if k.toNat * P.cellsOf e = 0 then #[] else z.cells)[j % (if k.toNat * P.cellsOf e = 0 then #[] else z.cells).size]!) e)) (fun k => ∃ s t, β id = some (k, s, t)) := alloc_touch _ _
    obtain ⟨i1, i2⟩ := Inv.update (F' := F) (o' := .row 0 (P.cellsOf e) (zerosA l.toNat q)) (nb := some (w.heap.size, 0, k.toNat * P.cellsOf e)) hI ho hT
      (fun b s t e => by cases e; exact ⟨.inl (Nat.le_refl _), fun j hj => by have := hI.lt hj; omega⟩) trivial (fun _ _ h => h) (fun _ _ h => .inl h)
      (fun b j hj => by
        obtain ⟨v, hv⟩ := hI.fz b j hj
        exact ⟨v, (World.cell?_of_block (w := w) (a := ⟨b, j, none⟩) (hT.block b (hI.lt hj) fun ⟨s, t, e⟩ => hI.own _ _ _ _ _ e hj)).trans hv⟩)
      (fun hE => .inr ⟨w.heap.size, 0, k.toNat * P.cellsOf e, _, e, updB_same _ _ _, heap_alloc_new' _, by simp, by rw [plen]; omega, by
        refine (hrp.mono fun v x h => h.ext hI hE).at_ _ 0 fun j hj => ?_
        rw [p1, plen] at hj
        have hne : ¬ (k.toNat * P.cellsOf e = 0) := by omega
        simp only [if_neg hne]
        exact range_zeros z.cells l.toNat _ (by rw [hzs]; exact hmul) j (by rw [hzs]; exact hj)⟩)
    have hlt := getElem?_lt ho
    refine ⟨_, _, _, F, hrun, .row ⟨_, _, rfl, hle, by simp⟩ (List.getElem?_set_self hlt) (Nat.le_refl _) fun _ => ?_, i1, i2⟩
    unfold RowAt
    rw [updB_same]
    exact ⟨_, k.toNat, rfl, .inl rfl, hle, by omega, by rw [plen]; omega⟩
  · cases h

theorem mkBsl_sound (hI : Inv H β F w) {t e : TypeId} (h0 : P.underlying t = some (.slice e)) (hok : elemOk P e = true) {q : List PV} (hq : zeroCellsOf P e = some q)
    {L K C : AV} {H' : Heap} {vl vk : Value} (h : mkBsl (P.cellsOf e) (P.bytesOf e) q L K H = some (C, H')) (hl : RA H β F w vl L) (hk : RA H β F w vk K) :
    Runs P H β F w (Instr.makeSlice t vl vk) C H' := by
  obtain ⟨d, i, z, hd, hi, hz, hzs, hzl, hb1, hb2⟩ := elemOk_inv hok
  have hq' := zeroCells_inv hi hz hzl hq
  unfold mkBsl at h
  rw [Option.bind_eq_some_iff] at h
  obtain ⟨l, h1, h⟩ := h
  split at h
  · exact mkRow_sound hI h0 hok hq h hl hk
  rename_i hne0
  rw [Option.bind_eq_some_iff] at h
  obtain ⟨k, h2, h⟩ := h
  obtain ⟨kl, rfl⟩ := asI_inv h1
  obtain ⟨kk, rfl⟩ := asI_inv h2
  cases hl.v_inv.1
  cases hk.v_inv.1
  split at h
  · rename_i hc
    obtain ⟨c1, rfl, c3⟩ := hc
    cases h
    rw [hb1] at c3
    unfold room at c3
    have hbp : (1 : Int) ≤ i.bytes := by omega
    have hk47 : l ≤ 140737488355328 := by
      have : l * 1 ≤ l * (i.bytes : Int) := Int.mul_le_mul_of_nonneg_left hbp (by omega)
      omega
    have wl : IntKind.i64.wrap l = l := by simp [IntKind.wrap, IntKind.bits, IntKind.signed]; omega
    have tb : ¬ (281474976710656 < (i.bytes : Int) * l) := by rw [Int.mul_comm]; omega
    have tl : ¬ (l < 0) := by omega
    have hrp : RPs F w (List.replicate l.toNat z.cells.toList).flatten (zerosA l.toNat q) := by
      subst hq'
      exact (pvOf_all _ hzl).replicate _
    obtain ⟨p1, p2⟩ := hrp.get
    have plen : (zerosA l.toNat q).length = l.toNat * P.cellsOf e := by
      subst hq'
      simp [zerosA, hzs]
    have hz0 : ¬ (l.toNat * P.cellsOf e = 0) := by
      rw [← plen]
      intro e0
      exact hne0 (List.length_eq_zero_iff.mp e0)
    have hrun : (Instr.makeSlice t (.int kl l) (.int kk l)).run P w = .ok (.slice (some ⟨w.heap.size, 0, none⟩) l.toNat l.toNat)
        (w.alloc (.cells ((Array.range (l.toNat * P.cellsOf e)).map fun j => z.cells[j % z.cells.size]!) e)) := by
      simp [Instr.makeSlice, asInt, asIntOf, run_underlying h0, run_typeInfo hi, run_sizeOf hd, run_zeroValue hi hz, wl, tb, tl, hz0, newRow]
    obtain ⟨i1, i2⟩ := Inv.push (o' := .box ((zerosA l.toNat q).map .p)) (nb := some (w.heap.size, 0, l.toNat * P.cellsOf e)) hI (alloc_touch (w := w) (.cells ((Array.range (l.toNat * P.cellsOf e)).map fun j => z.cells[j % z.cells.size]!) e) _)
      (fun b s t e => by cases e; exact Nat.le_refl _) (fun hE => .inr ⟨w.heap.size, _, e, by rw [updB_same, List.length_map, plen], heap_alloc_new' _, by simp [plen], fun j hj => by
        have hj' : j < (zerosA l.toNat q).length := by simpa using hj
        have := range_zeros z.cells l.toNat (l.toNat * P.cellsOf e) (by rw [hzs]; exact Nat.le_refl _) j (by rw [hzs, ← plen]; exact hj')
        rw [Nat.zero_add] at this
        rw [this]
        simp only [List.getElem_map]
        exact ⟨.p ((p2 j hj').ext hI hE), rfl⟩⟩)
    exact ⟨_, _, _, F, hrun, .bsl ⟨_, _, rfl, Nat.le_refl _⟩ (push_get _ _) fun _ => ⟨w.heap.size, 0, l.toNat * P.cellsOf e, l.toNat, updB_same _ _ _, rfl⟩, i1, i2⟩
  · cases h

/-- A list of variables is given away. -/
theorem frzBox_sound (hI : Inv H β F w) {id n : Nat} {v : Value} {x : PV} {H' : Heap} (h : frzBox id n H = some (x, H')) (hy : RA H β F w v (.bsl id n)) :
    ∃ β' F', RP F' w v x ∧ Inv H' β' F' w ∧ Ext H β F w H' β' F' w := by
  unfold frzBox at h
  split at h
  · rename_i xs ho
    rw [Option.bind_eq_some_iff] at h
    obtain ⟨⟨zs, H1⟩, h1, h⟩ := h
    simp only at h
    split at h
    · rename_i ys ho1
      split at h
      · rename_i hc
        cases h
        obtain ⟨hlen, hpos⟩ := hc
        cases hy with
        | bsl hl ho' hb =>
          rw [ho] at ho'
          cases ho'
          obtain ⟨b, s, t, cp, hbb, rfl⟩ := hb (by omega)
          clear hb
          have hb := hbb
          obtain ⟨a', c', hv, hle⟩ := hl
          cases hv
          rcases hI.obj id _ ho with ⟨k1, _⟩ | ⟨b', c, e, k1, k2, k3, k4⟩
          · rw [k1] at hlen; rw [hlen] at hpos; exact absurd hpos (by simp)
          rw [hb] at k1
          cases k1
          have hrow : RowA H β F w c xs := ⟨k3, fun i hi => (k4 i hi).1⟩
          obtain ⟨β1, F1, rps, i1, e1⟩ := toPVs_sound xs H β F c.toList zs H1 hI h1 hrow.list
          obtain ⟨p1, p2⟩ := rps.get
          have hb1 : β1 id = some (b, 0, xs.length) := by
            obtain ⟨o', g1, g2⟩ := e1.grow id _ ho
            rw [ho1] at g1
            cases g1
            exact ((g2 hpos).2).trans hb
          have hfz : ∀ b' j, (F1 b' j ∨ (b' = b ∧ j < xs.length)) → ∃ v, w.cell? ⟨b', j, none⟩ = some v := by
            intro b' j hj
            rcases hj with hj | ⟨rfl, h9⟩
            · exact i1.fz _ _ hj
            · exact ⟨_, cell_in k2 (by omega)⟩
          obtain ⟨i2, e2⟩ := Inv.update (w' := w) (F' := fun b' j => F1 b' j ∨ (b' = b ∧ j < xs.length)) (o' := .box []) (nb := none) i1 ho1 (Touch.refl _ _) (fun _ _ _ e => by cases e)
            (fun e => by simp at e) (fun _ _ h => .inl h) (fun b' j h => h.imp (fun x => x) fun ⟨e, _⟩ => .inr ⟨0, xs.length, by rw [e]; exact hb1⟩) hfz (fun _ => .inl ⟨rfl, updB_same _ _ _⟩)
          refine ⟨_, _, ?_, i2, e1.trans e2⟩
          have hzl : zs.length = xs.length := by rw [← p1]; simpa using k3
          refine .sl (fun i => c.getD i undef) (by simp) hle (by simp) (fun i hi => ⟨.inr ⟨rfl, by omega⟩, by rw [Nat.zero_add]; exact cell_in k2 (by omega)⟩) (fun i hi => ?_)
          have := (p2 i hi).ext i1 e2
          have hci : i < c.size := by omega
          simpa [Array.getD, List.getD, hci] using this
      · cases h
    · cases h
  · cases h

theorem appZ_sound (hI : Inv H β F w) {t0 t1 e ty : TypeId} {k1 : IntKind} (h0 : P.underlying t0 = some (.slice e)) (hok : elemOk P e = true) (h1 : P.underlying t1 = some (.int k1)) {q : List PV} (hq : zeroCellsOf P e = some q)
    {X Y C : AV} {H' : Heap} {vx vy : Value} (h : appZ (P.cellsOf e) (P.bytesOf e) q X Y H = some (C, H')) (hx : RA H β F w vx X) (hy : RA H β F w vy Y) :
    Runs P H β F w (Builtin.append_ #[t0, t1] ty #[vx, vy]) C H' := by
  obtain ⟨d, i, z, hd, hi, hz, hzs, hzl, hb1, hb2⟩ := elemOk_inv hok
  have hq' := zeroCells_inv hi hz hzl hq
  unfold appZ at h
  rw [Option.bind_eq_some_iff] at h
  obtain ⟨k, hk, h⟩ := h
  obtain ⟨kk, rfl⟩ := asI_inv hk
  cases hy.v_inv.1
  split at h
  · rename_i hc
    obtain ⟨hc0, hcr⟩ := hc
    obtain ⟨n, rfl⟩ : ∃ n : Nat, k = n := ⟨k.toNat, by omega⟩
    simp only [Int.toNat_natCast] at h hcr
    have plen : (zerosA n q).length = n * P.cellsOf e := by
      subst hq'
      simp [zerosA, hzs]
    have hrp : RPs F w (List.replicate n z.cells.toList).flatten (zerosA n q) := by
      subst hq'
      exact (pvOf_all _ hzl).replicate _
    have hzc : (Builtin.zeroCells z.cells n).toList = (List.replicate n z.cells.toList).flatten := by
      have hl : (List.replicate n z.cells.toList).flatten.length = n * P.cellsOf e := by simp [hzs]
      apply List.ext_getElem
      · rw [hl, Array.length_toList, size_zeroCells, hzs]
      · intro j h1 h2
        have hj : j < n * z.cells.size := by rw [hl] at h2; rw [hzs]; exact h2
        have := range_zeros z.cells n (n * z.cells.size) (Nat.le_refl _) j hj
        rw [Nat.zero_add] at this
        have e1 : (Builtin.zeroCells z.cells n).toList[j] = (Builtin.zeroCells z.cells n).getD j undef := by
          rw [Array.length_toList] at h1
          simp [Array.getD, h1]
        rw [e1]
        have e2 : (List.replicate n z.cells.toList).flatten[j] = (List.replicate n z.cells.toList).flatten.getD j undef := by
          rw [List.getD_eq_getElem?_getD, List.getElem?_eq_getElem h2]; rfl
        rw [e2, ← this]
        rfl
    refine appTo_sound hI h0 hok h hx plen (vs := (List.replicate n z.cells.toList).flatten) hrp ?_
    rw [← hzc]
    exact .zeros h0 hd h1 hi hz hzs hb2 (by rw [← hb1]; simpa [room] using hcr)
  · cases h

/-! ### Literals -/
theorem fold_set (off : Nat) : ∀ (vs : List Value) (k : Nat) (cells : Array Value), off + k + vs.length ≤ cells.size →
    ((vs.zipIdx k).foldl (fun cs (p : Value × Nat) => cs.setIfInBounds (off + p.2) p.1) cells).size = cells.size ∧
    ∀ i, ((vs.zipIdx k).foldl (fun cs (p : Value × Nat) => cs.setIfInBounds (off + p.2) p.1) cells).getD i undef = if off + k ≤ i ∧ i < off + k + vs.length then vs.getD (i - (off + k)) undef else cells.getD i undef := by
  intro vs
  induction vs with
  | nil => intro k cells _; exact ⟨rfl, fun i => by rw [if_neg (by simp)]; rfl⟩
  | cons v vs ih =>
    intro k cells h
    simp only [List.length_cons] at h
    rw [List.zipIdx_cons, List.foldl_cons]
    obtain ⟨h1, h2⟩ := ih (k + 1) (cells.setIfInBounds (off + k) v) (by simp; omega)
    refine ⟨by rw [h1]; simp, fun i => ?_⟩
    rw [h2 i]
    simp only [List.length_cons]
    by_cases e1 : i = off + k
    · subst e1
      rw [if_neg (by omega), if_pos (by omega), Nat.sub_self]
      have : off + k < cells.size := by omega
      simp [Array.getD, this]
    · by_cases e2 : off + k ≤ i ∧ i < off + k + (vs.length + 1)
      · rw [if_pos (by omega), if_pos e2]
        obtain ⟨q, hq⟩ : ∃ q, i - (off + k) = q + 1 := ⟨i - (off + k) - 1, by omega⟩
        rw [hq, show i - (off + (k + 1)) = q by omega]
        rfl
      · rw [if_neg (by omega), if_neg e2]
        rw [Array.getD_eq_getD_getElem?, Array.getD_eq_getD_getElem?, Array.getElem?_setIfInBounds_ne (by omega)]

def inOrd : Nat → List (Nat × Value) → Prop
  | _, [] => True
  | j, (i, _) :: r => i = j ∧ inOrd (j + 1) r

theorem fill_seq (sz : Nat) : ∀ (l : List (Nat × Value)) (j : Nat) (cells : Array Value), inOrd j l → (∀ p ∈ l, p.2.cells.size = sz) → (j + l.length) * sz ≤ cells.size →
    ∃ r, Instr.fill (fun i => some (i * sz, sz)) cells l = some r ∧ r.size = cells.size ∧
      ∀ i, r.getD i undef = if j * sz ≤ i ∧ i < (j + l.length) * sz then (l.flatMap fun p => p.2.cells.toList).getD (i - j * sz) undef else cells.getD i undef := by
  intro l
  induction l with
  | nil => intro j cells _ _ _; exact ⟨cells, rfl, rfl, fun i => by rw [if_neg (by simp)]⟩
  | cons p l ih =>
    intro j cells ho hs hc
    obtain ⟨i0, v⟩ := p
    obtain ⟨rfl, ho⟩ := ho
    have hv : v.cells.size = sz := hs (i0, v) (by simp)
    simp only [List.length_cons] at hc
    have hm : (i0 + 1) * sz ≤ (i0 + (l.length + 1)) * sz := Nat.mul_le_mul_right _ (by omega)
    have hm1 : (i0 + 1) * sz = i0 * sz + sz := Nat.succ_mul _ _
    have hm2 : (i0 + 1 + l.length) * sz = (i0 + (l.length + 1)) * sz := by congr 1; omega
    obtain ⟨f1, f2⟩ := fold_set (i0 * sz) v.cells.toList 0 cells (by simp [hv]; omega)
    obtain ⟨r, r1, r2, r3⟩ := ih (i0 + 1) _ ho (fun p hp => hs p (by simp [hp])) (by rw [f1, hm2]; exact hc)
    refine ⟨r, ?_, r2.trans f1, fun i => ?_⟩
    · simp only [Instr.fill]
      rw [if_neg (by rw [hv]; simp; omega)]
      have : (v.cells.zipIdx.foldl (fun cs (p : Value × Nat) => cs.setIfInBounds (i0 * sz + p.2) p.1) cells) = ((v.cells.toList.zipIdx 0).foldl (fun cs (p : Value × Nat) => cs.setIfInBounds (i0 * sz + p.2) p.1) cells) := by
        rw [← Array.foldl_toList, Array.toList_zipIdx]
      rw [← r1, ← this]
    · rw [r3 i]
      simp only [List.length_cons, List.flatMap_cons]
      rw [hm2]
      simp only [Nat.add_zero, Array.length_toList, hv] at f2
      by_cases e1 : (i0 + 1) * sz ≤ i ∧ i < (i0 + (l.length + 1)) * sz
      · rw [if_pos e1, if_pos (by omega), List.getD_eq_getElem?_getD, List.getD_eq_getElem?_getD, List.getElem?_append_right (by simp [hv]; omega)]
        congr 2
        simp [hv]
        omega
      · rw [if_neg e1, f2 i]
        by_cases e2 : i0 * sz ≤ i ∧ i < i0 * sz + sz
        · rw [if_pos e2, if_pos (by omega), List.getD_eq_getElem?_getD, List.getD_eq_getElem?_getD, List.getElem?_append_left (by simp [hv]; omega)]
        · rw [if_neg e2, if_neg (by omega)]

theorem RAs.append {vs us : List Value} {xs ys : List AV} (h : RAs H β F w vs xs) (h' : RAs H β F w us ys) : RAs H β F w (vs ++ us) (xs ++ ys) := by
  induction h with
  | nil => exact h'
  | cons h _ ih => exact .cons h ih

theorem toPVs_leaf : ∀ (l : List AV) (H : Heap) r, toPVs H l = some r → ∀ z ∈ l, z.leaf = true := by
  intro l
  induction l with
  | nil => intro H r _ z hz; cases hz
  | cons y l ih =>
    intro H r hr z hz
    simp only [toPVs, Option.bind_eq_some_iff] at hr
    obtain ⟨r1, hr1, hr⟩ := hr
    rw [Option.map_eq_some_iff] at hr
    obtain ⟨r2, hr2, _⟩ := hr
    cases hz with
    | head => unfold toPV at hr1; split at hr1 <;> first | rfl | cases hr1
    | tail _ hz => exact ih _ _ hr2 z hz

theorem litCells_list {sz : Nat} : ∀ (parts : List AV) (l : List (Nat × Value)), RAs H β F w (l.map (·.2)) parts → (∀ x ∈ litCells sz parts, x.leaf = true) → parts.all (fun x => x.cells.length == sz) = true →
    RAs H β F w (l.flatMap fun p => p.2.cells.toList) (litCells sz parts) ∧ (∀ p ∈ l, p.2.cells.size = sz) ∧ l.length = parts.length := by
  intro parts
  induction parts with
  | nil =>
    intro l h _ _
    cases l with
    | nil => exact ⟨.nil, fun p hp => by simp at hp, rfl⟩
    | cons p l => cases h
  | cons x parts ih =>
    intro l h hl hs
    cases l with
    | nil => cases h
    | cons p l =>
      simp only [List.map_cons] at h
      cases h with
      | cons h h' =>
        simp only [litCells, List.mem_append] at hl
        simp only [List.all_cons, Bool.and_eq_true, beq_iff_eq] at hs
        have hrow := h.cells (List.all_eq_true.mpr fun z hz => hl z (.inl hz))
        obtain ⟨i1, i2, i3⟩ := ih l h' (fun z hz => hl z (.inr hz)) hs.2
        refine ⟨by rw [List.flatMap_cons, litCells]; exact hrow.list.append i1, fun q hq => ?_, by simp [i3]⟩
        cases hq with
        | head => rw [hrow.1]; exact hs.1
        | tail _ hq => exact i2 q hq

theorem flat_len {sz : Nat} : ∀ (l : List (Nat × Value)), (∀ p ∈ l, p.2.cells.size = sz) → (l.flatMap fun p => p.2.cells.toList).length = l.length * sz := by
  intro l
  induction l with
  | nil => intro _; simp
  | cons p l ih =>
    intro h
    rw [List.flatMap_cons, List.length_append, ih fun p hp => h p (by simp [hp]), Array.length_toList, h p (by simp), List.length_cons, Nat.succ_mul, Nat.add_comm]

theorem lit_sound (hI : Inv H β F w) {t e : TypeId} (h0 : P.underlying t = some (.slice e)) (hok : elemOk P e = true) {own : Bool} {parts : List AV} {l : List (Nat × Value)} {n : Nat} {C : AV} {H' : Heap}
    (hn : n = l.length) (hlim' : n * (P.cellsOf e + 1) ≤ 16777216) (ho : inOrd 0 l) (h : litA own (P.cellsOf e) parts H = some (C, H')) (hp : RAs H β F w (l.map (·.2)) parts) :
    Runs P H β F w (Instr.buildSlice t n l.toArray) C H' := by
  obtain ⟨d, i, z, hd, hi, hz, hzs, hzl, hb1, hb2⟩ := elemOk_inv hok
  have hlim : n * P.cellsOf e ≤ 16777216 := Nat.le_trans (Nat.mul_le_mul_left _ (Nat.le_succ _)) hlim'
  have hlim2 : n ≤ 16777216 := Nat.le_trans (Nat.le_mul_of_pos_right _ (Nat.succ_pos _)) hlim'
  unfold litA at h
  split at h
  · rename_i hall
    rw [Option.bind_eq_some_iff] at h
    obtain ⟨⟨ps, H1⟩, hps, h⟩ := h
    obtain ⟨l1, l2, l3⟩ := litCells_list parts l hp (toPVs_leaf _ _ _ hps) hall
    obtain ⟨β1, F1, q1, j1, e1⟩ := toPVs_sound _ H β F _ ps H1 hI hps l1
    obtain ⟨q2, q3⟩ := q1.get
    have hflat : (l.flatMap fun p => p.2.cells.toList).length = n * P.cellsOf e := by
      rw [hn]; exact flat_len l l2
    obtain ⟨r, r1, r2, r3⟩ := fill_seq (P.cellsOf e) l 0 ((Array.range (n * P.cellsOf e)).map fun j => (if n * P.cellsOf e = 0 then #[] else z.cells)[j % (if n * P.cellsOf e = 0 then #[] else z.cells).size]!) ho l2 (by simp [hn])
    have hrs : r.size = n * P.cellsOf e := by rw [r2]; simp
    have hrg : ∀ j, j < (l.flatMap fun p => p.2.cells.toList).length → r.getD (0 + j) undef = (l.flatMap fun p => p.2.cells.toList).getD j undef := by
      intro j hj
      rw [hflat] at hj
      rw [Nat.zero_add, r3 j, if_pos (by rw [Nat.zero_mul, Nat.zero_add, ← hn]; omega)]
      simp
    have hrun : (Instr.buildSlice t n l.toArray).run P w = .ok (.slice (some ⟨w.heap.size, 0, none⟩) n n) (w.alloc (.cells r e)) := by
      have h24 : ¬ (16777216 < n * P.cellsOf e) := by omega
      by_cases hz0 : n * P.cellsOf e = 0
      · simp only [if_pos hz0] at r1
        simp [Instr.buildSlice, run_underlying h0, run_sizeOf hd, h24, hz0, newRow] at r1 ⊢
        rw [r1]
        simp
      · simp only [if_neg hz0] at r1
        simp [Instr.buildSlice, run_underlying h0, run_sizeOf hd, run_zeroValue hi hz, h24, hz0, newRow] at r1 ⊢
        rw [r1]
        simp
    have hpl : ps.length = n * P.cellsOf e := by rw [← q2]; exact hflat
    have hnp : n = parts.length := by rw [hn, l3]
    cases own with
    | true =>
      simp only [if_true] at h
      cases h
      obtain ⟨i1, i2⟩ := Inv.push (o' := .row 0 (P.cellsOf e) ps) (nb := some (w.heap.size, 0, n * P.cellsOf e)) j1 (alloc_touch (w := w) (.cells r e) _)
        (fun b s t e => by cases e; exact Nat.le_refl _) (fun hE => .inr ⟨w.heap.size, 0, n * P.cellsOf e, r, e, updB_same _ _ _, heap_alloc_new' _, hrs, by omega, (q1.mono fun v x h => h.ext j1 hE).at_ r 0 hrg⟩)
      refine ⟨_, _, _, F1, hrun, ?_, i1, e1.trans i2⟩
      rw [← hnp]
      refine .row ⟨_, _, rfl, Nat.le_refl _, by simp⟩ (push_get _ _) (Nat.le_refl _) fun _ => ?_
      unfold RowAt
      rw [updB_same]
      exact ⟨_, n, rfl, .inl rfl, Nat.le_refl _, by omega, by omega⟩
    | false =>
      simp only [Bool.false_eq_true, if_false] at h
      cases h
      obtain ⟨i1, i2⟩ := j1.frozen (w' := w.alloc (.cells r e)) (F' := fun b j => F1 b j ∨ (b = w.heap.size ∧ j < r.size)) (alloc_touch _ _) (fun _ _ h => .inl h) (fun b j h => h.imp (fun x => x) fun x => by omega) (fun b j hj => by
        rcases hj with hj | ⟨rfl, hj⟩
        · obtain ⟨v, hv⟩ := j1.fz b j hj
          exact ⟨v, (World.cell?_alloc_lt _ _ _ (j1.lt hj)).trans hv⟩
        · exact ⟨_, cell_in (heap_alloc_new' (w := w) (.cells r e)) hj⟩)
      refine ⟨_, _, β1, _, hrun, .p ?_, i1, e1.trans i2⟩
      rw [← hnp]
      refine .sl (fun j => r.getD j undef) (by simp) (Nat.le_refl _) (fun _ => rfl) (fun j hj => ?_) (fun j hj => ?_)
      · rw [Nat.zero_add]
        exact ⟨.inr ⟨rfl, by omega⟩, cell_in (heap_alloc_new' (w := w) (.cells r e)) (by omega)⟩
      · have := (q3 j hj).ext j1 i2
        rw [← hrg j (by omega), Nat.zero_add] at this
        exact this
  · cases h

theorem RAs.pick {vs : List Value} {xs : List AV} (h : RAs H β F w vs xs) : vs.length = xs.length ∧ ∀ j (hj : j < xs.length), RA H β F w (vs.getD j undef) xs[j] := by
  induction h with
  | nil => exact ⟨rfl, fun j hj => absurd hj (by simp)⟩
  | cons h _ ih =>
    refine ⟨by simp [ih.1], fun j hj => ?_⟩
    cases j with
    | zero => exact h
    | succ j => exact ih.2 j (by simpa using hj)
theorem litB_sound (hI : Inv H β F w) {t e : TypeId} (h0 : P.underlying t = some (.slice e)) (hok : elemOk P e = true) {parts : List AV} {l : List (Nat × Value)} {n : Nat} {C : AV} {H' : Heap}
    (hn : n = l.length) (hlim' : n * (P.cellsOf e + 1) ≤ 16777216) (ho : inOrd 0 l) (h : litB (P.cellsOf e) parts H = some (C, H')) (hp : RAs H β F w (l.map (·.2)) parts) :
    Runs P H β F w (Instr.buildSlice t n l.toArray) C H' := by
  obtain ⟨d, i, z, hd, hi, hz, hzs, hzl, hb1, hb2⟩ := elemOk_inv hok
  have hlim : n * P.cellsOf e ≤ 16777216 := Nat.le_trans (Nat.mul_le_mul_left _ (Nat.le_succ _)) hlim'
  have hlim2 : n ≤ 16777216 := Nat.le_trans (Nat.le_mul_of_pos_right _ (Nat.succ_pos _)) hlim'
  unfold litB at h
  split at h
  · rename_i hc
    obtain ⟨hall, hleaf, hpos⟩ := hc
    cases h
    obtain ⟨l1, l2, l3⟩ := litCells_list parts l hp (fun x hx => List.all_eq_true.mp hleaf x hx) hall
    obtain ⟨q2, q3⟩ := l1.pick
    have hflat : (l.flatMap fun p => p.2.cells.toList).length = n * P.cellsOf e := by
      rw [hn]; exact flat_len l l2
    obtain ⟨r, r1, r2, r3⟩ := fill_seq (P.cellsOf e) l 0 ((Array.range (n * P.cellsOf e)).map fun j => (if n * P.cellsOf e = 0 then #[] else z.cells)[j % (if n * P.cellsOf e = 0 then #[] else z.cells).size]!) ho l2 (by simp [hn])
    have hrs : r.size = n * P.cellsOf e := by rw [r2]; simp
    have hrg : ∀ j, j < (l.flatMap fun p => p.2.cells.toList).length → r.getD (0 + j) undef = (l.flatMap fun p => p.2.cells.toList).getD j undef := by
      intro j hj
      rw [hflat] at hj
      rw [Nat.zero_add, r3 j, if_pos (by rw [Nat.zero_mul, Nat.zero_add, ← hn]; omega)]
      simp
    have hz0 : ¬ (n * P.cellsOf e = 0) := by omega
    have hrun : (Instr.buildSlice t n l.toArray).run P w = .ok (.slice (some ⟨w.heap.size, 0, none⟩) n n) (w.alloc (.cells r e)) := by
      have h24 : ¬ (16777216 < n * P.cellsOf e) := by omega
      simp only [if_neg hz0] at r1
      simp [Instr.buildSlice, run_underlying h0, run_sizeOf hd, run_zeroValue hi hz, h24, hz0, newRow] at r1 ⊢
      rw [r1]
      simp
    have hnp : n = parts.length := by rw [hn, l3]
    obtain ⟨i1, i2⟩ := Inv.push (o' := .box (litCells (P.cellsOf e) parts)) (nb := some (w.heap.size, 0, n * P.cellsOf e)) hI (alloc_touch (w := w) (.cells r e) _)
      (fun b s t e => by cases e; exact Nat.le_refl _) (fun hE => .inr ⟨w.heap.size, r, e, by rw [updB_same, ← q2, hflat], heap_alloc_new' _, by rw [hrs, ← hflat, q2], fun j hj => by
        have hj' : j < (l.flatMap fun p => p.2.cells.toList).length := by rw [q2]; exact hj
        have := hrg j hj'
        rw [Nat.zero_add] at this
        rw [this]
        exact ⟨(q3 j hj).ext hI hE, List.all_eq_true.mp hleaf _ (List.getElem_mem hj)⟩⟩)
    refine ⟨_, _, _, F, hrun, ?_, i1, i2⟩
    rw [← hnp]
    exact .bsl ⟨_, _, rfl, Nat.le_refl _⟩ (push_get _ _) fun _ => ⟨w.heap.size, 0, n * P.cellsOf e, n, updB_same _ _ _, rfl⟩
  · cases h

end
end Go.AM

namespace Go.AM
variable [Know]
section
variable {P : Program} {H : Heap} {β : Beta} {F : Frz} {w : World}

/-! ### New variables -/
theorem ownCells_sound : ∀ (own : List (Nat × Nat)) (xs : List AV) (H : Heap) (β : Beta) (cs : Array Value) (xs' : List AV) (H' : Heap), Inv H β F w → ownCells own xs H = some (xs', H') → RowA H β F w cs xs → xs.all AV.leaf = true →
    ∃ β', RowA H' β' F w cs xs' ∧ xs'.all AV.leaf = true ∧ Inv H' β' F w ∧ Ext H β F w H' β' F w := by
  intro own
  induction own with
  | nil => intro xs H β cs xs' H' hI h hr hl; cases h; exact ⟨β, hr, hl, hI, Ext.refl _ _ _ _⟩
  | cons p own ih =>
    intro xs H β cs xs' H' hI h hr hl
    obtain ⟨j, sz⟩ := p
    simp only [ownCells] at h
    split at h
    · rename_i tg n ys hx
      obtain ⟨β1, r1, i1, e1⟩ := virt_new hI (sz := sz) (a := none)
      have hj := getElem?_lt hx
      have hv : cs.getD j undef = .slice none 0 0 := by
        have h2 := hr.2 j hj
        rw [List.getElem?_eq_getElem hj] at hx
        simp only [Option.some.injEq] at hx
        rw [hx] at h2
        generalize cs.getD j undef = v at h2 ⊢
        cases h2 with
        | p h2 =>
          cases h2 with
          | nil => rfl
          | emp h1 => exact (h1 rfl).elim
          | sl c h1 => exact (h1 rfl).elim
      obtain ⟨β2, r2, l2, i2, e2⟩ := ih (xs.set j (.row H.length 0 0 0)) _ β1 cs xs' H' i1 h ⟨by rw [List.length_set]; exact hr.1, fun i hi => by
        by_cases e : i = j
        · subst e
          rw [List.getElem_set_self, hv]
          exact r1
        · rw [List.getElem_set_ne (Ne.symm e)]
          exact (hr.2 i (by simpa using hi)).ext hI e1⟩ (by
        rw [List.all_eq_true] at hl ⊢
        intro x hx
        rcases List.mem_or_eq_of_mem_set hx with h | h
        · exact hl x h
        · rw [h]; rfl)
      exact ⟨β2, r2, l2, i2, e1.trans e2⟩
    · cases h

theorem boxO_sound (hI : Inv H β F w) {own : List (Nat × Nat)} {xs : List AV} {cs : Array Value} {e : TypeId} {C : AV} {H' : Heap} (h : boxO own xs H = some (C, H')) (hr : RowA H β F w cs xs) :
    ∃ β', RA H' β' F (w.alloc (.cells cs e)) (.pointer (some ⟨w.heap.size, 0, none⟩)) C ∧ Inv H' β' F (w.alloc (.cells cs e)) ∧ Ext H β F w H' β' F (w.alloc (.cells cs e)) := by
  have mk : ∀ (H : Heap) (β : Beta) (xs : List AV), Inv H β F w → RowA H β F w cs xs → xs.all AV.leaf = true →
      ∃ β', RA (boxA xs H).2 β' F (w.alloc (.cells cs e)) (.pointer (some ⟨w.heap.size, 0, none⟩)) (boxA xs H).1 ∧ Inv (boxA xs H).2 β' F (w.alloc (.cells cs e)) ∧ Ext H β F w (boxA xs H).2 β' F (w.alloc (.cells cs e)) := by
    intro H β xs hI hr hl
    obtain ⟨i1, i2⟩ := Inv.push (o' := .box xs) (nb := some (w.heap.size, 0, xs.length)) hI (alloc_touch (w := w) (.cells cs e) _) (fun b s t e => by cases e; exact Nat.le_refl _)
      (fun hE => .inr ⟨w.heap.size, cs, e, updB_same _ _ _, heap_alloc_new' _, hr.1, fun i hi => ⟨(hr.2 i hi).ext hI hE, List.all_eq_true.mp hl _ (List.getElem_mem hi)⟩⟩)
    have hp : RA (H ++ [.box xs]) (updB β H.length (some (w.heap.size, 0, xs.length))) F (w.alloc (.cells cs e)) (.pointer (some ⟨w.heap.size, 0 + 0, none⟩)) (.ptr H.length 0) := RA.ptr ⟨_, rfl⟩ (push_get _ _) fun _ => ⟨_, _, _, updB_same _ _ _, rfl⟩
    exact ⟨_, hp, i1, i2⟩
  unfold boxO at h
  split at h
  · rename_i hl
    split at h
    · cases h
      exact mk H β xs hI hr hl
    · rw [Option.map_eq_some_iff] at h
      obtain ⟨⟨xs', H1⟩, h1, h⟩ := h
      cases h
      obtain ⟨β1, r1, l1, i1, e1⟩ := ownCells_sound own xs H β cs xs' H1 hI h1 hr hl
      obtain ⟨β2, q1, q2, q3⟩ := mk H1 β1 xs' i1 r1 l1
      exact ⟨β2, q1, q2, e1.trans q3⟩
  · cases h

theorem box_sound (hI : Inv H β F w) {own : List (Nat × Nat)} {X C : AV} {e : TypeId} {vx : Value} {H' : Heap} (h : boxO own X.cells H = some (C, H')) (hx : RA H β F w vx X) :
    Runs P H β F w (Instr.box e vx) C H' := by
  have hl : X.cells.all AV.leaf = true := by
    unfold boxO at h
    split at h
    · assumption
    · cases h
  obtain ⟨β', r1, r2, r3⟩ := boxO_sound (e := e) hI h (hx.cells hl)
  exact ⟨_, _, β', F, by simp [Instr.box, newVar, newRow], r1, r2, r3⟩

theorem alloc_sound (hI : Inv H β F w) {own : List (Nat × Nat)} {Z C : AV} {e : TypeId} {H' : Heap} (hz : zeroOf P e = some Z) (h : boxO own Z.cells H = some (C, H')) :
    Runs P H β F w (Instr.alloc e true (.tuple #[])) C H' := by
  have hl : Z.cells.all AV.leaf = true := by
    unfold boxO at h
    split at h
    · assumption
    · cases h
  unfold zeroOf at hz
  split at hz
  · rename_i i hi
    rw [Option.map_eq_some_iff] at hz
    obtain ⟨z, hz, rfl⟩ := hz
    obtain ⟨β', r1, r2, r3⟩ := boxO_sound (e := e) hI h ((ofValue_sound z).cells hl)
    exact ⟨_, _, β', F, by simp [Instr.alloc, run_zeroValue hi hz, newVar, newRow], r1, r2, r3⟩
  · cases hz

/-! ### Conversions -/
theorem cvOf_cases (s t : TypeId) :
    (match cvOf P s t with
     | .int k => (∃ q, P.underlying s = some (.int q)) ∧ P.underlying t = some (.int k)
     | .same => P.underlying s = some .string ∧ P.underlying t = some .string
     | .toBytes => P.underlying s = some .string ∧ ∃ e, P.underlying t = some (.slice e) ∧ P.underlying e = some (.int .u8)
     | .toStr => (∃ e, P.underlying s = some (.slice e) ∧ P.underlying e = some (.int .u8)) ∧ P.underlying t = some .string
     | .no => True) := by
  have u8 : ∀ e, isU8 P e = true → P.underlying e = some (.int .u8) := by
    intro e h
    unfold isU8 at h
    split at h
    · assumption
    · cases h
  unfold cvOf
  cases hs : P.underlying s with
  | none => trivial
  | some ds =>
    cases ht : P.underlying t with
    | none => cases ds <;> trivial
    | some dt =>
      cases ds <;> cases dt <;> first | trivial | exact ⟨⟨_, rfl⟩, rfl⟩ | exact ⟨rfl, rfl⟩ | skip
      · rename_i e
        simp only
        cases h : isU8 P e with
        | true => exact ⟨by first | rfl | trivial, e, by first | rfl | trivial, u8 e h⟩
        | false => trivial
      · rename_i e
        simp only
        cases h : isU8 P e with
        | true => exact ⟨⟨e, by first | rfl | trivial, u8 e h⟩, by first | rfl | trivial⟩
        | false => trivial

theorem push_fold (l : List UInt8) : ∀ (b : ByteArray) (ns : List Int), l = (ns.map fun n => UInt8.ofNat n.toNat) → ns.foldl (fun r n => r.push (UInt8.ofNat n.toNat)) b = ⟨b.data ++ l.toArray⟩ := by
  induction l with
  | nil =>
    intro b ns h
    have : ns = [] := List.map_eq_nil_iff.mp h.symm
    subst this
    simp
  | cons x l ih =>
    intro b ns h
    cases ns with
    | nil => simp at h
    | cons n ns =>
      simp only [List.map_cons, List.cons.injEq] at h
      rw [List.foldl_cons, ih _ ns h.2, ← h.1]
      congr 1
      apply Array.ext'
      simp [ByteArray.push]

theorem freeze_block {b n : Nat} {c : Array Value} {e : TypeId} (h : w.heap[b]? = some (.cells c e (0, 0))) : (w.freeze ⟨b, n, none⟩ 1).heap[b]? = some (.cells c e (n, n + 1)) := by
  simp [World.freeze, Array.getElem?_modify, h]

theorem freeze_touch {b n : Nat} {may : Nat → Prop} (hm : may b) : Touch w (w.freeze ⟨b, n, none⟩ 1) may :=
  ⟨rfl, rfl, rfl, by simp [World.freeze], Nat.le_refl _, fun k _ hk => by
    simp only [World.freeze, Nat.succ_ne_zero, if_false, Array.getElem?_modify]
    rw [if_neg (fun e => hk (by rw [← e]; exact hm))]⟩

theorem conv_sound (hI : Inv H β F w) {s t : TypeId} {A C : AV} {va : Value} (h : conv (cvOf P s t) A = some C) (ha : RA H β F w va A) : Runs P H β F w (convert s t va) C H := by
  have hc := cvOf_cases (P := P) s t
  unfold conv at h
  split at h
  · rename_i k q n hk
    rw [hk] at hc
    obtain ⟨⟨q', hs⟩, ht⟩ := hc
    cases ha.v_inv.1
    cases h
    exact .of_same hI (by simp [convert, run_underlying hs, run_underlying ht, Conv.intToInt]) (.of_leafy rfl)
  · rename_i x hk
    rw [hk] at hc
    obtain ⟨hs, ht⟩ := hc
    cases ha.v_inv.1
    cases h
    exact .of_same hI (by simp [convert, run_underlying hs, run_underlying ht]) (.of_leafy rfl)
  · rename_i x hk
    rw [hk] at hc
    obtain ⟨hs, e, ht, he⟩ := hc
    cases ha.v_inv.1
    cases h
    have hge : x.size ≤ (Question.appendCap x.size 0 e).cut (w.tape w.drawn (.appendCap x.size 0 e)) := grownCap_ge w x.size 0 e
    generalize hcap : (Question.appendCap x.size 0 e).cut (w.tape w.drawn (.appendCap x.size 0 e)) = cap at hge
    let C : Array Value := (x.data.map fun b => .int .u8 b.toNat) ++ Array.replicate (cap - x.size) (.int .u8 0)
    have hCs : C.size = cap := by
      have : x.data.size = x.size := rfl
      simp [C, this]; omega
    have hrun : (convert s t (.string x)).run P w = .ok (.slice (some ⟨w.heap.size, 0, none⟩) x.size cap) ((w.drew.alloc (.cells C e)).freeze ⟨w.heap.size, C.size, none⟩ 1) := by
      have hsh : ∀ (w' : World) (o : Array Value), (w'.alloc (.cells o e)).shape? w'.heap.size = some (e, o.size) := by
        intro w' o
        unfold World.shape?
        rw [heap_alloc_new']
      have hsh' := hsh w.drew C
      simp only [World.size_drew] at hsh'
      simp [convert, run_underlying hs, run_underlying ht, run_underlying he, Conv.stringToBytes, Question.forced, hcap, newRow, markStringish, C] at hsh' ⊢
      rw [hsh']
      simp
    have hblk : ((w.drew.alloc (.cells C e)).freeze ⟨w.heap.size, C.size, none⟩ 1).heap[w.heap.size]? = some (.cells C e (C.size, C.size + 1)) := by
      exact freeze_block (heap_alloc_new' (w := w.drew) _)
    have hT : Touch w ((w.drew.alloc (.cells C e)).freeze ⟨w.heap.size, C.size, none⟩ 1) (fun _ => False) := by
      have h1 : Touch w (w.drew.alloc (.cells C e)) (fun k => w.heap.size ≤ k) := (drew_touch _).trans (alloc_touch _ _)
      have h2 := h1.trans (freeze_touch (w := w.drew.alloc (.cells C e)) (b := w.heap.size) (n := C.size) (Nat.le_refl _))
      exact ⟨h2.os, h2.tape, h2.output, h2.size, h2.drawn, fun k hk _ => h2.block k hk (by omega)⟩
    obtain ⟨i1, i2⟩ := hI.frozen (F' := fun b j => F b j ∨ (b = w.heap.size ∧ j < C.size)) hT (fun _ _ h => .inl h) (fun b j h => h.imp (fun x => x) fun x => by omega) (fun b j hj => by
      rcases hj with hj | ⟨rfl, hj⟩
      · obtain ⟨v, hv⟩ := hI.fz b j hj
        exact ⟨v, (World.cell?_of_block (w := w) (hT.block b (hI.lt hj) fun e => e)).trans hv⟩
      · exact ⟨_, cell_in hblk hj⟩)
    refine ⟨_, _, β, _, hrun, .p (.sl (fun j => C.getD j undef) (by simp) hge (by simp) (fun j hj => ?_) (fun j hj => ?_)), i1, i2⟩
    · have hj' : j < x.size := by
        rw [List.length_map, Array.length_toList] at hj
        exact hj
      rw [Nat.zero_add]
      exact ⟨.inr ⟨rfl, by omega⟩, cell_in hblk (by omega)⟩
    · have hj' : j < x.data.size := by simpa using hj
      have : C.getD j undef = .int .u8 (x.data[j].toNat) := by
        rw [Array.getD_eq_getD_getElem?]
        simp only [C]
        rw [Array.getElem?_append_left (by simpa using hj'), Array.getElem?_map, Array.getElem?_eq_getElem hj']
        rfl
      simp only [this, List.getElem_map, Array.getElem_toList]
      exact .v rfl
  · rename_i nl tg n xs hk
    rw [hk] at hc
    obtain ⟨⟨e, hs, he⟩, ht⟩ := hc
    split at h
    · rename_i hl
      rw [Option.map_eq_some_iff] at h
      obtain ⟨l, hb, rfl⟩ := h
      cases ha with
      | p ha =>
        cases ha with
        | nil =>
          cases hb
          exact .of_same hI (r := .string .empty) (by simp [convert, run_underlying hs, run_underlying ht, run_underlying he, Conv.bytesToString]) (.of_leafy rfl)
        | emp =>
          cases hb
          exact .of_same hI (r := .string .empty) (by simp [convert, run_underlying hs, run_underlying ht, run_underlying he, Conv.bytesToString, loadCells, loadCellsFrom]) (.of_leafy rfl)
        | @sl b s' _ cap _ _ _ c n1 n2 n3 n4 n5 =>
          obtain ⟨ns, m1, m2, m3⟩ := bytesOf_sound xs l hb c n5
          have hload : (loadCells ⟨b, s', none⟩ n).run P w = .ok (ns.map (Value.int .u8)).toArray w := by
            rw [← hl, ← m1]
            have := run_loadCells_list (P := P) w ⟨b, s', none⟩ (ns.map (Value.int .u8)) (by
              intro j v hj
              have hlt := getElem?_lt hj
              simp at hlt
              simp [hlt] at hj
              rw [Addr.add_lit, ← hj, (n4 j (by omega)).2, m2 j (by omega)]
              simp [hlt])
            simpa using this
          refine .of_same hI (r := .string ⟨l.toArray⟩) ?_ (.of_leafy rfl)
          have hb := run_bytesToString (P := P) w ⟨b, s', none⟩ n cap ns hload
          rw [push_fold l ByteArray.empty ns m3] at hb
          have : (convert s t (.slice (some ⟨b, s', none⟩) n cap)).run P w = (Conv.bytesToString (.slice (some ⟨b, s', none⟩) n cap)).run P w := by
            simp [convert, run_underlying hs, run_underlying ht, run_underlying he]
          rw [this, hb]
          have he' : (ByteArray.empty.data ++ l.toArray : Array UInt8) = l.toArray := by apply Array.ext'; rw [Array.toList_append]; rfl
          rw [he']
    · cases h
  · cases h

end
end Go.AM

namespace Go.AM
variable [Know]
section
variable {P : Program} {H : Heap} {β : Beta} {F : Frz} {w : World}

/-! ### Structs built -/
theorem places_run (fields : Array Field) (h : fieldsOk P fields = true) : (fields.mapM fun f => do pure (f.offset, ← sizeOf f.type) : Sem (Array (Nat × Nat))).run P w = .ok (fields.map fun f => (f.offset, P.cellsOf f.type)) w := by
  unfold fieldsOk at h
  rw [Array.mapM_eq_mapM_toList]
  have key : ∀ (l : List Field), (l.all fun f => (P.info? f.type).isSome) = true → (l.mapM fun f => do pure (f.offset, ← sizeOf f.type) : Sem (List (Nat × Nat))).run P w = .ok (l.map fun f => (f.offset, P.cellsOf f.type)) w := by
    intro l
    induction l with
    | nil => intro _; simp
    | cons f l ih =>
      intro hl
      simp only [List.all_cons, Bool.and_eq_true] at hl
      obtain ⟨i, hi⟩ := Option.isSome_iff_exists.mp hl.1
      have hs : (sizeOf f.type).run P w = .ok (P.cellsOf f.type) w := by
        unfold sizeOf Program.cellsOf
        simp [run_typeInfo hi, hi]
      rw [List.mapM_cons]
      simp only [Sem.run_bind, hs, Result.andThen_ok, Sem.run_pure, ih hl.2, List.map_cons]
  simp only [Sem.run_map, key _ h, Result.andThen_ok]
  congr 1
  apply Array.ext'
  simp

theorem splice_row {cs : Array Value} {xs : List AV} {vs : Array Value} {ys : List AV} (h : RowA H β F w cs xs) (h' : RowA H β F w vs ys) (off : Nat) (hle : off + ys.length ≤ xs.length) :
    RowA H β F w (vs.zipIdx.foldl (fun cs (p : Value × Nat) => cs.setIfInBounds (off + p.2) p.1) cs) (splice xs off ys) := by
  have e : (vs.zipIdx.foldl (fun cs (p : Value × Nat) => cs.setIfInBounds (off + p.2) p.1) cs) = ((vs.toList.zipIdx 0).foldl (fun cs (p : Value × Nat) => cs.setIfInBounds (off + p.2) p.1) cs) := by
    rw [← Array.foldl_toList, Array.toList_zipIdx]
  obtain ⟨f1, f2⟩ := fold_set off vs.toList 0 cs (by rw [Array.length_toList, h'.1, h.1]; omega)
  rw [e]
  refine ⟨by rw [f1, splice_length]; exact h.1, fun i hi => ?_⟩
  rw [splice_length] at hi
  have hg := splice_get ys xs off i hle
  rw [List.getElem?_eq_getElem (by rw [splice_length]; exact hi)] at hg
  rw [f2 i]
  have hvl : vs.toList.length = ys.length := by rw [Array.length_toList]; exact h'.1
  by_cases hin : off ≤ i ∧ i < off + ys.length
  · rw [if_pos hin] at hg
    rw [if_pos (by omega)]
    have hk : i - off < ys.length := by omega
    rw [List.getElem?_eq_getElem hk] at hg
    simp only [Option.some.injEq] at hg
    rw [hg]
    have := h'.2 _ hk
    rw [Nat.add_zero, List.getD_eq_getElem?_getD]
    rw [Array.getD_eq_getD_getElem?] at this
    simpa using this
  · rw [if_neg hin] at hg
    rw [if_neg (by omega)]
    rw [List.getElem?_eq_getElem hi] at hg
    simp only [Option.some.injEq] at hg
    rw [hg]
    exact h.2 i hi

theorem splice_leaf {xs : List AV} (h : xs.all AV.leaf = true) : ∀ (ys : List AV) (off : Nat), ys.all AV.leaf = true → (splice xs off ys).all AV.leaf = true := by
  intro ys
  induction ys generalizing xs with
  | nil => intro off _; exact h
  | cons y ys ih =>
    intro off hy
    simp only [List.all_cons, Bool.and_eq_true] at hy
    refine ih ?_ _ hy.2
    rw [List.all_eq_true] at h ⊢
    intro x hx
    rcases List.mem_or_eq_of_mem_set hx with h' | h'
    · exact h x h'
    · rw [h']; exact hy.1

theorem buildA_sound {a : Act} {s : Slots} (hs : RS H β F w a s) {fields : Array Field} : ∀ (parts : List (Nat × Operand)) (q : List (Nat × Nat × AV)) (cs : Array Value) (xs : List AV) (C : AV), partsOf P s fields parts = some q → RowA H β F w cs xs → buildA xs q = some C →
    ∃ r ys, Instr.fill (fun i => (fields.map fun f => (f.offset, P.cellsOf f.type))[i]?) cs (parts.map fun p => (p.1, a.eval p.2)) = some r ∧ C = .agg ys ∧ RowA H β F w r ys := by
  intro parts
  induction parts with
  | nil =>
    intro q cs xs C hq hr h
    cases hq
    cases h
    exact ⟨cs, xs, rfl, rfl, hr⟩
  | cons p parts ih =>
    intro q cs xs C hq hr h
    obtain ⟨i, x⟩ := p
    simp only [partsOf] at hq
    split at hq
    · rename_i f q' hf hq'
      cases hq
      simp only [buildA] at h
      split at h
      · rename_i hc
        obtain ⟨c1, c2, c3⟩ := hc
        have hx := ev_sound hs x
        have hrow := hx.cells c3
        have hsz : (a.eval x).cells.size = P.cellsOf f.type := by rw [hrow.1]; exact c1
        obtain ⟨r, ys, r1, r2, r3⟩ := ih q' _ _ C hq' (splice_row hr hrow f.offset (by omega)) h
        refine ⟨r, ys, ?_, r2, r3⟩
        have hpl : (fields.map fun f => (f.offset, P.cellsOf f.type))[i]? = some (f.offset, P.cellsOf f.type) := by rw [Array.getElem?_map, hf]; rfl
        simp only [List.map_cons, Instr.fill, hpl]
        rw [if_neg (by rw [hsz, hr.1]; simp; omega)]
        exact r1
      · cases h
    · cases hq

theorem build_sound (hI : Inv H β F w) {a : Act} {s : Slots} (hs : RS H β F w a s) {t : TypeId} {fields : Array Field} {Z : AV} {parts : Array (Nat × Operand)} {q : List (Nat × Nat × AV)} {C : AV}
    (ht : P.underlying t = some (.struct fields)) (hz : zeroOf P t = some Z) (hf : fieldsOk P fields = true) (hl : Z.cells.all AV.leaf = true) (hq : partsOf P s fields parts.toList = some q) (h : buildA Z.cells q = some C) :
    ∃ r, (Instr.build t (parts.map fun (i, x) => (i, a.eval x))).run P w = .ok r w ∧ RA H β F w r C := by
  unfold zeroOf at hz
  split at hz
  · rename_i i hi
    rw [Option.map_eq_some_iff] at hz
    obtain ⟨z, hz, rfl⟩ := hz
    obtain ⟨r, ys, r1, rfl, r3⟩ := buildA_sound (P := P) hs parts.toList q z.cells (ofValue z).cells C hq ((ofValue_sound z).cells hl) h
    refine ⟨.agg r, ?_, r3.agg⟩
    have hp := places_run (w := w) fields hf
    unfold Instr.build
    simp only [Sem.run_bind, run_zeroValue hi hz, Result.andThen_ok, run_underlying ht, hp]
    have : (parts.map fun (x : Nat × Operand) => (x.1, a.eval x.2)).toList = parts.toList.map fun p => (p.1, a.eval p.2) := by simp
    simp only [this, r1, Sem.run_pure]
  · cases hz

theorem buildArr_sound (hI : Inv H β F w) {a : Act} {s : Slots} (hs : RS H β F w a s) {t e : TypeId} {n : Nat} {d : TypeDesc} {Z : AV} {parts : Array (Nat × Operand)} {C : AV}
    (ht : P.underlying t = some (.array n e)) (hd : P.underlying e = some d) (hz : zeroOf P t = some Z) (hl : Z.cells.all AV.leaf = true) (h : buildA Z.cells (parts.toList.map fun p => (p.1 * P.cellsOf e, P.cellsOf e, ev s p.2)) = some C) :
    ∃ r, (Instr.build t (parts.map fun (i, x) => (i, a.eval x))).run P w = .ok r w ∧ RA H β F w r C := by
  have key : ∀ (ps : List (Nat × Operand)) (cs : Array Value) (xs : List AV) (C : AV), RowA H β F w cs xs → buildA xs (ps.map fun p => (p.1 * P.cellsOf e, P.cellsOf e, ev s p.2)) = some C →
      ∃ r ys, Instr.fill (fun i => some (i * P.cellsOf e, P.cellsOf e)) cs (ps.map fun p => (p.1, a.eval p.2)) = some r ∧ C = .agg ys ∧ RowA H β F w r ys := by
    intro ps
    induction ps with
    | nil =>
      intro cs xs C hr h
      cases h
      exact ⟨cs, xs, rfl, rfl, hr⟩
    | cons p ps ih =>
      intro cs xs C hr h
      obtain ⟨i, x⟩ := p
      simp only [List.map_cons, buildA] at h
      split at h
      · rename_i hc
        obtain ⟨c1, c2, c3⟩ := hc
        have hx := ev_sound hs x
        have hrow := hx.cells c3
        have hsz : (a.eval x).cells.size = P.cellsOf e := by rw [hrow.1]; exact c1
        obtain ⟨r, ys, r1, r2, r3⟩ := ih _ _ C (splice_row hr hrow (i * P.cellsOf e) (by omega)) h
        refine ⟨r, ys, ?_, r2, r3⟩
        simp only [List.map_cons, Instr.fill]
        rw [if_neg (by rw [hsz, hr.1]; simp; omega)]
        exact r1
      · cases h
  unfold zeroOf at hz
  split at hz
  · rename_i i hi
    rw [Option.map_eq_some_iff] at hz
    obtain ⟨z, hz, rfl⟩ := hz
    obtain ⟨r, ys, r1, rfl, r3⟩ := key parts.toList z.cells (ofValue z).cells C ((ofValue_sound z).cells hl) h
    refine ⟨.agg r, ?_, r3.agg⟩
    unfold Instr.build
    simp only [Sem.run_bind, run_zeroValue hi hz, Result.andThen_ok, run_underlying ht, run_sizeOf hd]
    have : (parts.map fun (x : Nat × Operand) => (x.1, a.eval x.2)).toList = parts.toList.map fun p => (p.1, a.eval p.2) := by simp
    simp only [this, r1, Sem.run_pure]
  · cases hz

theorem allocArr_sound (hI : Inv H β F w) {Z : AV} {e : TypeId} {sz : Nat} {cs : List PV} (hz : zeroOf P e = some Z) (hc : pvCells Z.cells = some cs) :
    Runs P H β F w (Instr.alloc e true (.tuple #[])) (mkArr sz cs H).1 (mkArr sz cs H).2 := by
  have hl : Z.cells.all AV.leaf = true := by
    rw [pvCells_inv _ _ hc, List.all_eq_true]
    intro x hx
    obtain ⟨y, _, rfl⟩ := List.mem_map.mp hx
    rfl
  unfold zeroOf at hz
  split at hz
  · rename_i i hi
    rw [Option.map_eq_some_iff] at hz
    obtain ⟨z, hz, rfl⟩ := hz
    have hr : RowA H β F w z.cells (ofValue z).cells := (ofValue_sound z).cells hl
    rw [pvCells_inv _ _ hc] at hr
    have hrun : (Instr.alloc e true (.tuple #[])).run P w = .ok (.pointer (some ⟨w.heap.size, 0, none⟩)) (w.alloc (.cells z.cells e)) := by
      simp [Instr.alloc, newVar, newRow, run_zeroValue hi hz]
    have hsz : z.cells.size = cs.length := by rw [hr.1]; simp
    obtain ⟨i1, i2⟩ := Inv.push (o' := .row 0 sz cs) (nb := some (w.heap.size, 0, cs.length)) hI (alloc_touch (w := w) (.cells z.cells e) _) (fun b s t e => by cases e; exact Nat.le_refl _)
      (fun hE => .inr ⟨w.heap.size, 0, cs.length, z.cells, e, updB_same _ _ _, heap_alloc_new' _, hsz, by omega, fun i hi => by
        have := hr.2 i (by simpa using hi)
        simp only [List.getElem_map] at this
        rw [Nat.zero_add]
        generalize z.cells.getD i undef = v at this ⊢
        cases this with
        | p h => exact h.ext hI hE⟩)
    exact ⟨_, _, _, F, hrun, .rptr ⟨_, rfl⟩ (push_get _ _) (Nat.le_refl _) (fun _ => ⟨w.heap.size, 0, cs.length, updB_same _ _ _, rfl⟩), i1, i2⟩
  · cases hz

theorem fillA_sound (hI : Inv H β F w) {m r : Nat} {Z C : AV} {e : TypeId} {H' : Heap} (hz : zeroOf P e = some Z) (h : fillA m r Z.cells H = some (C, H')) : Runs P H β F w (Instr.alloc e true (.tuple #[])) C H' := by
  unfold fillA at h
  split at h
  · rename_i cs hc ho
    split at h
    · rename_i hq
      cases h
      unfold zeroOf at hz
      split at hz
      · rename_i i hi
        rw [Option.map_eq_some_iff] at hz
        obtain ⟨z, hz, rfl⟩ := hz
        have hcs := pvCells_inv _ _ hc
        have hl : (ofValue z).cells.all AV.leaf = true := by
          rw [hcs]
          simp only [List.all_eq_true, List.mem_map]
          rintro _ ⟨x, _, rfl⟩
          rfl
        have hr : RowA H β F w z.cells (ofValue z).cells := (ofValue_sound z).cells hl
        rw [hcs] at hr
        have hrun : (Instr.alloc e true (.tuple #[])).run P w = .ok (.pointer (some ⟨w.heap.size, 0, none⟩)) (w.alloc (.cells z.cells e)) := by
          simp [Instr.alloc, newVar, newRow, run_zeroValue hi hz]
        have hsz : z.cells.size = cs.length := by rw [hr.1]; simp
        generalize holeAt m r H = id at *
        have hT : Touch w (w.alloc (.cells z.cells e)) (fun k => ∃ s t, β id = some (k, s, t)) := alloc_touch _ _
        obtain ⟨i1, i2⟩ := Inv.update (F' := F) (o' := .box (cs.map .p)) (nb := some (w.heap.size, 0, cs.length)) hI ho hT
          (fun b s t e => by cases e; exact ⟨.inl (Nat.le_refl _), fun j hj => by have := hI.lt hj; omega⟩) trivial (fun _ _ h => h) (fun _ _ h => .inl h)
          (fun b j hj => by
            obtain ⟨v, hv⟩ := hI.fz b j hj
            exact ⟨v, (World.cell?_of_block (w := w) (w' := w.alloc (.cells z.cells e)) (a := ⟨b, j, none⟩) (hT.block b (hI.lt hj) fun ⟨s, t, e⟩ => hI.own _ _ _ _ _ e hj)).trans hv⟩)
          (fun hE => .inr ⟨w.heap.size, z.cells, e, by rw [updB_same]; simp, heap_alloc_new' _, by rw [hsz]; simp, fun i hi => by
            have := hr.2 i (by simpa using hi)
            refine ⟨this.ext hI hE, ?_⟩
            simp [AV.leaf]⟩)
        have hlt := getElem?_lt ho
        exact ⟨_, _, _, F, hrun, .ptr ⟨_, rfl⟩ (List.getElem?_set_self hlt) (fun _ => ⟨w.heap.size, 0, cs.length, updB_same _ _ _, rfl⟩), i1, i2⟩
      · cases hz
    · cases h
  · cases h

theorem cutArr_sound (hI : Inv H β F w) {t e : TypeId} {n : Nat} {d : TypeDesc} {A C : AV} {va : Value} {lo hi : Option AV} {vl vh : Option Value} (ht : P.underlying t = some (.array n e)) (hd : P.underlying e = some d) (h : cutArr (P.cellsOf e) n A lo hi H = some C) (ha : RA H β F w va A)
    (hl : OptRA H β F w vl lo) (hh : OptRA H β F w vh hi) : ∃ r, (Instr.sliceAt t va vl vh none).run P w = .ok r w ∧ RA H β F w r C := by
  unfold cutArr at h
  split at h
  · rename_i id g off
    rw [Option.bind_eq_some_iff] at h
    obtain ⟨l, h1, h⟩ := h
    rw [Option.bind_eq_some_iff] at h
    obtain ⟨k, h2, h⟩ := h
    have e1 := bnd_sound h1 hl
    have e2 := bnd_sound h2 hh
    have e1' := e1.imp (fun e => (⟨e.1, e.2.2⟩ : vl = none ∧ l = 0)) (fun ⟨q, e, _⟩ => (⟨q, e⟩ : ∃ k, vl = some (Value.int k l)))
    have e2' := e2.imp (fun e => (⟨e.1, e.2.2⟩ : vh = none ∧ k = n)) (fun ⟨q, e, _⟩ => (⟨q, e⟩ : ∃ q, vh = some (Value.int q k)))
    split at h
    · rename_i g' sz' xs ho
      split at h
      · rename_i hc
        obtain ⟨rfl, rfl, c1, c2, c3, c4, c5⟩ := hc
        cases h
        cases ha with
        | rptr hv ho' hg hr =>
          rw [ho] at ho'
          cases ho'
          obtain ⟨b, s, t', hb, rfl⟩ := hr rfl
          have hr := bounds_run (P := P) (w := w) (sl := false) (len := n) (cap := n) (vm := none) (m := n) (Nat.le_refl _) e1' e2' (.inl ⟨rfl, rfl⟩) c2 c3 c4 (by omega) (by omega)
          have hmul : l.toNat * P.cellsOf e ≤ n * P.cellsOf e := Nat.mul_le_mul_right _ (by omega)
          have hsum : l.toNat * P.cellsOf e + (n - l.toNat) * P.cellsOf e = n * P.cellsOf e := by rw [← Nat.add_mul]; congr 1; omega
          have hsum2 : l.toNat * P.cellsOf e + (k.toNat - l.toNat) * P.cellsOf e ≤ n * P.cellsOf e := by rw [← Nat.add_mul]; exact Nat.mul_le_mul_right _ (by omega)
          have hst : s + xs.length ≤ t' := by
            rcases hI.obj id _ ho with ⟨_, k1⟩ | ⟨b', s', t'', c, e1, k1, k2, k3, k4, k5⟩
            · rw [hb] at k1; cases k1
            · rw [hb] at k1; cases k1; exact k4
          refine ⟨.slice (some (if n = l.toNat then ⟨b, s + off, none⟩ else (⟨b, s + off, none⟩ : Addr).add (l.toNat * P.cellsOf e))) (k.toNat - l.toNat) (n - l.toNat), ?_, ?_⟩
          · rw [Int.toNat_natCast] at hr
            simp only [Instr.sliceAt, Sem.run_bind, run_underlying ht, Result.andThen_ok, run_sizeOf hd, Sem.run_pure, Int.toNat_natCast]
            simp [Instr.sureAddr, hr]
          · refine .row ⟨_, _, rfl, by omega, fun e => by cases e⟩ ho (Nat.le_refl _) fun _ => ?_
            unfold RowAt
            rw [hb]
            refine ⟨_, _, rfl, ?_, by omega, by omega, by omega⟩
            split
            · exact .inr ⟨by omega, by omega, trivial⟩
            · rw [Addr.add_lit]
              left
              congr 1
              omega
      · cases h
    · cases h
  · rename_i id off
    rw [Option.bind_eq_some_iff] at h
    obtain ⟨l, h1, h⟩ := h
    rw [Option.bind_eq_some_iff] at h
    obtain ⟨k, h2, h⟩ := h
    have e1 := bnd_sound h1 hl
    have e2 := bnd_sound h2 hh
    have e1' := e1.imp (fun e => (⟨e.1, e.2.2⟩ : vl = none ∧ l = 0)) (fun ⟨q, e, _⟩ => (⟨q, e⟩ : ∃ k, vl = some (Value.int k l)))
    have e2' := e2.imp (fun e => (⟨e.1, e.2.2⟩ : vh = none ∧ k = n)) (fun ⟨q, e, _⟩ => (⟨q, e⟩ : ∃ q, vh = some (Value.int q k)))
    split at h
    · rename_i xs ho
      split at h
      · rename_i hc
        obtain ⟨rfl, rfl, hx, hn, c3, c4, c5⟩ := hc
        cases h
        cases ha with
        | ptr hv ho' hp =>
          rw [ho] at ho'
          cases ho'
          obtain ⟨b, s, t', hb, rfl⟩ := hp hx
          have hr := bounds_run (P := P) (w := w) (sl := false) (len := n) (cap := n) (vm := none) (m := n) (Nat.le_refl _) e1' e2' (.inl ⟨rfl, rfl⟩) (by omega) c3 c4 (by omega) (by omega)
          have hne : ¬ n = 0 := by omega
          refine ⟨.slice (some ⟨b, s, none⟩) k.toNat n, ?_, ?_⟩
          · rw [Int.toNat_natCast] at hr
            simp only [Instr.sliceAt, Sem.run_bind, run_underlying ht, Result.andThen_ok, run_sizeOf hd, Sem.run_pure, Int.toNat_natCast]
            simp [Instr.sureAddr, hr, hne, Addr.add_lit]
          · exact .bsl ⟨_, _, rfl, by omega⟩ ho fun _ => ⟨b, s, t', n, hb, rfl⟩
      · cases h
    · cases h
  · cases h

end
end Go.AM
