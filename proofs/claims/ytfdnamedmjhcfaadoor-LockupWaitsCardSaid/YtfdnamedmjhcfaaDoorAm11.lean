/-
Regions in the text's order.
-/
import Derived.Test.YtfdnamedmjhcfaaDoorAm10
set_option linter.unusedVariables false
set_option linter.unusedSimpArgs false
set_option linter.unnecessarySimpa false
set_option linter.unusedSectionVars false
namespace Go.AM
variable [Know]
section
variable {P : Program} {H : Heap} {β : Beta} {F : Frz} {w : World}

theorem exec_out {out : Out} {H : Heap} {K : AV → Heap → Res} {r : List AV × Heap}
    (h : (match out with | .val x => K x H | .opt x => x.bind fun q => K q H | .heap x => x.bind fun q => K q.1 q.2 | .no => none) = some r) : ∃ x H', out.gets H x H' ∧ K x H' = some r := by
  cases out with
  | val x => exact ⟨x, H, ⟨rfl, rfl⟩, h⟩
  | opt x =>
    simp only [Option.bind_eq_some_iff] at h
    obtain ⟨q, h1, h2⟩ := h
    exact ⟨q, H, ⟨h1, rfl⟩, h2⟩
  | heap x =>
    simp only [Option.bind_eq_some_iff] at h
    obtain ⟨⟨q, H'⟩, h1, h2⟩ := h
    exact ⟨q, H', h1, h2⟩
  | no => cases h

theorem gd_inv {c : AV} {want : Bool} {x : Option AV} {q : AV} (h : gd c want x = some q) : (c = B want ∧ x = some q) ∨ (((∃ b, c = B b ∧ b ≠ want) ∨ c = .tup []) ∧ q = undefA) := by
  unfold gd at h
  split at h
  · rename_i b
    split at h
    · rename_i e; rw [e]; exact .inl ⟨rfl, h⟩
    · rename_i e; cases h; exact .inr ⟨.inl ⟨b, rfl, e⟩, rfl⟩
  · cases h; exact .inr ⟨.inr rfl, rfl⟩
  · cases h

theorem gdH_inv {c : AV} {want : Bool} {x : Option (AV × Heap)} {q : AV × Heap} (h : gdH c want x H = some q) : (c = B want ∧ x = some q) ∨ (((∃ b, c = B b ∧ b ≠ want) ∨ c = .tup []) ∧ q = (undefA, H)) := by
  unfold gdH at h
  split at h
  · rename_i b
    split at h
    · rename_i e; rw [e]; exact .inl ⟨rfl, h⟩
    · rename_i e; cases h; exact .inr ⟨.inl ⟨b, rfl, e⟩, rfl⟩
  · cases h; exact .inr ⟨.inr rfl, rfl⟩
  · cases h

theorem yielded_at {ops : Array Oper} {a : Act} {s : Slots} (hs : RS H β F w a s) {j : Nat} {d : Tmp} (hd : (ops[j]?).bind (·.dst) = some d) :
    (∀ b, s d = B b → yielded ops a.tmps j = some b) ∧ (s d = .tup [] → yielded ops a.tmps j = none) := by
  have h := hs d
  have hy : yielded ops a.tmps j = (match a.tmps[d]? with | some (.bool b) => some b | _ => none) := by
    unfold yielded
    rw [hd]
    rfl
  rw [Array.getD_eq_getD_getElem?] at h
  refine ⟨fun b e => ?_, fun e => ?_⟩
  · rw [e] at h
    have hv := h.v_inv.1
    rw [hy]
    cases ht : a.tmps[d]? with
    | none => rw [ht] at hv; simp [undef] at hv
    | some v => rw [ht] at hv; simp at hv; subst hv; rfl
  · rw [e] at h
    rw [hy]
    cases ht : a.tmps[d]? with
    | none => rfl
    | some v =>
      rw [ht] at h
      simp only [Option.getD_some] at h
      cases h
      rfl

theorem runOp_inv {cfg : Cfg} {O : Oracle} {f : FuncId} {lo : List Nat} {all : Array Oper} {o : Oper} {a : Act} {s : Slots} {K : AV → Heap → Res} {r : List AV × Heap} (hs : RS H β F w a s) (h : runOp P cfg O f lo all o s H K = some r) :
    (Region.wanted o (yielded all a.tmps) = true ∧ ∃ x H', (exec2 P cfg O f lo o s H).gets H x H' ∧ K x H' = some r) ∨ (Region.wanted o (yielded all a.tmps) = false ∧ K undefA H = some r) := by
  unfold runOp at h
  cases hg : o.guard with
  | none =>
    rw [hg] at h
    left
    refine ⟨by simp [Region.wanted, hg], exec_out ?_⟩
    generalize exec2 P cfg O f lo o s H = out at h ⊢
    cases out <;> exact h
  | some p =>
    obtain ⟨j, want⟩ := p
    rw [hg] at h
    simp only at h
    cases hd : (all[j]?).bind (·.dst) with
    | none => rw [hd] at h; cases h
    | some d =>
      rw [hd] at h
      simp only at h
      obtain ⟨y1, y2⟩ := yielded_at hs hd
      have yes : s d = B want → Region.wanted o (yielded all a.tmps) = true := fun e => by simp [Region.wanted, hg, y1 want e]
      have no : ((∃ b, s d = B b ∧ b ≠ want) ∨ s d = .tup []) → Region.wanted o (yielded all a.tmps) = false := by
        rintro (⟨b, e, hb⟩ | e)
        · simp [Region.wanted, hg, y1 b e, hb]
        · simp [Region.wanted, hg, y2 e]
      generalize exec2 P cfg O f lo o s H = out at h ⊢
      cases out with
      | val x =>
        simp only [Option.bind_eq_some_iff] at h
        obtain ⟨q, h1, h2⟩ := h
        rcases gd_inv h1 with ⟨e, e2⟩ | ⟨e, rfl⟩
        · cases e2; exact .inl ⟨yes e, _, H, ⟨rfl, rfl⟩, h2⟩
        · exact .inr ⟨no e, h2⟩
      | opt x =>
        simp only [Option.bind_eq_some_iff] at h
        obtain ⟨q, h1, h2⟩ := h
        rcases gd_inv h1 with ⟨e, e2⟩ | ⟨e, rfl⟩
        · exact .inl ⟨yes e, q, H, ⟨e2, rfl⟩, h2⟩
        · exact .inr ⟨no e, h2⟩
      | heap x =>
        simp only [Option.bind_eq_some_iff] at h
        obtain ⟨⟨q, H'⟩, h1, h2⟩ := h
        rcases gdH_inv h1 with ⟨e, e2⟩ | ⟨e, e2⟩
        · exact .inl ⟨yes e, q, H', e2, h2⟩
        · cases e2; exact .inr ⟨no e, h2⟩
      | no => cases h

theorem undef_ra {H : Heap} {β : Beta} {F : Frz} {w : World} : RA H β F w undef undefA := .tup rfl fun i hi => by simp at hi

/-- What a continuation of the abstract machine promises of the program's. -/
def Cont (r : List AV × Heap) (lo : List Nat) (H : Heap) (β : Beta) (F : Frz) (w : World) (a : Act) (s : Slots) (K : Slots → Heap → Res) (Q : Act → World → Prop) : Prop :=
  ∀ s' H' a' w' β' F', K s' H' = some r → Inv H' β' F' w' → Ext H β F w H' β' F' w' → RS H' β' F' w' a' s' → LowAll lo H' → a'.tmps.size = a.tmps.size → a'.defers = a.defers → Q a' w'

theorem defers_put (a : Act) (d : Option Tmp) (v : Value) : (a.put d v).defers = a.defers := by cases d <;> rfl

theorem agree_inv {l : List (AV × Heap)} {K : AV → Heap → Res} {r : List AV × Heap} (h : agree l K = some r) : ∀ y ∈ l, K y.1 y.2 = some r := by
  unfold agree at h
  split at h
  · cases h
  · rw [Option.bind_eq_some_iff] at h
    obtain ⟨q, h1, h2⟩ := h
    obtain ⟨rfl, k⟩ := (agreeR_iff _).mp h2
    intro y hy
    rcases List.mem_cons.mp hy with e | e
    · rw [e]; exact h1
    · exact k y e

theorem opsRunN_sound {cfg : Cfg} {O : Oracle} (hO : EntOk P O) {f : FuncId} {lo : List Nat} {ops : Array Oper} {r : List AV × Heap} {Q : Exit → Act → World → Prop} {nt : Nat} (hd : dstsOk nt ops = true) :
    ∀ (rest : List Oper) (i : Nat) (H : Heap) (β : Beta) (F : Frz) (w : World) (a : Act) (s : Slots) (K : Slots → Heap → Res), ops.toList.drop i = rest → opsRunN P cfg O f lo ops rest s H K = some r →
      Inv H β F w → RS H β F w a s → LowAll lo H → a.tmps.size = nt → Cont r lo H β F w a s K (Q .normal) → ∀ ro, wpOpsIn (FR ro) 0 P ops Q (List.range' i rest.length) a w := by
  intro rest
  induction rest with
  | nil =>
    intro i H β F w a s K _ h hI hs hlo hn hK ro
    exact hK s H a w β F h hI (Ext.refl _ _ _ _) hs hlo rfl rfl
  | cons o rest ih =>
    intro i H β F w a s K hdrop h hI hs hlo hn hK ro
    have hi : ops.toList[i]? = some o := by
      have := congrArg (fun l => l[0]?) hdrop
      simpa [List.getElem?_drop] using this
    have hi' : ops[i]? = some o := by simpa using hi
    have hrest : ops.toList.drop (i + 1) = rest := by
      have := congrArg (List.drop 1) hdrop
      simpa [List.drop_drop] using this
    have hall := List.all_eq_true.mp hd o (List.mem_of_getElem? hi)
    rw [Bool.and_eq_true] at hall
    have hnd := hall.1
    have hdst : ∀ t, o.dst = some t → t < a.tmps.size := by
      intro t ht
      have := hall.2
      rw [ht] at this
      rw [hn]
      simpa [Nat.blt_eq] using this
    rw [List.length_cons, List.range'_succ]
    simp only [wpOpsIn, hi']
    simp only [opsRunN] at h
    unfold runOpN at h
    split at h
    · rename_i x hop
      split at h
      · rename_i hg
        rw [Option.bind_eq_some_iff] at h
        obtain ⟨l, hl, h⟩ := h
        obtain ⟨y, hy, hrun⟩ := next_sound (P := P) (ty := o.type) hI hl (ev_sound hs x)
        have hk := agree_inv h y hy
        have hw : Region.wanted o (yielded ops a.tmps) = true := by simp [Region.wanted, hg]
        rw [if_pos hw]
        have d1 : OpDoes P H β F o a w y.1 y.2 := .of_runs (by simp only [execOp, hop]) hrun
        refine d1 _ Q (fun v w' β' F' hv hI' hE => ?_) ro hnd
        refine ih (i + 1) y.2 β' F' w' (a.put o.dst v) (setDst o.dst y.1 s) K hrest hk hI' ((hs.ext hI hE).put hv hdst) (nextA_low hlo hl y hy) (by rw [size_put]; exact hn) ?_ ro
        intro s2 H2 a2 w2 β2 F2 q1 q2 q3 q4 q5 q6 q7
        exact hK s2 H2 a2 w2 β2 F2 q1 q2 (hE.trans q3) q4 q5 (by rw [q6, size_put]) (by rw [q7, defers_put])
      · cases h
    rcases runOp_inv hs h with ⟨hw, x, H1, hx, hk⟩ | ⟨hw, hk⟩
    · rw [if_pos hw]
      obtain ⟨d1, d2⟩ := exec2_sound hO hI hs hlo hx
      refine d1 _ Q (fun v w' β' F' hv hI' hE => ?_) ro hnd
      refine ih (i + 1) H1 β' F' w' (a.put o.dst v) (setDst o.dst x s) K hrest hk hI' ((hs.ext hI hE).put hv hdst) d2 (by rw [size_put]; exact hn) ?_ ro
      intro s2 H2 a2 w2 β2 F2 q1 q2 q3 q4 q5 q6 q7
      exact hK s2 H2 a2 w2 β2 F2 q1 q2 (hE.trans q3) q4 q5 (by rw [q6, size_put]) (by rw [q7, defers_put])
    · rw [if_neg (by rw [hw]; simp)]
      refine ⟨fun _ _ => trivial, ?_⟩
      refine ih (i + 1) H β F w (a.put o.dst undef) (setDst o.dst undefA s) K hrest hk hI (hs.put undef_ra hdst) hlo (by rw [size_put]; exact hn) ?_ ro
      intro s2 H2 a2 w2 β2 F2 q1 q2 q3 q4 q5 q6 q7
      exact hK s2 H2 a2 w2 β2 F2 q1 q2 q3 q4 q5 (by rw [q6, size_put]) (by rw [q7, defers_put])

/-- A region in the text's order. -/
theorem region_sound {cfg : Cfg} {O : Oracle} (hO : EntOk P O) {f : FuncId} {lo : List Nat} {id : Nat} {ops : Array Oper} {r : List AV × Heap} {Q : Exit → Act → World → Prop} {a : Act} {s : Slots} {K : Slots → Heap → Res} {ro : Option Nat}
    (hd : dstsOk a.tmps.size ops = true) (h : opsRunN P cfg O f lo ops ops.toList s H K = some r) (hI : Inv H β F w) (hs : RS H β F w a s) (hlo : LowAll lo H) (hK : Cont r lo H β F w a s K (Q .normal)) : (Code.region id ops false).wpIn (FR ro) 0 P Q a w := by
  refine wpIn_region ?_
  have := opsRunN_sound hO hd ops.toList 0 H β F w a s K (by simp) h hI hs hlo rfl hK ro
  rwa [Array.length_toList, ← List.range_eq_range'] at this

end
end Go.AM
