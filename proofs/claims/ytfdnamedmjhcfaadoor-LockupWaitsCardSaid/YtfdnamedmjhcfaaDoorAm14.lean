/-
The machine's answers, fuel aside: the limit, and that it answers as its own equations say.
-/
import Derived.Test.YtfdnamedmjhcfaaDoorAm13
set_option linter.unusedVariables false
set_option linter.unusedSimpArgs false
set_option linter.unnecessarySimpa false
set_option linter.unusedSectionVars false
namespace Go.AM
variable [Know]

/-- A relation of a family of answers with one answer that lasts through what is done with them. -/
structure Lim (ι : Type) where
  rel : {α : Type} → (ι → Option α) → Option α → Prop
  const : ∀ {α : Type} (y : Option α), rel (fun _ => y) y
  bind : ∀ {α β : Type} {g : ι → Option α} {y : Option α} {h : ι → α → Option β} {z : α → Option β}, rel g y → (∀ r, rel (fun i => h i r) (z r)) → rel (fun i => (g i).bind (h i)) (y.bind z)

theorem Lim.map {ι : Type} (L : Lim ι) {α β : Type} {g : ι → Option α} {y : Option α} {f : α → β} (h : L.rel g y) : L.rel (fun i => (g i).map f) (y.map f) := by
  have := L.bind (h := fun _ r => some (f r)) (z := fun r => some (f r)) h fun r => L.const _
  simpa only [Option.map_eq_bind, Function.comp_def] using this

def leLim : Lim Unit where
  rel g y := ∀ r, g () = some r → y = some r
  const y r h := h
  bind := by
    intro α β g y h z hg hz r hr
    rw [Option.bind_eq_some_iff] at hr ⊢
    obtain ⟨a, h1, h2⟩ := hr
    exact ⟨a, hg a h1, hz a r h2⟩

def evLim : Lim Nat where
  rel g y := ∃ n, ∀ m, n ≤ m → g m = y
  const y := ⟨0, fun _ _ => rfl⟩
  bind := by
    intro α β g y h z hg hz
    obtain ⟨n, hn⟩ := hg
    cases y with
    | none => exact ⟨n, fun m hm => by show (g m).bind (h m) = _; rw [hn m hm]; rfl⟩
    | some a =>
      obtain ⟨k, hk⟩ := hz a
      exact ⟨n + k, fun m hm => by show (g m).bind (h m) = _; rw [hn m (by omega)]; exact hk m (by omega)⟩

section
variable {P : Program} {cfg : Cfg} {ι : Type} (L : Lim ι) {Og : ι → Oracle} {D : Oracle}

structure RelO (L : Lim ι) (Og : ι → Oracle) (D : Oracle) : Prop where
  ent : ∀ f args lo H, L.rel (fun i => (Og i).ent f args lo H) (D.ent f args lo H)
  lab : ∀ f keep todo vals lo H, L.rel (fun i => (Og i).lab f keep todo vals lo H) (D.lab f keep todo vals lo H)

variable {L} (hR : RelO L Og D)
include hR

theorem callA_rel (g : FuncId) (args : List AV) (lo : List Nat) (H : Heap) : L.rel (fun i => callA cfg (Og i) g args lo H) (callA cfg D g args lo H) := by
  unfold callA
  split
  · refine L.bind (L.const _) fun q => ?_
    exact L.bind (hR.ent ..) fun r => L.const _
  · exact L.bind (hR.ent ..) fun r => L.const _
  · exact L.bind (hR.ent ..) fun r => L.const _
  · exact L.bind (hR.ent ..) fun r => L.const _
  · refine L.bind (hR.ent ..) fun r => L.bind (L.const _) fun _ => ?_
    unfold holeH
    split
    · exact L.bind (hR.ent ..) fun r => L.const _
    · exact L.const _
  · exact L.bind (hR.ent ..) fun r => L.const _
  · refine L.bind (hR.ent ..) fun r => L.bind (L.const _) fun _ => ?_
    unfold lastH
    split
    · split
      · exact L.bind (hR.ent ..) fun r => L.const _
      · exact L.const _
    · exact L.const _
  · refine L.bind (L.const _) fun q => ?_
    split
    · exact L.bind (hR.ent ..) fun r => L.const _
    · exact L.const _
  · exact L.map (hR.ent ..)

theorem callV_rel (x : AV) (args : List AV) (lo : List Nat) (H : Heap) : L.rel (fun i => callV cfg (Og i) x args lo H) (callV cfg D x args lo H) := by
  unfold callV
  cases x with
  | fn g first cap => exact callA_rel hR ..
  | _ => exact L.const _

theorem callC_rel (q : Option ClK) (x : AV) (args : List AV) (lo : List Nat) (H : Heap) : L.rel (fun i => callC cfg (Og i) q x args lo H) (callC cfg D q x args lo H) := by
  unfold callC
  split
  · exact callV_rel hR ..
  · exact L.const _

theorem callP_rel (g : FuncId) (args : List AV) : L.rel (fun i => callP (Og i) g args) (callP D g args) := by
  unfold callP
  split
  · refine L.bind (hR.ent ..) fun r => L.const _
  · exact L.const _

theorem fillC_rel (m r k : Nat) (g : FuncId) (args : List AV) (H : Heap) : L.rel (fun i => fillC (Og i) m r k g args H) (fillC D m r k g args H) := by
  unfold fillC
  split
  · exact L.bind (hR.ent ..) fun r => L.const _
  · exact L.const _

theorem exec1_rel (f : FuncId) (lo : List Nat) (o : Oper) (s : Slots) (H : Heap) :
    (∃ out, ∀ O, exec1 P cfg O f lo o s H = out) ∨ (∃ φ : Oracle → Option (AV × Heap), (∀ O, exec1 P cfg O f lo o s H = .heap (φ O)) ∧ L.rel (fun i => φ (Og i)) (φ D)) := by
  obtain ⟨dst, op, guard⟩ := o
  cases op
  case call c =>
    obtain ⟨callee, args, argTypes⟩ := c
    cases callee with
    | builtin b => exact .inl ⟨_, fun O => rfl⟩
    | invoke _ _ => exact .inl ⟨_, fun O => rfl⟩
    | value g =>
      cases g with
      | func g => exact .inr ⟨fun O => callA cfg O g (args.toList.map (ev s)) lo H, fun O => rfl, callA_rel hR ..⟩
      | tmp g => exact .inr ⟨fun O => callC cfg O (cfg.clos f _) (ev s (.tmp g)) (args.toList.map (ev s)) lo H, fun O => rfl, callC_rel hR ..⟩
      | const g => exact .inr ⟨fun O => callC cfg O (cfg.clos f _) (ev s (.const g)) (args.toList.map (ev s)) lo H, fun O => rfl, callC_rel hR ..⟩
      | global g => exact .inr ⟨fun O => callC cfg O (cfg.clos f _) (ev s (.global g)) (args.toList.map (ev s)) lo H, fun O => rfl, callC_rel hR ..⟩
  case makeFunc x fs cs => cases x <;> exact .inl ⟨_, fun O => rfl⟩
  all_goals exact .inl ⟨_, fun O => rfl⟩

theorem exec2_rel (f : FuncId) (lo : List Nat) (o : Oper) (s : Slots) (H : Heap) :
    (∃ out, ∀ O, exec2 P cfg O f lo o s H = out) ∨ (∃ φ : Oracle → Option (AV × Heap), (∀ O, exec2 P cfg O f lo o s H = .heap (φ O)) ∧ L.rel (fun i => φ (Og i)) (φ D)) := by
  unfold exec2
  cases spOf cfg f o with
  | none => exact exec1_rel hR f lo o s H
  | some k =>
    obtain ⟨dst, op, type, pos, after, guard⟩ := o
    cases k with
    | pc =>
      cases op
      case call c =>
        obtain ⟨callee, args, argTypes⟩ := c
        cases callee with
        | value g =>
          cases g with
          | func g => exact .inr ⟨fun O => (callP O g (args.toList.map (ev s))).map fun v => (v, H), fun O => rfl, L.map (callP_rel hR ..)⟩
          | _ => exact .inl ⟨_, fun O => rfl⟩
        | builtin b => cases b <;> exact .inl ⟨_, fun O => rfl⟩
        | invoke _ _ => exact .inl ⟨_, fun O => rfl⟩
      all_goals exact .inl ⟨_, fun O => rfl⟩
    | thw m r k =>
      cases op
      case call c =>
        obtain ⟨callee, args, argTypes⟩ := c
        cases callee with
        | value g =>
          cases g with
          | func g => exact .inr ⟨fun O => fillC O m r k g (args.toList.map (ev s)) H, fun O => rfl, fillC_rel hR ..⟩
          | _ => exact .inl ⟨_, fun O => rfl⟩
        | builtin b => exact .inl ⟨_, fun O => rfl⟩
        | invoke _ _ => exact .inl ⟨_, fun O => rfl⟩
      all_goals exact .inl ⟨_, fun O => rfl⟩
    | _ => cases op <;> exact .inl ⟨_, fun O => rfl⟩

theorem runOp_rel (f : FuncId) (lo : List Nat) (all : Array Oper) (o : Oper) (s : Slots) (H : Heap) {K : ι → AV → Heap → Res} {K' : AV → Heap → Res} (hK : ∀ x H, L.rel (fun i => K i x H) (K' x H)) :
    L.rel (fun i => runOp P cfg (Og i) f lo all o s H (K i)) (runOp P cfg D f lo all o s H K') := by
  unfold runOp
  rcases exec2_rel (P := P) (cfg := cfg) hR f lo o s H with ⟨out, ho⟩ | ⟨φ, ho, hφ⟩
  · simp only [ho]
    cases hg : o.guard with
    | none =>
      simp only
      cases out with
      | val x => exact hK _ _
      | opt x => exact L.bind (L.const _) fun r => hK _ _
      | heap x => exact L.bind (L.const _) fun r => hK _ _
      | no => exact L.const _
    | some jw =>
      obtain ⟨j, want⟩ := jw
      simp only
      cases hd : (all[j]?).bind (·.dst) with
      | none => exact L.const _
      | some d =>
        simp only
        cases out with
        | val x => exact L.bind (L.const _) fun r => hK _ _
        | opt x => exact L.bind (L.const _) fun r => hK _ _
        | heap x => exact L.bind (L.const _) fun r => hK _ _
        | no => exact L.const _
  · simp only [ho]
    cases hg : o.guard with
    | none => exact L.bind hφ fun r => hK _ _
    | some jw =>
      obtain ⟨j, want⟩ := jw
      simp only
      cases hd : (all[j]?).bind (·.dst) with
      | none => exact L.const _
      | some d =>
        simp only
        refine L.bind ?_ fun r => hK _ _
        unfold gdH
        split
        · split
          · exact hφ
          · exact L.const _
        · exact L.const _
        · exact L.const _

theorem opsRun_rel (f : FuncId) (lo : List Nat) (all : Array Oper) : ∀ (l : List Oper) (s : Slots) (H : Heap) {K : ι → Slots → Heap → Res} {K' : Slots → Heap → Res}, (∀ x H, L.rel (fun i => K i x H) (K' x H)) →
    L.rel (fun i => opsRun P cfg (Og i) f lo all l s H (K i)) (opsRun P cfg D f lo all l s H K') := by
  intro l
  induction l with
  | nil => intro s H K K' hK; exact hK s H
  | cons o l ih =>
    intro s H K K' hK
    simp only [opsRun]
    exact runOp_rel hR f lo all o s H (K := fun i x H' => opsRun P cfg (Og i) f lo all l (setDst o.dst x s) H' (K i)) fun x H' => ih _ _ hK

omit hR in
theorem agree_rel (l : List (AV × Heap)) {K : ι → AV → Heap → Res} {K' : AV → Heap → Res} (hK : ∀ x H, L.rel (fun i => K i x H) (K' x H)) : L.rel (fun i => agree l (K i)) (agree l K') := by
  have key : ∀ (r : List AV × Heap) (l : List (AV × Heap)), L.rel (fun i => agreeR r (K i) l) (agreeR r K' l) := by
    intro r l
    induction l with
    | nil => exact L.const _
    | cons y l ih =>
      simp only [agreeR]
      refine L.bind (hK y.1 y.2) fun q => ?_
      split
      · exact ih
      · exact L.const _
  unfold agree
  cases l with
  | nil => exact L.const _
  | cons x l => exact L.bind (hK x.1 x.2) fun r => key r l

theorem opsRunN_rel (f : FuncId) (lo : List Nat) (all : Array Oper) : ∀ (l : List Oper) (s : Slots) (H : Heap) {K : ι → Slots → Heap → Res} {K' : Slots → Heap → Res}, (∀ x H, L.rel (fun i => K i x H) (K' x H)) →
    L.rel (fun i => opsRunN P cfg (Og i) f lo all l s H (K i)) (opsRunN P cfg D f lo all l s H K') := by
  intro l
  induction l with
  | nil => intro s H K K' hK; exact hK s H
  | cons o l ih =>
    intro s H K K' hK
    simp only [opsRunN]
    unfold runOpN
    split
    · split
      · exact L.bind (L.const _) fun l' => agree_rel l' fun x H' => ih _ _ hK
      · exact L.const _
    · exact runOp_rel hR f lo all o s H (K := fun i x H' => opsRunN P cfg (Og i) f lo all l (setDst o.dst x s) H' (K i)) fun x H' => ih _ _ hK

theorem loopIn_rel (f : FuncId) (c : Code) (k : List It) (s : Slots) (lo : List Nat) (H : Heap) : L.rel (fun i => loopIn cfg (Og i) f c k s lo H) (loopIn cfg D f c k s lo H) := by
  unfold loopIn
  cases hl : cfg.lab f (2 * keyOf c) with
  | none => exact L.const _
  | some l =>
    simp only
    cases ho : l.own with
    | nil => exact hR.lab ..
    | cons x r => exact L.bind (L.const _) fun r => hR.lab ..

theorem loopOn_rel (f : FuncId) (c : Code) (b : Option Nat) (k : List It) (s : Slots) (lo : List Nat) (H : Heap) : L.rel (fun i => loopOn cfg (Og i) f c b k s lo H) (loopOn cfg D f c b k s lo H) := by
  unfold loopOn
  cases hl : cfg.lab f (2 * keyOf c) with
  | none => exact L.const _
  | some l =>
    cases b with
    | none => exact hR.lab ..
    | some b =>
      simp only
      split
      · exact hR.lab ..
      · exact L.const _

theorem arun_rel (f : FuncId) (lo : List Nat) : ∀ (n : Nat) (todo : List It) (s : Slots) (H : Heap), L.rel (fun i => arun P cfg (Og i) f lo n todo s H) (arun P cfg D f lo n todo s H) := by
  intro n
  induction n with
  | zero => intro todo s H; simp only [arun]; exact L.const _
  | succ n ih =>
    intro todo s H
    cases todo with
    | nil => simp only [arun]; exact L.const _
    | cons x k =>
      cases x with
      | blk id => simp only [arun]; exact ih ..
      | jn =>
        cases k with
        | nil => simp only [arun]; exact L.const _
        | cons y k =>
          cases y with
          | code c =>
            simp only [arun]
            cases hl : cfg.lab f (2 * keyOf c + 1) with
            | none => exact L.const _
            | some l => exact hR.lab ..
          | _ => simp only [arun]; exact L.const _
      | lp c b => simp only [arun]; exact loopOn_rel hR ..
      | rf R => simp only [arun]; exact L.const _
      | code c =>
        cases c with
        | skip => simp only [arun]; exact ih ..
        | seq x y =>
          simp only [arun]
          cases hl : cfg.lab f (2 * keyOf y + 1) with
          | none => exact ih ..
          | some l => exact ih ..
        | region id ops draw =>
          simp only [arun]
          split
          · split
            · exact opsRun_rel hR f _ ops _ _ _ (K := fun i s' H' => arun P cfg (Og i) f lo n k s' H') fun _ _ => ih ..
            · exact opsRunN_rel hR f _ ops _ _ _ (K := fun i s' H' => arun P cfg (Og i) f lo n k s' H') fun _ _ => ih ..
          · exact L.const _
        | cond x y z =>
          simp only [arun, cond]
          cases truth (ev s x) with
          | none => exact L.const _
          | some b => cases b <;> exact ih ..
        | block id c => simp only [arun]; exact ih ..
        | loop c => simp only [arun]; exact loopIn_rel hR ..
        | exit id =>
          simp only [arun]
          cases exitToA id k with
          | none => exact L.const _
          | some k' => exact ih ..
        | ret => simp only [arun]; exact L.const _
        | rangeFunc g ps x y =>
          simp only [arun]
          cases cfg.rng f (keyOf y) with
          | none => exact L.const _
          | some q =>
            obtain ⟨gf, agg, sz⟩ := q
            cases cfg.lab f (2 * keyOf y) with
            | none => exact L.const _
            | some l =>
              simp only
              split
              · exact L.bind (L.const _) fun q => L.bind (L.const _) fun sl => L.bind (L.const _) fun m => L.bind (L.const _) fun i => hR.lab ..
              · exact L.const _
        | _ => simp only [arun]; exact L.const _

theorem rndOn_rel (f : FuncId) (d : Rnd) (H : Heap) : L.rel (fun i => rndOn (Og i) f d H) (rndOn D f d H) := by
  unfold rndOn
  refine L.bind (L.const _) fun i => ?_
  cases d.R.b with
  | none => exact hR.lab ..
  | some b =>
    simp only
    split
    · exact hR.lab ..
    · exact L.const _

theorem arnd_rel (f : FuncId) (N : Nat) (d : Rnd) : ∀ (n : Nat) (todo : List It) (s : Slots) (H : Heap), L.rel (fun i => arnd P cfg (Og i) f N d n todo s H) (arnd P cfg D f N d n todo s H) := by
  intro n
  induction n with
  | zero => intro todo s H; simp only [arnd]; exact L.const _
  | succ n ih =>
    intro todo s H
    cases todo with
    | nil => simp only [arnd]; exact rndOn_rel hR ..
    | cons x k =>
      cases x with
      | blk id => simp only [arnd]; exact ih ..
      | jn =>
        simp only [arnd]
        split
        · exact ih ..
        · exact L.const _
      | lp c b => simp only [arnd]; exact L.const _
      | rf R => simp only [arnd]; exact L.const _
      | code c =>
        cases c with
        | skip => simp only [arnd]; exact ih ..
        | seq x y => simp only [arnd]; exact ih ..
        | region id ops draw =>
          simp only [arnd]
          split
          · split
            · exact opsRun_rel hR f _ ops _ _ _ (K := fun i s' H' => arnd P cfg (Og i) f N d n k s' H') fun _ _ => ih ..
            · exact opsRunN_rel hR f _ ops _ _ _ (K := fun i s' H' => arnd P cfg (Og i) f N d n k s' H') fun _ _ => ih ..
          · exact L.const _
        | cond x y z =>
          simp only [arnd, cond]
          cases truth (ev s x) with
          | none => exact L.const _
          | some b => cases b <;> exact ih ..
        | block id c => simp only [arnd]; exact ih ..
        | exit id =>
          simp only [arnd]
          split
          · cases exitToA id k with
            | some k' => exact ih ..
            | none =>
              simp only
              cases exitToA id d.k with
              | none => exact L.const _
              | some k' => exact arun_rel hR ..
          · exact L.const _
        | ret =>
          simp only [arnd]
          split
          · exact L.const _
          · exact L.const _
        | _ => simp only [arnd]; exact L.const _

theorem cmpRow_rel (cl a : AV) : ∀ bs : List AV, L.rel (fun i => cmpRow cfg (Og i) cl a bs) (cmpRow cfg D cl a bs) := by
  intro bs
  induction bs with
  | nil => exact L.const _
  | cons b bs ih =>
    simp only [cmpRow]
    refine L.bind ?_ fun z => L.bind ih fun zs => L.const _
    exact L.bind (callV_rel hR ..) fun r => L.const _
theorem cmpTab_rel (cl : AV) (all : List AV) : ∀ as : List AV, L.rel (fun i => cmpTab cfg (Og i) cl all as) (cmpTab cfg D cl all as) := by
  intro as
  induction as with
  | nil => exact L.const _
  | cons a as ih =>
    simp only [cmpTab]
    exact L.bind (cmpRow_rel hR cl a all) fun r => L.bind ih fun rs => L.const _
theorem sortRun_rel (k : Bool × Nat) (args : List AV) (H : Heap) : L.rel (fun i => sortRun cfg (Og i) k args H) (sortRun cfg D k args H) := by
  unfold sortRun
  split
  · exact L.const _
  · split
    · split
      · exact L.bind (cmpTab_rel hR ..) fun tab => L.const _
      · exact L.const _
    · exact L.const _
  · exact L.const _

theorem extRun_rel (k : ExtK) (args : List AV) (H : Heap) : L.rel (fun i => extRun cfg (Og i) k args H) (extRun cfg D k args H) := by
  cases k with
  | sort a n => exact sortRun_rel hR (a, n) args H
  | ints => exact L.const _
  | del => exact L.const _
  | fields => exact L.const _

theorem entRun_rel (f : FuncId) (args : List AV) (lo : List Nat) (H : Heap) : L.rel (fun i => entRun P cfg (Og i) f args lo H) (entRun P cfg D f args lo H) := by
  unfold entRun
  cases hx : cfg.ext f with
  | some k => exact extRun_rel hR k args H
  | none =>
  simp only
  cases primOf P f with
  | some k => exact L.const _
  | none =>
  simp only
  cases P.funcs[f]? with
  | none => exact L.const _
  | some fn =>
    simp only
    cases fn.body with
    | none => exact L.const _
    | some c =>
      simp only
      split
      · exact arun_rel hR ..
      · exact L.const _

theorem labRun_rel (f : FuncId) (keep : List Nat) (todo : List It) (vals : List AV) (lo : List Nat) (H : Heap) : L.rel (fun i => labRun P cfg (Og i) f keep todo vals lo H) (labRun P cfg D f keep todo vals lo H) := by
  unfold labRun
  split
  · exact arun_rel hR ..
  · split
    · refine L.bind (L.const _) fun t => ?_
      unfold cond
      split
      · exact arun_rel hR ..
      · exact L.bind (L.const _) fun sl => L.bind (L.const _) fun p => L.bind (L.const _) fun e => arnd_rel hR ..
      · exact L.const _
    · exact L.const _
  · exact arun_rel hR ..

end

section
variable {P : Program} {cfg : Cfg}

theorem denF_step : ∀ n, RelO leLim (fun _ => denF P cfg n) (denF P cfg (n + 1)) := by
  intro n
  induction n with
  | zero => exact ⟨fun _ _ _ _ _ h => (by cases h), fun _ _ _ _ _ _ _ h => (by cases h)⟩
  | succ n ih => exact ⟨fun f args lo H => entRun_rel ih f args lo H, fun f keep todo vals lo H => labRun_rel ih f keep todo vals lo H⟩

theorem denF_ent_mono {n m : Nat} (h : n ≤ m) {f : FuncId} {args : List AV} {lo : List Nat} {H : Heap} {r : List AV × Heap} (e : (denF P cfg n).ent f args lo H = some r) : (denF P cfg m).ent f args lo H = some r := by
  induction h with
  | refl => exact e
  | step _ ih => exact (denF_step _).ent f args lo H r ih

theorem denF_lab_mono {n m : Nat} (h : n ≤ m) {f : FuncId} {keep : List Nat} {todo : List It} {vals : List AV} {lo : List Nat} {H : Heap} {r : List AV × Heap} (e : (denF P cfg n).lab f keep todo vals lo H = some r) : (denF P cfg m).lab f keep todo vals lo H = some r := by
  induction h with
  | refl => exact e
  | step _ ih => exact (denF_step _).lab f keep todo vals lo H r ih

open Classical in
/-- What a family of answers comes to. -/
noncomputable def sup (g : Nat → Res) : Res := if h : ∃ n r, g n = some r then g h.choose else none

theorem sup_rel {g : Nat → Res} (hm : ∀ n m r, n ≤ m → g n = some r → g m = some r) : evLim.rel g (sup g) := by
  unfold sup
  split
  · rename_i h
    obtain ⟨r, hr⟩ := h.choose_spec
    exact ⟨h.choose, fun m hle => by rw [hr]; exact hm _ _ _ hle hr⟩
  · rename_i h
    refine ⟨0, fun m _ => ?_⟩
    cases e : g m with
    | none => rfl
    | some r => exact (h ⟨m, r, e⟩).elim

variable (P cfg) in
/-- What the program's functions answer, as the abstract machine has it. -/
noncomputable def den : Oracle where
  ent f args lo H := sup fun n => (denF P cfg n).ent f args lo H
  lab f keep todo vals lo H := sup fun n => (denF P cfg n).lab f keep todo vals lo H

theorem den_rel : RelO evLim (fun n => denF P cfg n) (den P cfg) :=
  ⟨fun f args lo H => sup_rel fun _ _ _ h e => denF_ent_mono h e, fun f keep todo vals lo H => sup_rel fun _ _ _ h e => denF_lab_mono h e⟩

theorem den_ent : (den P cfg).ent = entRun P cfg (den P cfg) := by
  funext f args lo H
  obtain ⟨n, hn⟩ := den_rel (P := P) (cfg := cfg).ent f args lo H
  obtain ⟨m, hm⟩ := entRun_rel (den_rel (P := P) (cfg := cfg)) f args lo H
  rw [← hn (n + m + 1) (by omega), ← hm (n + m) (by omega)]
  rfl

theorem den_lab : (den P cfg).lab = labRun P cfg (den P cfg) := by
  funext f keep todo vals lo H
  obtain ⟨n, hn⟩ := den_rel (P := P) (cfg := cfg).lab f keep todo vals lo H
  obtain ⟨m, hm⟩ := labRun_rel (den_rel (P := P) (cfg := cfg)) f keep todo vals lo H
  rw [← hn (n + m + 1) (by omega), ← hm (n + m) (by omega)]
  rfl

theorem den_sound (hx : ExtOk P cfg) (hg : RngOk P cfg) : EntOk P (den P cfg) := by
  intro f args lo H rs H' h
  obtain ⟨n, hn⟩ := den_rel (P := P) (cfg := cfg).ent f args lo H
  rw [← hn n (Nat.le_refl _)] at h
  exact (denF_sound P cfg hx hg n).1 f args lo H rs H' h

end
end Go.AM
