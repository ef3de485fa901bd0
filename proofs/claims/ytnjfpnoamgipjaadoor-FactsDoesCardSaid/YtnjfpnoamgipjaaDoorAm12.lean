/-
Code: what is left to be done, loops, joins, ends.
-/
import Derived.Test.YtnjfpnoamgipjaaDoorAm11b
set_option linter.unusedVariables false
set_option linter.unusedSimpArgs false
set_option linter.unnecessarySimpa false
set_option linter.unusedSectionVars false
namespace Go.AM
variable [Know]
def LoopWp (P:Program)(c:Code)(Q:Exit → Act → World → Prop)(a:Act)(w:World):Prop :=
  ∀ (b:Frame) (k:List Item) (cs:List Frame),∃ e a' w',Q e a' w' ∧ Arrives P (lone (b.at a (.code c :: .inLoop c :: k)) cs w) b k cs e a' w'
section
variable {P:Program}
theorem wp_of_loopWp {c:Code}{Q:Exit → Act → World → Prop}{a:Act}{w:World}(h:LoopWp P c Q a w):(Code.loop c).wp P Q a w := by
  intro b k cs
  obtain ⟨e,a',w',hq,harr⟩ := h b k cs
  exact ⟨e,a',w',hq,.of_steps (.one step_loop) harr⟩
theorem loopWp_of_body {c:Code}{Q:Exit → Act → World → Prop}{a:Act}{w:World}(h:c.wp P (Exit.then (LoopWp P c Q) Q) a w):LoopWp P c Q a w := by
  intro b k cs
  obtain ⟨e,a₁,w₁,hq,harr⟩ := h b (.inLoop c :: k) cs
  cases e with
  | normal =>
    obtain ⟨e₂,a₂,w₂,hq₂,harr₂⟩ := hq b k cs
    exact ⟨e₂,a₂,w₂,hq₂,.of_steps (Steps.trans harr (.one step_inLoop)) harr₂⟩
  | exit id => exact ⟨_,a₁,w₁,hq,.pass (x := .inLoop c) rfl (fun _ _ => .inl (by simp)) harr⟩
  | goto l => exact ⟨_,a₁,w₁,hq,.pass (x := .inLoop c) rfl (fun _ _ => .inl (by simp)) harr⟩
  | ret => exact ⟨_,a₁,w₁,hq,.pass (x := .inLoop c) rfl (fun _ _ => .inl (by simp)) harr⟩
  | panic ch => exact ⟨_,a₁,w₁,hq,.pass (x := .inLoop c) rfl (fun _ _ => .inl (by simp)) harr⟩
  | outgrown => exact ⟨_,a₁,w₁,hq,.pass (x := .inLoop c) rfl (fun _ _ => .inl (by simp)) harr⟩
def Kwp (P:Program)(R:Act → World → Prop):List It → Exit → Act → World → Prop
  | [],.normal,a,w | [],.ret,a,w => R a w
  | [],_,_,_ => False
  | .code c :: k,.normal,a,w => c.wp P (Kwp P R k) a w
  | .code _ :: k,e,a,w => Kwp P R k e a w
  | .blk id :: k,.exit id',a,w => if id' = id then Kwp P R k .normal a w else Kwp P R k (.exit id') a w
  | .blk _ :: k,e,a,w => Kwp P R k e a w
  | .lp c _ :: k,.normal,a,w => LoopWp P c (Kwp P R k) a w
  | .lp _ _ :: k,e,a,w => Kwp P R k e a w
  | .jn :: k,e,a,w => Kwp P R k e a w
theorem Kwp.ret {R:Act → World → Prop}{a:Act}{w:World}(h:R a w):∀ k,Kwp P R k .ret a w := by
  intro k
  induction k with
  | nil => exact h
  | cons x k ih => cases x <;> exact ih
theorem Kwp.exit {R:Act → World → Prop}{a:Act}{w:World}{id:Nat}:∀ k k',exitToA id k = some k' → Kwp P R k' .normal a w → Kwp P R k (.exit id) a w := by
  intro k
  induction k with
  | nil => intro k' h; cases h
  | cons x k ih =>
    intro k' h hk
    cases x with
    | code c => exact ih k' h hk
    | jn => exact ih k' h hk
    | lp c b => exact ih k' h hk
    | blk id' =>
      simp only [exitToA] at h
      simp only [Kwp]
      split at h
      · rename_i e
        rw [if_pos (Nat.eq_of_beq_eq_true e).symm]
        cases h
        exact hk
      · rename_i e
        rw [if_neg (fun e2 => e (by rw [e2]; exact Nat.beq_refl _))]
        exact ih k' h hk
theorem then_kwp {R:Act → World → Prop}{c:Code}{k:List It}:Exit.then (c.wp P (Kwp P R k)) (Kwp P R k) = Kwp P R (.code c :: k) := by
  funext e a w
  cases e <;> rfl
theorem inBlock_kwp {R:Act → World → Prop}{id:Nat}{k:List It}:Exit.inBlock id (Kwp P R k) = Kwp P R (.blk id :: k) := by
  funext e a w
  cases e <;> rfl
theorem thenLoop_kwp {R:Act → World → Prop}{c:Code}{b:Option Nat}{k:List It}:Exit.then (LoopWp P c (Kwp P R k)) (Kwp P R k) = Kwp P R (.lp c b :: k) := by
  funext e a w
  cases e <;> rfl
def Dec (lo:List Nat):List It → Prop
  | .lp _ (some b) :: k => (∀ l ∈ levelsOf lo k,l ≤ b) ∧ Dec lo k
  | _ :: k => Dec lo k
  | [] => True
structure St (P:Program)(nt:Nat)(H0:Heap)(β0:Beta)(F0:Frz)(w0:World)(todo:List It)(lo:List Nat)(H:Heap)(β:Beta)(F:Frz)(w:World)(a:Act):Prop where
  inv:Inv H β F w
  ext:Ext H0 β0 F0 w0 H β F w
  low:LowAll (levelsOf lo todo) H
  bs:∀ b ∈ levelsOf [] todo,H0.length ≤ b
  size:a.tmps.size = nt
  defers:a.defers = []
  dec:Dec lo todo
def Fin (P:Program)(f:FuncId)(lo:List Nat)(H0:Heap)(β0:Beta)(F0:Frz)(w0:World)(r:List AV × Heap)(a:Act)(w:World):Prop :=
  a.defers = [] ∧ ∃ fn,P.funcs[f]? = some fn ∧ ∃ v,(results fn a.tmps).run P w = .ok v w ∧ ∃ β' F',RA r.2 β' F' w v (ret r.1) ∧ Inv r.2 β' F' w ∧ Ext H0 β0 F0 w0 r.2 β' F' w ∧ LowAll lo r.2
def RL (H:Heap)(β:Beta)(F:Frz)(w:World)(a:Act)(keep:List Nat)(vals:List AV):Prop := RAs H β F w (keep.map fun k => a.tmps.getD k undef) vals
theorem RL.slots {H:Heap}{β:Beta}{F:Frz}{w:World}{a:Act}:∀ {keep:List Nat}{vals:List AV},RL H β F w a keep vals → RS H β F w a (mkS keep vals) := by
  intro keep
  induction keep with
  | nil => intro vals h i; exact .any _
  | cons k keep ih =>
    intro vals h
    cases vals with
    | nil => intro i; exact .any _
    | cons v vals =>
      unfold RL at h
      simp only [List.map_cons] at h
      cases h with
      | cons h h' =>
        intro i
        simp only [mkS,upd]
        cases e:Nat.beq i k with
        | true =>
          rw [Nat.eq_of_beq_eq_true e]
          exact h
        | false => exact ih h' i
theorem RS.keep {H:Heap}{β:Beta}{F:Frz}{w:World}{a:Act}{s:Slots}(h:RS H β F w a s)(keep:List Nat):RL H β F w a keep (keep.map s) := by
  unfold RL
  induction keep with
  | nil => exact .nil
  | cons k keep ih => exact .cons (h k) ih
def LabOk (P:Program)(cfg:Cfg)(O:Oracle):Prop :=
  ∀ f keep todo vals lo H r,O.lab f keep todo vals lo H = some r → ∀ H0 β0 F0 w0 β F w a,St P (ntOf P f) H0 β0 F0 w0 todo lo H β F w a → RL H β F w a keep vals →
    ∀ lo',(∀ (s':Slots) H' β' F' w' a',finish P cfg f s' lo H' = some r → St P (ntOf P f) H0 β0 F0 w0 [] lo H' β' F' w' a' → RS H' β' F' w' a' s' → Fin P f lo' H0 β0 F0 w0 r a' w') → Kwp P (Fin P f lo' H0 β0 F0 w0 r) todo .normal a w
theorem levels_suffix {lo:List Nat}:∀ (k k':List It)(id:Nat),exitToA id k = some k' → ∀ l ∈ levelsOf lo k',l ∈ levelsOf lo k := by
  intro k
  induction k with
  | nil => intro k' id h; cases h
  | cons x k ih =>
    intro k' id h l hl
    cases x with
    | code c => exact ih k' id h l hl
    | jn => exact ih k' id h l hl
    | lp c b =>
      cases b with
      | none => exact ih k' id h l hl
      | some b => exact List.mem_cons_of_mem _ (ih k' id h l hl)
    | blk id' =>
      simp only [exitToA] at h
      split at h
      · cases h; exact hl
      · exact ih k' id h l hl
theorem levels_end {lo:List Nat}:∀ (k:List It),∀ l ∈ lo,l ∈ levelsOf lo k := by
  intro k
  induction k with
  | nil => intro l hl; exact hl
  | cons x k ih =>
    intro l hl
    cases x with
    | lp c b =>
      cases b with
      | none => exact ih l hl
      | some b => exact List.mem_cons_of_mem _ (ih l hl)
    | _ => exact ih l hl
theorem LowAll.sub {lo lo':List Nat}{H:Heap}(h:LowAll lo H)(hs:∀ l ∈ lo',l ∈ lo):LowAll lo' H := fun l hl => h l (hs l hl)
theorem St.mono {nt:Nat}{H0:Heap}{β0:Beta}{F0:Frz}{w0:World}{todo todo':List It}{lo:List Nat}{H:Heap}{β:Beta}{F:Frz}{w:World}{a:Act}(h:St P nt H0 β0 F0 w0 todo lo H β F w a)
    (h1:∀ l ∈ levelsOf lo todo',l ∈ levelsOf lo todo) (h2:∀ l ∈ levelsOf [] todo',l ∈ levelsOf [] todo) (h3:Dec lo todo → Dec lo todo'):St P nt H0 β0 F0 w0 todo' lo H β F w a :=
  ⟨h.inv,h.ext,h.low.sub h1,fun b hb => h.bs b (h2 b hb),h.size,h.defers,h3 h.dec⟩
theorem Inv.cut {H:Heap}{β:Beta}{F:Frz}{w:World}(hI:Inv H β F w){l:Nat}(hl:Low l H):Inv (H.take l) (cutB l β) F w := by
  have cutS:∀ {id:Nat}{x:Nat × Nat × Nat},cutB l β id = some x → id < l ∧ β id = some x := by
    intro id x h
    unfold cutB at h
    split at h
    · rename_i hlt; exact ⟨hlt,h⟩
    · cases h
  refine ⟨fun id o ho => ?_,fun i j b s t s' t' hij hi hj => hI.inj i j b s t s' t' hij (cutS hi).2 (cutS hj).2,fun id hid => ?_,hI.fz,fun id b s t j h hj => hI.own id b s t j (cutS h).2 hj,hI.kn⟩
  · have hlt:id < l := by have := getElem?_lt ho; simp at this; omega
    rw [take_get hlt] at ho
    have h := hI.obj id o ho
    cases o with
    | box xs =>
      rcases h with ⟨h1,h2⟩ | ⟨b,c,e,h1,h2,h3,h4⟩
      · exact .inl ⟨h1,(cutB_lt hlt).trans h2⟩
      exact .inr ⟨b,c,e,(cutB_lt hlt).trans h1,h2,h3,fun i hi => ⟨(h4 i hi).1.cut (hl id _ hlt ho _ (List.getElem_mem hi)),(h4 i hi).2⟩⟩
    | row g sz xs =>
      rcases h with ⟨h1,h2⟩ | ⟨b,s,t,c,e,h1,h2,h3,h4,h5⟩
      · exact .inl ⟨h1,(cutB_lt hlt).trans h2⟩
      · exact .inr ⟨b,s,t,c,e,(cutB_lt hlt).trans h1,h2,h3,h4,h5⟩
    | map es c' =>
      obtain ⟨b,en,h1,h2,h3,h4⟩ := h
      refine ⟨b,en,(cutB_lt hlt).trans h1,h2,h3,fun i hi => ?_⟩
      obtain ⟨e,k1,k2,k3,k4⟩ := h4 i hi
      have := hl id _ hlt ho _ (List.getElem_mem hi)
      exact ⟨e,k1,k2.cut this.1,k3.cut this.2,k4⟩
    | iter m since seen last =>
      obtain ⟨h0,b,bm,s,t,es,c',h1,h2,h3,h4,h5⟩ := h
      have hm:m < l := Nat.lt_trans h0 hlt
      exact ⟨h0,b,bm,s,t,es,c',(cutB_lt hlt).trans h1,(take_get hm).trans h2,(cutB_lt hm).trans h3,h4,h5⟩
    | hole => exact (cutB_lt hlt).trans h
  · unfold cutB
    split
    · rename_i hlt
      refine hI.dom id ?_
      simp at hid
      omega
    · rfl
theorem Inv.low {H:Heap}{β:Beta}{F:Frz}{w:World}(hI:Inv H β F w):Low H.length H := by
  intro id o hid ho
  have h := hI.obj id _ ho
  cases o with
  | box xs =>
    intro x hx
    rcases h with ⟨h1,_⟩ | ⟨b,c',e',_,_,_,h4⟩
    · rw [h1] at hx; cases hx
    obtain ⟨i,hi,rfl⟩ := List.getElem_of_mem hx
    exact (h4 i hi).1.closed
  | row => exact True.intro
  | map es c =>
    intro x hx
    obtain ⟨b,en,_,_,_,h4⟩ := h
    obtain ⟨i,hi,rfl⟩ := List.getElem_of_mem hx
    obtain ⟨e,_,k2,k3,_⟩ := h4 i hi
    exact ⟨k2.closed,k3.closed⟩
  | iter => exact True.intro
  | hole => exact True.intro
theorem Ext.cut {H0 H:Heap}{β0 β:Beta}{F0 F:Frz}{w0 w:World}(h:Ext H0 β0 F0 w0 H β F w){l:Nat}(hl:H0.length ≤ l):Ext H0 β0 F0 w0 (H.take l) (cutB l β) F w where
  os := h.os
  tape := h.tape
  output := h.output
  size := h.size
  drawn := h.drawn
  block := h.block
  fz := h.fz
  fn := h.fn
  own := fun id b s t e => by
    unfold cutB at e
    split at e
    · exact h.own id b s t e
    · cases e
  grow := fun id o ho => by
    have hlt:id < l := by have := getElem?_lt ho; omega
    obtain ⟨o',h1,h2⟩ := h.grow id o ho
    refine ⟨o',(take_get hlt).trans h1,?_⟩
    cases o
    case hole => exact trivial
    all_goals cases o' <;> first | exact h2.elim | skip
    · exact fun e => ⟨(h2 e).1,(cutB_lt hlt).trans (h2 e).2⟩
    · exact ⟨h2.1,h2.2.1,fun e => ⟨(h2.2.2 e).1,(cutB_lt hlt).trans (h2.2.2 e).2⟩⟩
    · exact Eq.trans (cutB_lt hlt) h2
    · exact ⟨h2.1,(cutB_lt hlt).trans h2.2⟩
theorem LowAll.cut {lo:List Nat}{H:Heap}(h:LowAll lo H){b:Nat}(hb:∀ l ∈ lo,l ≤ b):LowAll lo (H.take b) := by
  intro l hl
  obtain ⟨h1,h2⟩ := h l hl
  refine ⟨by rw [List.length_take]; exact Nat.le_min.mpr ⟨hb l hl,h1⟩,fun id xs hid ho => h2 id xs hid ?_⟩
  rwa [take_get (by have := hb l hl; omega)] at ho
theorem Dec.suffix {lo:List Nat}:∀ (k k':List It)(id:Nat),exitToA id k = some k' → Dec lo k → Dec lo k' := by
  intro k
  induction k with
  | nil => intro k' id h; cases h
  | cons x k ih =>
    intro k' id h hd
    cases x with
    | code c => exact ih k' id h hd
    | jn => exact ih k' id h hd
    | lp c b =>
      cases b with
      | none => exact ih k' id h hd
      | some b => exact ih k' id h hd.2
    | blk id' =>
      simp only [exitToA] at h
      split at h
      · cases h; exact hd
      · exact ih k' id h hd
theorem holes_ok {H:Heap}{β:Beta}{F:Frz}{w:World}(hI:Inv H β F w):∀ n:Nat,Inv (H ++ List.replicate n .hole) β F w ∧ Ext H β F w (H ++ List.replicate n .hole) β F w := by
  intro n
  induction n with
  | zero => simpa using ⟨hI,Ext.refl H β F w⟩
  | succ n ih =>
    obtain ⟨h1,h2⟩ := ih
    have hb:β (H ++ List.replicate n AObj.hole).length = none := h1.dom _ (Nat.le_refl _)
    have hu:updB β (H ++ List.replicate n AObj.hole).length none = β := by rw [← hb]; exact updB_id _ _
    have := Inv.push (o' := .hole) (nb := none) h1 (w' := w) ⟨rfl,rfl,rfl,Nat.le_refl _,Nat.le_refl _,fun _ _ _ => rfl⟩ (fun b s t e => by cases e) (fun _ => updB_same _ _ _)
    rw [hu] at this
    rw [List.replicate_succ',← List.append_assoc]
    exact ⟨this.1,h2.trans this.2⟩
theorem holesIn_ok {cfg:Cfg}{f:FuncId}{id:Nat}{H:Heap}{β:Beta}{F:Frz}{w:World}{lo:List Nat}(hI:Inv H β F w)(hlo:LowAll lo H):Inv (holesIn cfg f id H) β F w ∧ Ext H β F w (holesIn cfg f id H) β F w ∧ LowAll lo (holesIn cfg f id H) := by
  unfold holesIn
  split
  · exact ⟨hI,Ext.refl _ _ _ _,hlo⟩
  · rename_i n _
    obtain ⟨h1,h2⟩ := holes_ok hI (n + 1)
    refine ⟨h1,h2,?_⟩
    generalize n + 1 = k
    clear h1 h2
    induction k with
    | zero => simpa using hlo
    | succ k ih => rw [List.replicate_succ',← List.append_assoc]; exact ih.push _
def Ends (P:Program)(cfg:Cfg)(f:FuncId)(lo lo':List Nat)(H0:Heap)(β0:Beta)(F0:Frz)(w0:World)(r:List AV × Heap):Prop :=
  ∀ (s':Slots) H' β' F' w' a',finish P cfg f s' lo H' = some r → St P (ntOf P f) H0 β0 F0 w0 [] lo H' β' F' w' a' → RS H' β' F' w' a' s' → Fin P f lo' H0 β0 F0 w0 r a' w'
theorem ownVals_sound {H:Heap}{β:Beta}{F:Frz}{w:World}:∀ (own:List (Nat × Nat))(vs:List Value)(xs:List AV)(H:Heap)(β:Beta)(xs':List AV)(H':Heap),Inv H β F w → ownCells own xs H = some (xs',H') → RAs H β F w vs xs →
    ∃ β',RAs H' β' F w vs xs' ∧ Inv H' β' F w ∧ Ext H β F w H' β' F w := by
  intro own
  induction own with
  | nil => intro vs xs H β xs' H' hI h hr; cases h; exact ⟨β,hr,hI,Ext.refl _ _ _ _⟩
  | cons p own ih =>
    intro vs xs H β xs' H' hI h hr
    obtain ⟨j,sz⟩ := p
    simp only [ownCells] at h
    split at h
    · rename_i tg n ys hx
      obtain ⟨β1,r1,i1,e1⟩ := virt_new hI (sz := sz) (a := none)
      have hset:∀ (j:Nat) (vs:List Value) (xs:List AV),RAs H β F w vs xs → xs[j]? = some (.p (.sl (some true) tg n ys)) → RAs (H ++ [.row 0 sz []]) β1 F w vs (xs.set j (.row H.length 0 0 0)) := by
        intro j
        induction j with
        | zero =>
          intro vs xs hr hx
          cases hr with
          | nil => cases hx
          | cons h h' =>
            simp at hx
            subst hx
            refine .cons ?_ (h'.mono fun v x h => h.ext hI e1)
            cases h with
            | p h =>
              cases h with
              | nil => exact r1
              | emp h1 => exact (h1 rfl).elim
              | sl c h1 => exact (h1 rfl).elim
        | succ j ihj =>
          intro vs xs hr hx
          cases hr with
          | nil => cases hx
          | cons h h' => exact .cons (h.ext hI e1) (ihj _ _ h' (by simpa using hx))
      obtain ⟨β2,r2,i2,e2⟩ := ih vs _ _ β1 xs' H' i1 h (hset j vs xs hr hx)
      exact ⟨β2,r2,i2,e1.trans e2⟩
    · cases h
theorem arun_sound {cfg:Cfg}{O:Oracle}(hO:EntOk P O)(hL:LabOk P cfg O){f:FuncId}{lo lo':List Nat}{r:List AV × Heap}{H0:Heap}{β0:Beta}{F0:Frz}{w0:World}(hend:Ends P cfg f lo lo' H0 β0 F0 w0 r) :
    ∀ (n:Nat) (todo:List It) (s:Slots) (H:Heap) (β:Beta) (F:Frz) (w:World) (a:Act),arun P cfg O f lo n todo s H = some r → St P (ntOf P f) H0 β0 F0 w0 todo lo H β F w a → RS H β F w a s →
      Kwp P (Fin P f lo' H0 β0 F0 w0 r) todo .normal a w := by
  intro n
  induction n with
  | zero => intro todo s H β F w a h; cases h
  | succ n ih =>
    intro todo s H β F w a h hst hs
    cases todo with
    | nil => exact hend s H β F w a h hst hs
    | cons x k =>
      cases x with
      | blk id => exact ih k s H β F w a h (hst.mono (fun _ h => h) (fun _ h => h) (fun h => h)) hs
      | jn =>
        simp only [arun] at h
        split at h
        · rename_i c k'
          split at h
          · rename_i l hl
            exact hL _ _ _ _ _ _ _ h H0 β0 F0 w0 β F w a (hst.mono (fun _ h => h) (fun _ h => h) (fun h => h)) (hs.keep _) lo' hend
          · cases h
        · cases h
      | lp c b =>
        simp only [arun,loopOn] at h
        split at h
        · cases h
        · rename_i l hl
          cases b with
          | none => exact hL _ _ _ _ _ _ _ h H0 β0 F0 w0 β F w a hst (hs.keep _) lo' hend
          | some b =>
            simp only at h
            split at h
            · rename_i hall
              have hlow := (hst.low b (by exact List.mem_cons_self ..))
              have hb0:H0.length ≤ b := hst.bs b (by exact List.mem_cons_self ..)
              refine hL _ _ _ _ _ _ _ h H0 β0 F0 w0 (cutB b β) F w a ⟨hst.inv.cut hlow.2,hst.ext.cut hb0,?_,hst.bs,hst.size,hst.defers,hst.dec⟩ ?_ lo' hend
              · refine hst.low.cut fun l' hl' => ?_
                rcases List.mem_cons.mp hl' with e | e
                · omega
                · exact hst.dec.1 l' e
              · unfold RL
                have hk := hs.keep l.keep
                unfold RL at hk
                rw [List.all_eq_true] at hall
                clear h hst
                have:∀ (ks:List Nat),(∀ t ∈ ks,AV.ltd b (s t) = true) → RAs H β F w (ks.map fun k => a.tmps.getD k undef) (ks.map s) → RAs (H.take b) (cutB b β) F w (ks.map fun k => a.tmps.getD k undef) (ks.map s) := by
                  intro ks
                  induction ks with
                  | nil => intro _ _; exact .nil
                  | cons t ks ihk =>
                    intro hall hr
                    cases hr with
                    | cons h h' => exact .cons (h.cut (lt_sound b 6 _ (hall t (by simp)))) (ihk (fun t ht => hall t (by simp [ht])) h')
                exact this l.keep hall hk
            · cases h
      | code c =>
        have hst':St P (ntOf P f) H0 β0 F0 w0 k lo H β F w a := hst.mono (fun _ h => h) (fun _ h => h) (fun h => h)
        simp only [Kwp]
        cases c with
        | skip => exact wp_skip (ih k s H β F w a h hst' hs)
        | seq x y =>
          refine wp_seq ?_
          rw [then_kwp]
          simp only [arun] at h
          split at h
          · have := ih (.code x :: .jn :: .code y :: k) s H β F w a h (hst.mono (fun _ h => h) (fun _ h => h) (fun h => h)) hs
            have e:Kwp P (Fin P f lo' H0 β0 F0 w0 r) (.jn :: .code y :: k) = Kwp P (Fin P f lo' H0 β0 F0 w0 r) (.code y :: k) := by funext e a w; cases e <;> rfl
            have e2:Kwp P (Fin P f lo' H0 β0 F0 w0 r) (.code x :: .jn :: .code y :: k) .normal a w = x.wp P (Kwp P (Fin P f lo' H0 β0 F0 w0 r) (.jn :: .code y :: k)) a w := rfl
            rw [e2,e] at this
            exact this
          · exact ih (.code x :: .code y :: k) s H β F w a h (hst.mono (fun _ h => h) (fun _ h => h) (fun h => h)) hs
        | region id ops draw =>
          simp only [arun] at h
          split at h
          · rename_i hc
            rw [Bool.and_eq_true] at hc
            have step:∀ s' H' a' w' β' F',arun P cfg O f lo n k s' H' = some r → Inv H' β' F' w' → Ext H β F w H' β' F' w' → RS H' β' F' w' a' s' → LowAll (levelsOf lo k) H' → a'.tmps.size = a.tmps.size → a'.defers = a.defers → Kwp P (Fin P f lo' H0 β0 F0 w0 r) k .normal a' w' := by
              intro s' H' a' w' β' F' q1 q2 q3 q4 q5 q6 q7
              exact ih k s' H' β' F' w' a' q1 ⟨q2,hst.ext.trans q3,q5,hst'.bs,by rw [q6]; exact hst.size,by rw [q7]; exact hst.defers,hst'.dec⟩ q4
            cases draw with
            | false => exact region_sound (Q := Kwp P (Fin P f lo' H0 β0 F0 w0 r) k) hO (by rw [hst.size]; exact hc.1) h hst.inv hs hst'.low step
            | true =>
              obtain ⟨k1,k2,k3⟩ := holesIn_ok (cfg := cfg) (f := f) (id := id) hst.inv hst'.low
              exact regionDraw_sound (Q := Kwp P (Fin P f lo' H0 β0 F0 w0 r) k) hO (by rw [hst.size]; exact hc.1) (by simpa using hc.2) h k1 (hs.ext hst.inv k2) k3
                (fun s' H' a' w' β' F' q1 q2 q3 => step s' H' a' w' β' F' q1 q2 (k2.trans q3))
          · cases h
        | cond x y z =>
          simp only [arun,cond] at h
          have hx := ev_sound (x := x) hs
          split at h
          · rename_i ht
            rw [truth_inv ht] at hx
            exact wp_cond_true hx.v_inv.1 (ih (.code y :: k) s H β F w a h (hst.mono (fun _ h => h) (fun _ h => h) (fun h => h)) hs)
          · rename_i ht
            rw [truth_inv ht] at hx
            exact wp_cond_false hx.v_inv.1 (ih (.code z :: k) s H β F w a h (hst.mono (fun _ h => h) (fun _ h => h) (fun h => h)) hs)
          · cases h
        | block id c =>
          refine wp_block ?_
          rw [inBlock_kwp]
          exact ih (.code c :: .blk id :: k) s H β F w a h (hst.mono (fun _ h => h) (fun _ h => h) (fun h => h)) hs
        | loop c =>
          refine wp_of_loopWp ?_
          simp only [arun,loopIn] at h
          split at h
          · cases h
          · rename_i l hl
            have mk : ∀ (H1 : Heap) (β1 : Beta) (vals : List AV), O.lab f l.keep (.lp c (if l.trunc then some H1.length else none) :: k) vals lo H1 = some r → Inv H1 β1 F w → Ext H0 β0 F0 w0 H1 β1 F w → LowAll (levelsOf lo k) H1 → RL H1 β1 F w a l.keep vals →
                LoopWp P c (Kwp P (Fin P f lo' H0 β0 F0 w0 r) k) a w := by
              intro H1 β1 vals hlab hI1 hE1 hlow1 hrl
              cases htr:l.trunc with
              | false =>
                rw [htr] at hlab
                exact hL _ _ _ _ _ _ _ hlab H0 β0 F0 w0 β1 F w a ⟨hI1,hE1,hlow1,hst'.bs,hst.size,hst.defers,hst'.dec⟩ hrl lo' hend
              | true =>
                rw [htr] at hlab
                have hle:H0.length ≤ H1.length := by
                  rcases Nat.lt_or_ge H1.length H0.length with h' | h'
                  · obtain ⟨o',h1,_⟩ := hE1.grow H1.length _ (List.getElem?_eq_getElem h')
                    have := getElem?_lt h1
                    omega
                  · exact h'
                refine hL _ _ _ _ _ _ _ hlab H0 β0 F0 w0 β1 F w a ⟨hI1,hE1,?_,?_,hst.size,hst.defers,fun l' hl' => (hlow1 l' hl').1,hst'.dec⟩ hrl lo' hend
                · intro l' hl'
                  rcases List.mem_cons.mp hl' with e | e
                  · subst e
                    exact ⟨Nat.le_refl _,hI1.low⟩
                  · exact hlow1 l' e
                · intro b hb
                  rcases List.mem_cons.mp hb with e | e
                  · omega
                  · exact hst'.bs b e
            split at h
            · exact mk H β _ h hst.inv hst.ext hst'.low (hs.keep _)
            · rw [Option.bind_eq_some_iff] at h
              obtain ⟨⟨vals,H1⟩,h1,h⟩ := h
              obtain ⟨β1,r1,i1,e1⟩ := ownVals_sound (H := H) (β := β) _ _ _ H β vals H1 hst.inv h1 (hs.keep l.keep)
              exact mk H1 β1 vals h i1 (hst.ext.trans e1) (ownCells_low _ _ _ _ _ hst'.low h1) r1
        | exit id =>
          simp only [arun] at h
          split at h
          · rename_i k' hk'
            refine wp_exit (Kwp.exit k k' hk' ?_)
            exact ih k' s H β F w a h (hst'.mono (levels_suffix k k' id hk') (levels_suffix k k' id hk') (Dec.suffix k k' id hk')) hs
          · cases h
        | ret =>
          refine wp_ret (Kwp.ret ?_ k)
          exact hend s H β F w a h (hst'.mono (levels_end k) (fun l hl => by cases hl) (fun _ => trivial)) hs
        | _ => cases h
end
end Go.AM

