/-
Labels and entries: what the abstract machine answers, at whatever fuel, is what the calls say.
-/
import Derived.Test.YtnjfpnoamgipjaaDoorAm12
import Derived.Laws.Externs
set_option linter.unusedVariables false
set_option linter.unusedSimpArgs false
set_option linter.unnecessarySimpa false
set_option linter.unusedSectionVars false
namespace Go.AM
variable [Know]
section
variable {P:Program}
theorem asAddr_of_load {t:TypeId}{va r:Value}{w:World}(h:(Instr.loadAt t va).run P w = .ok r w):((asAddr va >>= fun a => loadVar t a):Sem Value).run P w = .ok r w := by
  cases va with
  | pointer a =>
    cases a with
    | some a => simpa [Instr.loadAt,Instr.sureAddr,asAddr] using h
    | none => simp [Instr.loadAt,Instr.sureAddr] at h
  | _ => simp [Instr.loadAt,Instr.sureAddr] at h
def resG (tmps:Array Value):ResultVar → Sem Value
  | .tmp t => pure (tmps.getD t undef)
  | .cell a t => asAddr (tmps.getD a undef) >>= fun x => loadVar t x
theorem resOf_sound {H:Heap}{β:Beta}{F:Frz}{w:World}(hI:Inv H β F w){a:Act}{s:Slots}(hs:RS H β F w a s):∀ (l:List ResultVar)(xs:List AV),resOf P s H l = some xs →
    ∃ vs,(l.mapM (resG a.tmps)).run P w = .ok vs w ∧ RAs H β F w vs xs := by
  intro l
  induction l with
  | nil => intro xs h; cases h; exact ⟨[],by simp,.nil⟩
  | cons x l ih =>
    intro xs h
    cases x with
    | tmp t =>
      simp only [resOf,Option.map_eq_some_iff] at h
      obtain ⟨q,h1,rfl⟩ := h
      obtain ⟨vs,k1,k2⟩ := ih _ h1
      exact ⟨_,by simp [resG,k1],.cons (hs t) k2⟩
    | cell p t =>
      simp only [resOf] at h
      split at h
      · rename_i ht
        rw [Option.bind_eq_some_iff] at h
        obtain ⟨y,h1,h⟩ := h
        rw [Option.map_eq_some_iff] at h
        obtain ⟨q,h2,rfl⟩ := h
        obtain ⟨vs,k1,k2⟩ := ih _ h2
        unfold okT at ht
        rw [Option.isSome_iff_exists] at ht
        obtain ⟨d,hd⟩ := ht
        obtain ⟨r,r1,r2⟩ := ld_sound hI hd h1 (hs p)
        refine ⟨r :: vs,?_,.cons r2 k2⟩
        have r3 := asAddr_of_load r1
        rw [List.mapM_cons,Sem.run_bind]
        show ((resG a.tmps (.cell p t)).run P w).andThen _ = _
        rw [show (resG a.tmps (.cell p t)).run P w = .ok r w from r3]
        simp [Result.andThen,Sem.run_bind,k1]
      · cases h
theorem RAs.length {H:Heap}{β:Beta}{F:Frz}{w:World}{vs:List Value}{xs:List AV}(h:RAs H β F w vs xs):vs.length = xs.length := by
  induction h with
  | nil => rfl
  | cons _ _ ih => simp [ih]
theorem results_run {fn:Func}{tmps:Array Value}{w:World}{vs:List Value}(h:(fn.results.toList.mapM (resG tmps)).run P w = .ok vs w) :
    (results fn tmps).run P w = .ok (if h:vs.toArray.size = 1 then vs.toArray[0] else .tuple vs.toArray) w := by
  have e:results fn tmps = (fn.results.mapM (resG tmps) >>= fun vs => pure (if h:vs.size = 1 then vs[0] else .tuple vs)) := by
    unfold results
    congr 1
  have e2:fn.results.mapM (resG tmps) = List.toArray <$> fn.results.toList.mapM (resG tmps) := by
    conv => lhs; rw [← Array.toArray_toList (xs := fn.results)]
    rw [List.mapM_toArray]
  rw [e,e2,Sem.run_bind]
  simp [h,Result.andThen]
theorem ret_sound {H:Heap}{β:Beta}{F:Frz}{w:World}{vs:List Value}{xs:List AV}(h:RAs H β F w vs xs):RA H β F w (if h:vs.toArray.size = 1 then vs.toArray[0] else .tuple vs.toArray) (ret xs) := by
  cases h with
  | nil => exact .tup rfl fun i hi => by simp at hi
  | @cons v x vs xs h h' =>
    cases h' with
    | nil => simpa [ret] using h
    | @cons v' x' vs' xs' k k' =>
      have hr := RAs.row (cs := (v :: v' :: vs').toArray) (xs := x :: x' :: xs') (.cons h (.cons k k'))
      rw [dif_neg (by simp)]
      exact .tup hr.1 hr.2
theorem RAs.cut {H:Heap}{β:Beta}{F:Frz}{w:World}{l:Nat}{vs:List Value}{xs:List AV}(h:RAs H β F w vs xs)(hl:xs.all (AV.ltd l) = true):RAs (H.take l) (cutB l β) F w vs xs := by
  induction h with
  | nil => exact .nil
  | cons h _ ih =>
    rw [List.all_cons,Bool.and_eq_true] at hl
    exact .cons (h.cut (lt_sound l 6 _ hl.1)) (ih hl.2)
theorem ends_sound {cfg:Cfg}{f:FuncId}{fn:Func}(hf:P.funcs[f]? = some fn){lo:List Nat}{H:Heap}{β:Beta}{F:Frz}{w:World}(hI:Inv H β F w)(hlo:LowAll lo H)(hok:entOkB (cfg.mode f) lo H = true){r:List AV × Heap} :
    Ends P cfg f (entLo (cfg.mode f) lo H) lo H β F w r := by
  intro s' H' β' F' w' a' h hst hs
  simp only [finish,hf] at h
  rw [Option.bind_eq_some_iff] at h
  obtain ⟨xs,h1,h⟩ := h
  obtain ⟨vs,k1,k2⟩ := resOf_sound hst.inv hs _ _ h1
  have hrun := results_run (fn := fn) (tmps := a'.tmps) k1
  refine ⟨hst.defers,fn,hf,_,hrun,?_⟩
  have hlow := hst.low
  simp only [levelsOf] at hlow
  unfold leave at h
  split at h
  · rename_i hm
    rw [Option.bind_eq_some_iff] at h
    obtain ⟨⟨ys,H1⟩,h2,h⟩ := h
    simp only at h
    split at h
    · rename_i hc
      cases h
      rw [hm] at hok
      simp only [entOkB,Bool.and_eq_true,List.isEmpty_iff] at hok
      obtain ⟨β2,F2,r2,i2,e2,l2⟩ := frzAll_sound _ _ _ _ _ _ _ hst.inv hlow h2 k2
      have hz:Low 0 H1 := fun id o hid => by omega
      have i3 := i2.cut hz
      have e3 := (hst.ext.trans e2).cut (l := 0) (by rw [hok.2]; exact Nat.le_refl _)
      have r3 := r2.cut hc
      simp only [List.take_zero] at i3 e3 r3
      refine ⟨cutB 0 β2,F2,ret_sound r3,i3,e3,?_⟩
      rw [hok.1]
      intro l hl
      simp at hl
    · cases h
  · rename_i hm
    rw [Option.bind_eq_some_iff] at h
    obtain ⟨⟨ys,H1⟩,h2,h⟩ := h
    simp only at h
    split at h
    · rename_i hc
      cases h
      rw [hm] at hok
      simp only [entOkB,Bool.and_eq_true,List.isEmpty_iff] at hok
      obtain ⟨β2,F2,r2,i2,e2,l2⟩ := frzAll_sound _ _ _ _ _ _ _ hst.inv hlow h2 k2
      have hz:Low 0 H1 := fun id o hid => by omega
      have i3 := i2.cut hz
      have e3 := (hst.ext.trans e2).cut (l := 0) (by rw [hok.2]; exact Nat.le_refl _)
      have r3 := r2.cut hc
      simp only [List.take_zero] at i3 e3 r3
      refine ⟨cutB 0 β2,F2,ret_sound r3,i3,e3,?_⟩
      rw [hok.1]
      intro l hl
      simp at hl
    · cases h
  · rename_i hm
    cases h
    rw [hm] at hlow
    exact ⟨β',F',ret_sound k2,hst.inv,hst.ext,hlow⟩
  · rename_i hm
    cases h
    rw [hm] at hlow
    exact ⟨β',F',ret_sound k2,hst.inv,hst.ext,hlow⟩
  · rename_i hm
    cases h
    rw [hm] at hlow
    exact ⟨β',F',ret_sound k2,hst.inv,hst.ext,hlow⟩
  · rename_i hm
    cases h
    rw [hm] at hlow
    exact ⟨β',F',ret_sound k2,hst.inv,hst.ext,hlow⟩
  · rename_i m hm0 hm5 hm1 hm4 hm6 hm9
    have hel:entLo (cfg.mode f) lo H = H.length :: lo := by
      unfold entLo
      split
      · rename_i e; exact (hm0 e).elim
      · rename_i e; exact (hm5 e).elim
      · rename_i e; exact (hm1 e).elim
      · rename_i e; exact (hm4 e).elim
      · rename_i e; exact (hm6 e).elim
      · rename_i e; exact (hm9 e).elim
      · rfl
    rw [hel] at h hlow
    simp only at h
    rw [Option.bind_eq_some_iff] at h
    obtain ⟨⟨ys,H1⟩,h2,h⟩ := h
    simp only at h
    split at h
    · rename_i hc
      cases h
      obtain ⟨β2,F2,r2,i2,e2,l2⟩ := frzAll_sound _ _ _ _ _ _ _ hst.inv hlow h2 k2
      have hl := l2 H.length (by simp)
      refine ⟨cutB H.length β2,F2,ret_sound (r2.cut hc),i2.cut hl.2,(hst.ext.trans e2).cut (Nat.le_refl _),?_⟩
      exact (l2.sub (lo' := lo) fun l hl => by simp [hl]).cut fun l hl => (hlo l hl).1
    · cases h
theorem args_slots {H:Heap}{β:Beta}{F:Frz}{w:World}{vs:Array Value}{args:List AV}(hv:RAs H β F w vs.toList args)(n:Nat) :
    RS H β F w { tmps := vs ++ Array.replicate (n - vs.size) undef,defers := [] } (mkS (List.range args.length) args) := by
  refine RL.slots ?_
  unfold RL
  have hl := hv.length
  have e:((List.range args.length).map fun k => (vs ++ Array.replicate (n - vs.size) undef).getD k undef) = vs.toList := by
    refine List.ext_getElem (by simp [← hl]) fun i h1 h2 => ?_
    simp at h1 h2
    simp only [List.getElem_map,List.getElem_range,Array.getElem_toList]
    rw [Array.getD_eq_getD_getElem?,Array.getElem?_append_left h2]
    simp [h2]
  show RAs H β F w (((List.range args.length).map fun k => (vs ++ Array.replicate (n - vs.size) undef).getD k undef)) args
  rw [e]
  exact hv
def ExtOk (P:Program)(cfg:Cfg):Prop :=
  ∀ f k,cfg.ext f = some k → ∀ O,EntOk P O → ∀ args lo H rs H',extRun cfg O k args H = some (rs,H') → ∀ (vs:Array Value) w β F,Inv H β F w → RAs H β F w vs.toList args → LowAll lo H →
    (∃ fn,P.funcs[f]? = some fn ∧ fn.body.isSome = true ∧ (fn.name == "runtime.NumGoroutine") = false) ∧
    Calls P f vs w (fun e w' => ∃ v β' F',e = .returned v ∧ RA H' β' F' w' v (ret rs) ∧ Inv H' β' F' w' ∧ Ext H β F w H' β' F' w') ∧ LowAll lo H'
theorem ExtOk.none {cfg:Cfg}(h:∀ f,cfg.ext f = Option.none):ExtOk P cfg := fun f k e => by rw [h f] at e; cases e
theorem find_from {fn:Func}(h1:fn.name = "math.Float64frombits")(h2:fn.origin = ""):Extern.findNext fn = none ∧ Extern.find fn = some Extern.MathFloatBits.float64frombits := by
  have e1:Extern.allNextRows.lookup "math.Float64frombits" = none := by kernel_rfl
  have e2:Extern.allNextRows.lookup "" = none := by kernel_rfl
  have e3:Extern.allGenericRows.lookup "math.Float64frombits" = none := by kernel_rfl
  have e4:Extern.allTypedRows.lookup "math.Float64frombits" = none := by kernel_rfl
  have e5:Extern.allRows.lookup "math.Float64frombits" = some Extern.MathFloatBits.float64frombits := by kernel_rfl
  constructor
  · simp [Extern.findNext,h1,h2,e1,e2]
  · simp [Extern.find,h1,h2,e3,e4,e5]
theorem find_bits {fn:Func}(h1:fn.name = "math.Float64bits")(h2:fn.origin = ""):Extern.findNext fn = none ∧ Extern.find fn = some Extern.MathFloatBits.float64bits := by
  have e1:Extern.allNextRows.lookup "math.Float64bits" = none := by kernel_rfl
  have e2:Extern.allNextRows.lookup "" = none := by kernel_rfl
  have e3:Extern.allGenericRows.lookup "math.Float64bits" = none := by kernel_rfl
  have e4:Extern.allTypedRows.lookup "math.Float64bits" = none := by kernel_rfl
  have e5:Extern.allRows.lookup "math.Float64bits" = some Extern.MathFloatBits.float64bits := by kernel_rfl
  constructor
  · simp [Extern.findNext,h1,h2,e1,e2]
  · simp [Extern.find,h1,h2,e3,e4,e5]
theorem prim_sound {f:FuncId}{k:Prim}(hk:primOf P f = some k){args:List AV}{x:AV}(h:primA k args = some x){H:Heap}{β:Beta}{F:Frz}{w:World}{vs:Array Value}(hv:RAs H β F w vs.toList args) :
    ∃ v,(callFunc f vs).run P w = .ok (.value v) w ∧ RA H β F w v (ret [x]) ∧ ((∃ b,v = .float .f64 b) ∨ ∃ n,v = .int .u64 n) := by
  obtain ⟨l⟩ := vs
  unfold primOf at hk
  split at hk
  · rename_i fn hf
    split at hk
    · rename_i hc
      simp only [Bool.and_eq_true,beq_iff_eq,Bool.not_eq_true'] at hc
      obtain ⟨⟨hb,ho⟩,hn⟩ := hc
      unfold primNm at hk
      split at hk
      · rename_i hnm
        cases hk
        have hnm':fn.name = "math.Float64frombits" := by simpa using hnm
        unfold primA at h
        split at h
        · rw [Option.some.injEq] at h
          subst h
          cases hv with
          | cons hv hv' =>
            cases hv'
            have e := hv.v_inv.1
            subst e
            obtain ⟨e1,e2⟩ := find_from hnm' ho
            refine ⟨_,?_,.p (.v rfl),.inl ⟨_,rfl⟩⟩
            rw [run_callFunc_extern hf hn hb e1 e2]
            rfl
        · contradiction
        · cases h
      · split at hk
        · rename_i hnm
          cases hk
          have hnm':fn.name = "math.Float64bits" := by simpa using hnm
          unfold primA at h
          split at h
          · contradiction
          · rw [Option.some.injEq] at h
            subst h
            cases hv with
            | cons hv hv' =>
              cases hv'
              have e := hv.v_inv.1
              subst e
              obtain ⟨e1,e2⟩ := find_bits hnm' ho
              refine ⟨_,?_,.p (.v rfl),.inr ⟨_,rfl⟩⟩
              rw [run_callFunc_extern hf hn hb e1 e2]
              rfl
          · cases h
        · cases hk
    · cases hk
  · cases hk
theorem entRun_sound {cfg:Cfg}{O:Oracle}(hx:ExtOk P cfg)(hO:EntOk P O)(hL:LabOk P cfg O){lb:FuncId → List Nat → List It → List AV → List Nat → Heap → Res}:EntOk P { ent := entRun P cfg O,lab := lb } := by
  intro f args lo H rs H' h vs w β F hI hv hlo
  simp only [entRun] at h
  split at h
  · rename_i k hk
    obtain ⟨q1,q2,q3⟩ := hx f k hk O hO args lo H rs H' h vs w β F hI hv hlo
    exact ⟨.inl ⟨q1,q2.mono fun e w' ⟨v,β',F',e1,e2⟩ => ⟨v,e1,β',F',e2⟩⟩,q3⟩
  split at h
  · rename_i k hk
    rw [Option.map_eq_some_iff] at h
    obtain ⟨x,h1,h2⟩ := h
    cases h2
    obtain ⟨v,h2,h3,h4⟩ := prim_sound hk h1 hv
    exact ⟨.inr ⟨v,h2,⟨β,F,h3,hI,Ext.refl _ _ _ _⟩,h4⟩,hlo⟩
  split at h
  · rename_i fn hf
    split at h
    · rename_i c hc
      split at h
      · rename_i hk
        simp only [Bool.and_eq_true] at hk
        obtain ⟨⟨hk1,hk2⟩,hk3⟩ := hk
        have hk1' := Nat.le_of_ble_eq_true hk1
        have hsz:vs.size = args.length := by simpa using hv.length
        have hmode0:cfg.mode f = 0 → lo = [] ∧ H = [] := fun e => by
          rw [e] at hk3
          simpa [entOkB,List.isEmpty_iff] using hk3
        have hend := ends_sound (P := P) (cfg := cfg) hf hI hlo hk3 (r := (rs,H'))
        have hsub:∀ l ∈ entLo (cfg.mode f) lo H,l ∈ lo ∨ l = H.length := by
          intro l hl
          unfold entLo at hl
          split at hl
          · cases hl
          · cases hl
          · exact .inl hl
          · exact .inl hl
          · exact .inl hl
          · exact .inl hl
          · rcases List.mem_cons.mp hl with e | e
            · exact .inr e
            · exact .inl e
        have hst:St P (ntOf P f) H β F w [.code c] (entLo (cfg.mode f) lo H) H β F w { tmps := vs ++ Array.replicate (fn.ntmps - vs.size) undef,defers := [] } := by
          refine ⟨hI,Ext.refl _ _ _ _,?_,?_,?_,rfl,trivial⟩
          · intro l hl
            rcases hsub l hl with e | e
            · exact hlo l e
            · subst e
              exact ⟨Nat.le_refl _,hI.low⟩
          · intro b hb; cases hb
          · simp [ntOf,hf]; omega
        have hw := arun_sound hO hL hend fuelN [.code c] _ H β F w _ h hst (args_slots hv fn.ntmps)
        refine ⟨.inl ⟨⟨fn,hf,by simp [hc],by simpa using hk2⟩,?_⟩,?_⟩
        · refine calls_of_wp hf hc ?_
          refine Code.wp_mono (fun e a w' hq => ?_) hw
          have key:∀ a w',Fin P f lo H β F w (rs,H') a w' → a.defers = [] ∧ ∃ v,(results fn a.tmps).run P w' = .ok v w' ∧ ∃ v',Ending.returned v = .returned v' ∧ ∃ β' F',RA H' β' F' w' v' (ret rs) ∧ Inv H' β' F' w' ∧ Ext H β F w H' β' F' w' := by
            intro a w' hq
            obtain ⟨q1,fn',q2,v,q3,β',F',q4,q5,q6,q7⟩ := hq
            rw [hf] at q2
            cases q2
            exact ⟨q1,v,q3,v,rfl,β',F',q4,q5,q6⟩
          cases e with
          | normal => exact key _ _ hq
          | ret => exact key _ _ hq
          | _ => exact hq.elim
        · have hfin:∃ a w',Fin P f lo H β F w (rs,H') a w' := by
            obtain ⟨e,a,w',hq,_⟩ := hw (default:Frame) [] []
            cases e with
            | normal => exact ⟨a,w',hq⟩
            | ret => exact ⟨a,w',hq⟩
            | _ => exact hq.elim
          obtain ⟨a,w',_,_,_,_,_,_,_,_,_,_,h7⟩ := hfin
          exact h7
      · cases h
    · cases h
  · cases h
theorem labRun_sound {cfg:Cfg}{O:Oracle}(hO:EntOk P O)(hL:LabOk P cfg O){en:FuncId → List AV → List Nat → Heap → Res}:LabOk P cfg { ent := en,lab := labRun P cfg O } := by
  intro f keep todo vals lo H r h H0 β0 F0 w0 β F w a hst hr lo' hend
  simp only [labRun] at h
  split at h
  · rename_i c b k
    have := arun_sound hO hL hend fuelN _ _ H β F w a h (hst.mono (fun _ h => h) (fun _ h => h) (fun h => h)) hr.slots
    refine loopWp_of_body ?_
    rw [thenLoop_kwp (b := b)]
    exact this
  · exact arun_sound hO hL hend fuelN _ _ H β F w a h hst hr.slots
theorem denF_sound (P:Program)(cfg:Cfg)(hx:ExtOk P cfg):∀ n,EntOk P (denF P cfg n) ∧ LabOk P cfg (denF P cfg n) := by
  intro n
  induction n with
  | zero => exact ⟨fun _ _ _ _ _ _ h => (by cases h),fun _ _ _ _ _ _ _ h => (by cases h)⟩
  | succ n ih => exact ⟨entRun_sound hx ih.1 ih.2,labRun_sound ih.1 ih.2⟩
end
end Go.AM

