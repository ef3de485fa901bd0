/-
A call's own part of the heap, above what stood there: boxes, lists under way; the part below stays as it was. Calls that change truth values alone.
-/
import Derived.Test.YtnjfpnoamgipjaaDoorAm32
set_option linter.unusedVariables false
set_option linter.unusedSimpArgs false
set_option linter.unusedSectionVars false
namespace Go.AM
section
variable [Know]
structure Lc (n0:Nat)(H0 H:Heap)(fx:List (Nat × AObj))(ls:List Ll):Prop where
  cx:Cx H fx ls
  hn:H0.length = n0
  le:n0 ≤ H.length
  low:∀ j:Nat,j < n0 → H[j]? = H0[j]?
  hf:∀ q ∈ fx,n0 ≤ q.1
  hl:∀ q ∈ ls,∀ j g n,q.1 = .row j g 0 n → n0 ≤ j
variable {n0:Nat}{H0 H:Heap}{fx:List (Nat × AObj)}{ls l2:List Ll}
theorem Lc.start (H0:Heap):Lc H0.length H0 H0 [] [] := ⟨.nil _,rfl,Nat.le_refl _,fun _ _ => rfl,fun _ h => (by cases h),fun _ h => (by cases h)⟩
theorem Lc.get (h:Lc n0 H0 H fx ls){id:Nat}{o:AObj}(ho:H0[id]? = some o):H[id]? = some o := by
  have := getElem?_lt ho
  rw [h.low id (by rw [← h.hn]; exact this),ho]
theorem Lc.lst0 (h:Lc n0 H0 H fx ls){sz m:Nat}{a:AV}{cs:List PV}(hL:Lst sz a H0 m cs):Lst sz a H m cs := by
  obtain ⟨e,⟨nl,rfl,h1⟩ | ⟨id,g,rfl,ho⟩⟩ := hL
  · exact ⟨e,.inl ⟨nl,rfl,h1⟩⟩
  · exact ⟨e,.inr ⟨id,g,rfl,h.get ho⟩⟩
theorem Lc.take (h:Lc n0 H0 H fx ls):H.take n0 = H0 := by
  apply List.ext_getElem?
  intro j
  by_cases hj:j < n0
  · rw [List.getElem?_take_of_lt hj,h.low j hj]
  · rw [List.getElem?_eq_none (by simp; omega),List.getElem?_eq_none (by rw [h.hn]; omega)]
theorem Lc.push (h:Lc n0 H0 H fx ls)(os:List AObj):Lc n0 H0 (H ++ os) fx ls :=
  ⟨h.cx.push os,h.hn,by have := h.le; simp; omega,fun j hj => by rw [List.getElem?_append_left (by have := h.le; omega)]; exact h.low j hj,h.hf,h.hl⟩
theorem Lc.newBox (h:Lc n0 H0 H fx ls)(xs:List AV):Lc n0 H0 (H ++ [.box xs]) ((H.length,.box xs) :: fx) ls :=
  ⟨h.cx.newBox xs,h.hn,(h.push [_]).le,(h.push [_]).low,fun q hq => by
    rcases List.mem_cons.mp hq with e | e
    · subst e; exact h.le
    · exact h.hf q e,h.hl⟩
theorem Lc.mono {fx':List (Nat × AObj)}{ls':List Ll}(h:Lc n0 H0 H fx ls)(h1:∀ q ∈ fx',q ∈ fx)(h2:ls'.Sublist ls):Lc n0 H0 H fx' ls' :=
  ⟨h.cx.mono h1 h2,h.hn,h.le,h.low,fun q hq => h.hf q (h1 q hq),fun q hq => h.hl q (h2.subset hq)⟩
theorem Lc.bt {a:Nat × AObj}(h:Lc n0 H0 H (a :: fx) ls):Lc n0 H0 H fx ls := h.mono (fun _ h => List.mem_cons_of_mem _ h) (List.Sublist.refl _)
theorem Lc.tl {a:Ll}(h:Lc n0 H0 H fx (a :: ls)):Lc n0 H0 H fx ls := h.mono (fun _ h => h) (List.sublist_cons_self _ _)
theorem Lc.fperm {fx':List (Nat × AObj)}(h:Lc n0 H0 H fx ls)(h1:∀ q ∈ fx',q ∈ fx):Lc n0 H0 H fx' ls := h.mono h1 (List.Sublist.refl _)
theorem Lc.newNil (h:Lc n0 H0 H fx ls)(sz:Nat):Lc n0 H0 H fx ((.p nilS,sz,0,[]) :: ls) :=
  ⟨h.cx.newNil sz,h.hn,h.le,h.low,h.hf,fun q hq j g n e => by
    rcases List.mem_cons.mp hq with e' | e'
    · subst e'; cases e
    · exact h.hl q e' j g n e⟩
theorem Lc.perm {ls':List Ll}(h:Lc n0 H0 H fx ls)(p:ls.Perm ls'):Lc n0 H0 H fx ls' := ⟨h.cx.perm p,h.hn,h.le,h.low,h.hf,fun q hq => h.hl q (p.mem_iff.mpr hq)⟩
theorem Lc.setBox {id:Nat}{xs:List AV}(h:Lc n0 H0 H ((id,.box xs) :: fx) ls)(hd:∀ q ∈ fx,q.1 ≠ id)(ys:List AV):Lc n0 H0 (H.set id (.box ys)) ((id,.box ys) :: fx) ls := by
  have hid:n0 ≤ id := h.hf (id,.box xs) (by simp)
  refine ⟨h.cx.setBox hd ys,h.hn,by simpa using h.le,fun j hj => ?_,fun q hq => ?_,h.hl⟩
  · rw [List.getElem?_set_ne (by omega)]; exact h.low j hj
  · rcases List.mem_cons.mp hq with e | e
    · subst e; exact hid
    · exact h.hf q (by simp [e])
theorem Lc.lowSet (h:Lc n0 H0 H fx ls){id:Nat}{xs:List AV}(hx:H0[id]? = some (.box xs))(ys:List AV):Lc n0 (H0.set id (.box ys)) (H.set id (.box ys)) fx ls := by
  have hid:id < n0 := by rw [← h.hn]; exact getElem?_lt hx
  refine ⟨⟨fun q hq => ?_,fun q hq => ?_,h.cx.sep⟩,by simpa using h.hn,by simpa using h.le,fun j hj => ?_,h.hf,h.hl⟩
  · rw [List.getElem?_set_ne (by have := h.hf q hq; omega)]; exact h.cx.obj q hq
  · exact (h.cx.lst q hq).set fun g n e => by have := h.hl q hq id g n e; omega
  · by_cases e:id = j
    · subst e
      rw [List.getElem?_set_self (by have := h.le; omega),List.getElem?_set_self (by rw [h.hn]; exact hid)]
    · rw [List.getElem?_set_ne e,List.getElem?_set_ne e]; exact h.low j hj
theorem Lc.ge (h:Lc n0 H0 H fx ls){id:Nat}(o:AObj)(hq:(id,o) ∈ fx):n0 ≤ id := h.hf (id,o) hq
theorem Lc.geH {id:Nat}{o:AObj}(h:Lc n0 H0 H ((id,o) :: fx) ls):n0 ≤ id := h.hf (id,o) (by simp)
theorem Lc.keep {H':Heap}{o:AV}(h:Lc n0 H0 H fx ls)(ho:∀ j g n,o = .row j g 0 n → n0 ≤ j)(hk:Keeps o H H'):∀ j:Nat,j < n0 → H'[j]? = H0[j]? := by
  intro j hj
  have hlt:j < H.length := by have := h.le; omega
  have e := List.getElem?_eq_getElem hlt
  rw [← h.low j hj,e]
  exact hk.2 j _ e fun g n e' => by have := ho j g n e'; omega
theorem Lc.app {sz bytes m k:Nat}{o y:AV}{cs new:List PV}(l1:List Ll)(h:Lc n0 H0 H fx (l1 ++ (o,sz,m,cs) :: l2))(hy:cellsA sz y H = some (k,new))(hn:new.length = k * sz)(hk:0 < k)(hr:(m + k) * bytes ≤ room) :
    ∃ o' H',appA sz bytes o y H = some (o',H') ∧ Lc n0 H0 H' fx (l1 ++ (o',sz,m + k,cs ++ new) :: l2) ∧ ∃ id g,o' = .row id g 0 (m + k) := by
  have hL:Lst sz o H m cs := h.cx.lst (o,sz,m,cs) (by simp)
  have ho:∀ j g n,o = .row j g 0 n → n0 ≤ j := h.hl (o,sz,m,cs) (by simp)
  obtain ⟨o',H',e,hL',hK,_,h6,id,g,e',_⟩ := hL.app (bytes := bytes) hy hn hk hr
  have hs := sepAt h.cx.sep
  have hc:Cx H' fx (l1 ++ (o',sz,m + k,cs ++ new) :: l2) := by
    refine ⟨fun q hq => obj_keep hL hK (h.cx.obj q hq),fun q hq => ?_,sepPut h.cx.sep fun b hb => (hs b hb).app (h.cx.lst b (mem_of_mid hb)) h6⟩
    rcases mem_mid hq with e | e
    · subst e; exact hL'
    · exact (h.cx.lst q (mem_of_mid e)).keep hK (hs q e)
  refine ⟨o',H',e,⟨hc,h.hn,Nat.le_trans h.le hK.1,h.keep ho hK,h.hf,fun q hq j g' n e2 => ?_⟩,id,g,e'⟩
  rcases mem_mid hq with e3 | e3
  · subst e3
    simp only at e2
    by_cases hj:n0 ≤ j
    · exact hj
    · exact (h6 j (by have := h.le; omega) (fun g2 n2 e4 => by have := ho j g2 n2 e4; omega) g' n e2).elim
  · exact h.hl q (mem_of_mid e3) j g' n e2
theorem Lst.toPV {sz:Nat}{out:AV}{H:Heap}{m:Nat}{cs:List PV}(h:Lst sz out H m cs):∃ nl tg H',AM.toPV H out = some (.sl nl tg m cs,H') ∧ Keeps out H H' ∧ H'.length = H.length := by
  obtain ⟨hl,⟨nl,rfl,h1⟩ | ⟨id,g,rfl,ho⟩⟩ := h
  · exact ⟨nl,true,H,rfl,.refl _ _,rfl⟩
  · refine ⟨if 0 < m then some false else none,false,H.set id (.row (g + 1) sz []),?_,Keeps.setRow,by simp⟩
    simp only [AM.toPV,ho,Nat.zero_add,hl,Nat.le_refl,and_self,if_true]
    rw [List.drop_zero,List.take_of_length_le (by omega)]
theorem Lc.toPV {sz m:Nat}{o:AV}{cs:List PV}(l1:List Ll)(h:Lc n0 H0 H fx (l1 ++ (o,sz,m,cs) :: l2)):∃ nl tg H',AM.toPV H o = some (.sl nl tg m cs,H') ∧ Lc n0 H0 H' fx (l1 ++ l2) := by
  have hL:Lst sz o H m cs := h.cx.lst (o,sz,m,cs) (by simp)
  obtain ⟨nl,tg,H',e,hK,hlen⟩ := hL.toPV
  have hs := sepAt h.cx.sep
  refine ⟨nl,tg,H',e,⟨fun q hq => obj_keep hL hK (h.cx.obj q hq),fun q hq => ?_,?_⟩,h.hn,Nat.le_trans h.le hK.1,h.keep (h.hl (o,sz,m,cs) (by simp)) hK,h.hf,fun q hq => ?_⟩
  · have := List.mem_append.mp hq
    exact (h.cx.lst q (mem_of_mid this)).keep hK (hs q this)
  · exact h.cx.sep.sublist ((List.Sublist.refl l1).append (List.sublist_cons_self _ _))
  · exact h.hl q (mem_of_mid (List.mem_append.mp hq))
theorem frzLeaf_lst {sz m:Nat}{o:AV}{H:Heap}{cs:List PV}(h:Lst sz o H m cs):frzLeaf H o = (AM.toPV H o).map fun r => (.p r.1,r.2) := by
  obtain ⟨hl,⟨nl,rfl,h1⟩ | ⟨id,g,rfl,ho⟩⟩ := h <;> rfl
theorem Lst.leaf {sz m:Nat}{o:AV}{H:Heap}{cs:List PV}(h:Lst sz o H m cs):o.leaf = true := by
  obtain ⟨hl,⟨nl,rfl,h1⟩ | ⟨id,g,rfl,ho⟩⟩ := h <;> rfl
theorem Lst.cellsOf {sz m:Nat}{o:AV}{H:Heap}{cs:List PV}(h:Lst sz o H m cs):o.cells = [o] := by
  obtain ⟨hl,⟨nl,rfl,h1⟩ | ⟨id,g,rfl,ho⟩⟩ := h <;> rfl
theorem Lst.noB {sz m:Nat}{o:AV}{H:Heap}{cs:List PV}(h:Lst sz o H m cs):noBools o = true := by
  obtain ⟨hl,⟨nl,rfl,h1⟩ | ⟨id,g,rfl,ho⟩⟩ := h <;> rfl
theorem ldN_of {agg:Bool}{n:Nat}{p v:AV}{H:Heap}(h:ldS agg n p H = some v)(hv:noBools v = true):ldN agg n p H = some v := by
  unfold ldN; rw [h]; simp only [obs,hv,if_true]
theorem ldN_ptr {agg:Bool}{n id off:Nat}{v:AV}{H:Heap}(h:ld agg n (.ptr id off) H = some v)(hv:noBools v = true):ldN agg n (.ptr id off) H = some v := ldN_of h hv
theorem callA_7 {cfg:Cfg}{O:Oracle}{g:FuncId}{args rs:List AV}{lo:List Nat}{H H':Heap}(hm:cfg.mode g = 7)(h:O.ent g args lo H = some (rs,H'))(hl:H.length ≤ H'.length)(hh:∀ id:Nat,hideO H[id]? = hideO H'[id]?) :
    callA cfg O g args lo H = some (ret rs,H') := by
  simp only [callA,hm,h,obs]
  unfold boolsH
  exact if_pos ⟨hl,hh⟩
theorem hide_set {H:Heap}{id:Nat}{xs ys:List AV}(hx:H[id]? = some (.box xs))(hxy:xs.map hideB = ys.map hideB)(j:Nat):hideO H[j]? = hideO (H.set id (.box ys))[j]? := by
  by_cases e:id = j
  · subst e
    rw [List.getElem?_set_self (getElem?_lt hx),hx]
    exact congrArg some hxy
  · rw [List.getElem?_set_ne e]
theorem callA_7s {cfg:Cfg}{O:Oracle}{g:FuncId}{args rs:List AV}{lo:List Nat}{H:Heap}{id:Nat}{xs ys:List AV}(hm:cfg.mode g = 7)(hx:H[id]? = some (.box xs))(hxy:xs.map hideB = ys.map hideB)(h:O.ent g args lo H = some (rs,H.set id (.box ys))) :
    callA cfg O g args lo H = some (ret rs,H.set id (.box ys)) := callA_7 hm h (by simp) (hide_set hx hxy)
theorem callA_10s {cfg:Cfg}{O:Oracle}{g:FuncId}{args rs:List AV}{lo:List Nat}{H:Heap}{id:Nat}{xs ys:List AV}(hm:cfg.mode g = 10)(hx:H[id]? = some (.box xs))(hxy:xs.map hideB = ys.map hideB)(h:O.ent g args lo H = some (rs,H.set id (.box ys)))
    (h2:H[H.length - 1]? = some .hole → O.ent g args lo (H.set (H.length - 1) (.box ((cfg.holeZ g).map .p))) = some (rs,(H.set (H.length - 1) (.box ((cfg.holeZ g).map .p))).set id (.box ys))) :
    callA cfg O g args lo H = some (ret rs,H.set id (.box ys)) := by
  have hb:boolsH H (ret rs) (H.set id (.box ys)) = some (ret rs,H.set id (.box ys)) := by
    unfold boolsH
    exact if_pos ⟨by simp,hide_set hx hxy⟩
  simp only [callA,hm,h,obs,hb]
  unfold lastH
  rw [if_pos (by simp)]
  by_cases hh:H[H.length - 1]? = some .hole
  · rw [if_pos hh,h2 hh]
    have hne:id ≠ H.length - 1 := fun e => by rw [← e,hx] at hh; cases hh
    simp only [obs]
    rw [if_pos ⟨by rw [List.set_comm _ _ hne],by rw [List.getElem?_set_ne hne]; exact hh⟩]
  · rw [if_neg hh,if_neg]
    by_cases e:id = H.length - 1
    · rw [← e,List.getElem?_set_self (getElem?_lt hx)]; intro e2; cases e2
    · rw [List.getElem?_set_ne e]; exact hh
theorem callC_10 {cfg:Cfg}{O:Oracle}{k:ClK}{g:FuncId}{fs cs xs:List AV}{lo:List Nat}{H:Heap}(hc:closV cfg (some k) (.fn g fs cs) = true):callC cfg O (some k) (.fn g fs cs) xs lo H = callA cfg O g (fs ++ xs ++ cs) lo H := by
  unfold callC; rw [if_pos hc]; rfl
theorem fillLast {xs:List PV}(hx:0 < xs.length)(hc:pvCells (xs.map .p) = some xs)(H:Heap):fillA 1 0 (xs.map .p) (H ++ [.hole]) = some (.ptr H.length 0,H ++ [.box (xs.map .p)]) := by
  have e:holeAt 1 0 (H ++ [AObj.hole]) = H.length := by simp [holeAt]
  unfold fillA
  rw [e,hc]
  have e2:(H ++ [AObj.hole])[H.length]? = some .hole := by simp
  rw [e2]
  simp only
  rw [if_pos ⟨.inr ⟨by omega,by simp⟩,hx⟩]
  simp
theorem set_push {H:Heap}{id:Nat}{o:AObj}(h:id < H.length)(o':AObj):(H ++ [o]).set id o' = H.set id o' ++ [o] := List.set_append_left _ _ h
theorem leave7A {lo:List Nat}{H1 H':Heap}{x:AV}{ps:List PV}{n0:Nat}(h:frzA H1 x = some (.agg (ps.map .p),H')):leave 7 (n0 :: lo) [x] H1 = some ([.agg (ps.map .p)],H'.take n0) ∧ leave 10 (n0 :: lo) [x] H1 = some ([.agg (ps.map .p)],H'.take n0) := by
  have hl:AV.ltd n0 (.agg (ps.map AV.p)) = true := by
    show (ps.map AV.p).all (AV.lt n0 5) = true
    simp only [List.all_eq_true,List.mem_map]
    rintro _ ⟨x,_,rfl⟩
    rfl
  constructor <;> simp only [leave,frzAll,h,obs,oms,List.all_cons,List.all_nil,hl,Bool.and_true,if_true]
theorem leave10_I (lo:List Nat)(H:Heap)(n:Int):leave 10 (H.length :: lo) [I n] H = some ([I n],H) := by
  have:leave 10 (H.length :: lo) [I n] H = some ([I n],H.take H.length) := rfl
  rw [this,List.take_length]
theorem leave10_Is (lo:List Nat)(H:Heap)(n:Int)(id:Nat)(o:AObj):leave 10 (H.length :: lo) [I n] (H.set id o) = some ([I n],H.set id o) := by
  have:leave 10 (H.length :: lo) [I n] (H.set id o) = some ([I n],(H.set id o).take H.length) := rfl
  rw [this,List.take_of_length_le (by simp)]
end
end Go.AM

