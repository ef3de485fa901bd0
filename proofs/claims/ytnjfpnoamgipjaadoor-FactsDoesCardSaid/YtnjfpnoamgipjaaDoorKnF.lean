import Derived.Test.YtnjfpnoamgipjaaDoorKnE
set_option linter.unusedVariables false
set_option linter.unusedSimpArgs false
set_option linter.unusedSectionVars false
set_option maxRecDepth 100000
namespace Go.Proofs.YtnjfpnoamgipjaaDoor
open Go Go.AM
namespace Ir
def oX (t:TrD)(lp:Int)(ih xh:AV):List AV := [I t.fn,I t.at',I lp,ih,xh,I 0,I 0,.p nilS,.p nilS,I 0,I 0,.p nilS,.p nilS]
def oF (t:TrD)(lp:Int)(ih xh:AV)(c1 c2:ExC):List AV := [I t.fn,I t.at',I lp,ih,xh] ++ (eXc c1).map .p ++ (eXc c2).map .p
def res24 (c:TrC)(ok:Bool):Res := bif ok then some ([aG (eTc c),I 0],[]) else some ([aG (eTc zeroC),I 3],[])
def resD (c:TrC)(ok:Bool):Res := bif ok then some ([aG (eTc c),B true],[]) else some ([aG (eTc zeroC),B false],[])
theorem frzLeaves_p:∀ (xs:List PV)(ys:List AV)(H:Heap),frzLeaves H (xs.map .p ++ ys) = (frzLeaves H ys).map fun q => (xs.map .p ++ q.1,q.2)
  | [],ys,H => by cases h:frzLeaves H ys <;> simp [h]
  | x :: xs,ys,H => by
    rw [List.map_cons,List.cons_append]
    show (frzLeaves H (xs.map .p ++ ys)).map _ = _
    rw [frzLeaves_p xs ys H]
    cases frzLeaves H ys <;> rfl
theorem leave0_ag {lo:List Nat}{H H':Heap}{ys:List AV}{ps:List PV}{y:PV}(h:frzA H (.agg ys) = some (.agg (ps.map .p),H')):leave 0 lo [.agg ys,.p y] H = some ([aG ps,.p y],[]) := by
  have hl:AV.ltd 0 (.agg (ps.map AV.p)) = true := by
    show (ps.map AV.p).all (AV.lt 0 5) = true
    simp only [List.all_eq_true,List.mem_map]
    rintro _ ⟨x,_,rfl⟩
    rfl
  have hy:AV.ltd 0 (.p y) = true := rfl
  have h2:frzA H' (.p y) = some (.p y,H') := rfl
  simp only [leave,frzAll,h,h2,obs,oms,List.all_cons,List.all_nil,hl,hy,Bool.and_true,if_true]
theorem leave5_ag {lo:List Nat}{H H':Heap}{ys:List AV}{ps:List PV}{y:PV}(h:frzA H (.agg ys) = some (.agg (ps.map .p),H')):leave 5 lo [.agg ys,.p y] H = some ([aG ps,.p y],[]) := leave0_ag (lo := lo) h
theorem callA_5 {cfg:Cfg}{O:Oracle}{g:FuncId}{xs ys rs:List AV}{lo:List Nat}{H H1 H':Heap}(hm:cfg.mode g = 5)(hf:frzAll H xs = some (ys,H1))(hl:ys.all (AV.ltd 0) = true)(h:O.ent g ys [] [] = some (rs,H'))(hr:rs.all (AV.ltd 0) = true) :
    callA cfg O g xs lo H = some (ret rs,H1) := by
  simp only [callA,hm,hf,obs,hl,h,hr,if_true]
theorem frz_agg (xs:List PV)(H:Heap):frzA H (aG xs) = some (aG xs,H) := by
  have := frzLeaves_p xs [] H
  rw [List.append_nil] at this
  show (frzLeaves H (xs.map .p)).map _ = _
  rw [this]
  simp [frzLeaves]
theorem frz2L {xs:List PV}{th:AV}{H:Heap}{sz m:Nat}{cs:List PV}(h:Lst sz th H m cs):∃ nl tg H1,frzAll H [aG xs,th] = some ([aG xs,.p (.sl nl tg m cs)],H1) ∧ Keeps th H H1 ∧ H1.length = H.length := by
  obtain ⟨nl,tg,H1,e,k1,k2⟩ := h.toPV
  refine ⟨nl,tg,H1,?_,k1,k2⟩
  show (frzA H (aG xs)).bind _ = _
  rw [frz_agg]
  show ((frzA H th).bind fun r => (frzAll r.2 []).map fun q => (r.1 :: q.1,q.2)).map _ = _
  have:frzA H th = frzLeaf H th := by
    obtain ⟨_,⟨nl,rfl,_⟩ | ⟨id,g,rfl,_⟩⟩ := h <;> rfl
  rw [this,frzLeaf_lst h,e]
  rfl
theorem frzT {t:TrD}{lp:Int}{ih xh:AV}{ks:List A_TIns}{xs:List ExC}{c1 c2:ExC}{n0:Nat}{H0 H:Heap}{fx:List (Nat × AObj)}{ls:List Ll}
    (hL:Lc n0 H0 H fx ((ih,8,ks.length,ks.flatMap enc_TIns) :: (xh,4,xs.length,xs.flatMap eXc) :: ls)) (hi:Can ih ks.length) (hx:Can xh xs.length) :
    ∃ H',frzA H (.agg (oF t lp ih xh c1 c2)) = some (.agg ((eTc ⟨t.fn,t.at',lp,ks,xs,c1,c2⟩).map .p),H') := by
  obtain ⟨n1,t1,H1,e1,hL1⟩ := hL.toPV []
  obtain ⟨n2,t2,H2,e2,hL2⟩ := hL1.toPV []
  obtain ⟨rfl,rfl⟩ := hi.toPV e1
  obtain ⟨rfl,rfl⟩ := hx.toPV e2
  have f1 := frzLeaf_lst hL.cx.hd
  have f2 := frzLeaf_lst (hL1.cx.lst (xh,4,xs.length,xs.flatMap eXc) (by simp))
  rw [e1] at f1
  rw [e2] at f2
  have f3:frzLeaves H2 ((eXc c1 ++ eXc c2).map .p) = some ((eXc c1 ++ eXc c2).map .p,H2) := by
    have := frzLeaves_p (eXc c1 ++ eXc c2) [] H2
    rw [List.append_nil] at this
    rw [this]
    simp [frzLeaves]
  refine ⟨H2,?_⟩
  show (frzLeaves H ([Ia t.fn,Ia t.at',Ia lp].map .p ++ (ih :: xh :: ((eXc c1).map .p ++ (eXc c2).map .p)))).map _ = _
  rw [frzLeaves_p]
  show (((frzLeaf H ih).bind fun r => (frzLeaves r.2 (xh :: ((eXc c1).map .p ++ (eXc c2).map .p))).map fun q => (r.1 :: q.1,q.2)).map _).map _ = _
  rw [f1]
  show ((((frzLeaf H1 xh).bind fun r => (frzLeaves r.2 ((eXc c1).map .p ++ (eXc c2).map .p)).map fun q => (r.1 :: q.1,q.2)).map _).map _).map _ = _
  rw [f2]
  simp only [Option.map_some,Option.bind_some]
  rw [← List.map_append,f3,eTc_eq]
  simp only [Option.map_some,List.map_append,List.map_cons,List.map_nil,List.cons_append,List.nil_append,List.append_assoc]
theorem F24 {t:TrD}(ht:t.Sm){ats:List Int}(hlow:∀ a ∈ ats,-1 ≤ a)(hal:ats.length < 2 ^ 62){ks:List A_TIns}{lp:Int}{ah ih:AV}(hci:Can ih ks.length) :
    ∀ (c j:Nat) (b:Bool) (H:Heap) (xh:AV) (done:List ExC),t.exits.length - j = c → j ≤ t.exits.length →
    Lc 0 [] H [(3,.box (oX t lp ih xh)),(2,.box [ah,B b]),(0,.box ((eTr t).map .p)),(1,.box (z13.map .p))] [(xh,4,done.length,done.flatMap eXc),(ih,8,ks.length,ks.flatMap enc_TIns),(ah,1,ats.length,ats.map Ia)] → Can xh done.length → done.length = j →
    L24_52 [.ptr 0 0,.ptr 1 0,.ptr 2 0,.ptr 3 0,Rw eEx t.xN t.xT t.exits,I t.exits.length,I j] [] H =
      res24 ⟨t.fn,t.at',lp,ks,done ++ (t.exits.drop j).map (pX (on ats)),pX (on ats) t.turn,pX (on ats) t.back⟩ (((b && (t.exits.drop j).all (okX (on ats))) && okX (on ats) t.turn) && okX (on ats) t.back) := by
  intro c
  induction c with
  | zero =>
    intro j b H xh done hc hj hL hcx hd
    have:j = t.exits.length := by omega
    subst this
    have hQ:QP 2 ah ats b H := ⟨hL.cx.at (by simp),hL.cx.lst (ah,1,ats.length,ats.map Ia) (by simp),hlow,hal⟩
    have ht0 := hL.cx.at (id := 0) (o := .box ((eTr t).map .p)) (by simp)
    have x16:ld true 4 (.ptr 0 5) H = some (aG (eEx t.turn)) := by rw [ldAgg_box ht0 (by simp [eTr13]) (by simp [eTr13])]; rfl
    have c17 := call56 hQ ht.turn (lo := []) (by simp)
    have hL1 := (hL.fperm (fx' := [(2,.box [ah,B b]),(3,.box (oX t lp ih xh)),(0,.box ((eTr t).map .p)),(1,.box (z13.map .p))]) (fun q hq => by simp only [List.mem_cons,List.not_mem_nil,or_false] at hq ⊢; rcases hq with h | h | h | h <;> simp [h])).setBox (by
          intro q hq
          simp only [List.mem_cons,List.not_mem_nil,or_false] at hq
          rcases hq with h | h | h <;> subst h <;> simp only <;> omega) [ah,B (b && okX (on ats) t.turn)]
    have hQ1 := hQ.set (b && okX (on ats) t.turn)
    generalize hH1:H.set 2 (.box [ah,B (b && okX (on ats) t.turn)]) = H1 at c17 hL1 hQ1
    have ht1 := hL1.cx.at (id := 0) (o := .box ((eTr t).map .p)) (by simp)
    have x19:ldN true 4 (.ptr 0 9) H1 = some (aG (eEx t.back)) := ldN_ptr (by rw [ldAgg_box ht1 (by simp [eTr13]) (by simp [eTr13])]; rfl) rfl
    have c20 := call56 hQ1 ht.back (lo := []) (by simp)
    have hL2 := hL1.setBox (by
          intro q hq
          simp only [List.mem_cons,List.not_mem_nil,or_false] at hq
          rcases hq with h | h | h <;> subst h <;> simp only <;> omega) [ah,B (b && okX (on ats) t.turn && okX (on ats) t.back)]
    generalize hH2:H1.set 2 (.box [ah,B (b && okX (on ats) t.turn && okX (on ats) t.back)]) = H2 at c20 hL2
    have ho2 := hL2.cx.at (id := 3) (o := .box (oX t lp ih xh)) (by simp)
    have s1:stA 4 (.ptr 3 5) (aG (eXc (pX (on ats) t.turn))) [] H2 = some (H2.set 3 (.box ([I t.fn,I t.at',I lp,ih,xh] ++ (eXc (pX (on ats) t.turn)).map .p ++ [I 0,I 0,.p nilS,.p nilS]))) := stA_box ho2 rfl (by simp [oX]) rfl rfl (by simp [oX])
    have hL3 := (hL2.fperm (fx' := [(3,.box (oX t lp ih xh)),(2,.box [ah,B (b && okX (on ats) t.turn && okX (on ats) t.back)]),(1,.box (z13.map .p))]) (fun q hq => by simp only [List.mem_cons,List.not_mem_nil,or_false] at hq ⊢; rcases hq with h | h | h <;> simp [h])).setBox (by
          intro q hq
          simp only [List.mem_cons,List.not_mem_nil,or_false] at hq
          rcases hq with h | h <;> subst h <;> simp only <;> omega) ([I t.fn,I t.at',I lp,ih,xh] ++ (eXc (pX (on ats) t.turn)).map .p ++ [I 0,I 0,.p nilS,.p nilS])
    have ho3 := hL3.cx.at (id := 3) (o := .box ([I t.fn,I t.at',I lp,ih,xh] ++ (eXc (pX (on ats) t.turn)).map .p ++ [I 0,I 0,.p nilS,.p nilS])) (by simp)
    have s2:stA 4 (.ptr 3 9) (aG (eXc (pX (on ats) t.back))) [] (H2.set 3 (.box ([I t.fn,I t.at',I lp,ih,xh] ++ (eXc (pX (on ats) t.turn)).map .p ++ [I 0,I 0,.p nilS,.p nilS]))) = some ((H2.set 3 (.box ([I t.fn,I t.at',I lp,ih,xh] ++ (eXc (pX (on ats) t.turn)).map .p ++ [I 0,I 0,.p nilS,.p nilS]))).set 3 (.box (oF t lp ih xh (pX (on ats) t.turn) (pX (on ats) t.back)))) := stA_box ho3 rfl (by simp [eXc4]) rfl rfl (by simp)
    have hL4 := hL3.setBox (by
          intro q hq
          simp only [List.mem_cons,List.not_mem_nil,or_false] at hq
          rcases hq with h | h <;> subst h <;> simp only <;> omega) (oF t lp ih xh (pX (on ats) t.turn) (pX (on ats) t.back))
    generalize hH4:(H2.set 3 (.box ([I t.fn,I t.at',I lp,ih,xh] ++ (eXc (pX (on ats) t.turn)).map .p ++ [I 0,I 0,.p nilS,.p nilS]))).set 3 (.box (oF t lp ih xh (pX (on ats) t.turn) (pX (on ats) t.back))) = H4 at s2 hL4
    have hc4 := hL4.cx.at (id := 2) (o := .box [ah,B (b && okX (on ats) t.turn && okX (on ats) t.back)]) (by simp)
    have x27:ld false 1 (.ptr 2 1) H4 = some (B (b && okX (on ats) t.turn && okX (on ats) t.back)) := by rw [ld_box hc4]; rfl
    have hz4 := hL4.cx.at (id := 1) (o := .box (z13.map .p)) (by simp)
    rw [List.drop_length]
    simp only [List.all_nil,Bool.and_true,List.map_nil,List.append_nil]
    rw [L24_52_eq]
    cases hok:(b && okX (on ats) t.turn && okX (on ats) t.back) with
    | false =>
      rw [hok] at x27
      have bu:buildA [(I 0),(I 0),(I 0),(.p nilS),(.p nilS),(I 0),(I 0),(.p nilS),(.p nilS),(I 0),(I 0),(.p nilS),(.p nilS)] [] = some (aG z13) := rfl
      have st := stEx (n0 := 0) (lo := []) (by simp) (Nat.zero_le _) hz4 rfl (ys := z13.map .p) (n := 13) rfl (by decide) rfl
      have hz5:(H4.set 1 (.box (z13.map .p)))[1]? = some (.box (z13.map .p)) := List.getElem?_set_self (getElem?_lt hz4)
      have l5:ld true 13 (.ptr 1 0) (H4.set 1 (.box (z13.map .p))) = some (aG z13) := by rw [ldAgg_box hz5 (by simp) (by simp)]; rfl
      have lv:leave 5 [] [aG z13,I 3] (H4.set 1 (.box (z13.map .p))) = some ([aG z13,I 3],[]) := leave5_ag (H' := H4.set 1 (.box (z13.map .p))) rfl
      simp only [Int.lt_irrefl,fldA_ptr,Nat.zero_add,x16,c17,x19,c20,s1,s2,nilc,x27,bu,st,l5,lv,core]
      rfl
    | true =>
      rw [hok] at x27
      have ho4 := hL4.cx.at (id := 3) (o := .box (oF t lp ih xh (pX (on ats) t.turn) (pX (on ats) t.back))) (by simp)
      have l4:ld true 13 (.ptr 3 0) H4 = some (.agg (oF t lp ih xh (pX (on ats) t.turn) (pX (on ats) t.back))) := by rw [ldAgg_box ho4 (by simp [oF,eXc4]) (by simp [oF])]; rfl
      have lih:ih.leaf = true := (hL4.cx.lst (ih,8,ks.length,ks.flatMap enc_TIns) (by simp)).leaf
      have lxh:xh.leaf = true := hL4.cx.hd.leaf
      have lf:(oF t lp ih xh (pX (on ats) t.turn) (pX (on ats) t.back)).all AV.leaf = true := by
        simp only [oF,List.all_append,List.all_cons,List.all_nil,lih,lxh,leaves_p,Bool.and_true]; rfl
      have st := stEx (n0 := 0) (lo := []) (by simp) (Nat.zero_le _) hz4 rfl (ys := oF t lp ih xh (pX (on ats) t.turn) (pX (on ats) t.back)) (n := 13) rfl (by decide) lf
      have hL5 := (hL4.fperm (fx' := [(1,.box (z13.map .p))]) (fun q hq => by simp only [List.mem_cons,List.not_mem_nil,or_false] at hq ⊢; simp [hq])).setBox (fun q hq => by cases hq) (oF t lp ih xh (pX (on ats) t.turn) (pX (on ats) t.back))
      have hz5 := hL5.cx.at (id := 1) (o := .box (oF t lp ih xh (pX (on ats) t.turn) (pX (on ats) t.back))) (by simp)
      have l5:ld true 13 (.ptr 1 0) (H4.set 1 (.box (oF t lp ih xh (pX (on ats) t.turn) (pX (on ats) t.back)))) = some (.agg (oF t lp ih xh (pX (on ats) t.turn) (pX (on ats) t.back))) := by rw [ldAgg_box hz5 (by simp [oF,eXc4]) (by simp [oF])]; rfl
      obtain ⟨H6,fz⟩ := frzT (t := t) (lp := lp) (c1 := pX (on ats) t.turn) (c2 := pX (on ats) t.back) (hL5.perm (List.Perm.swap _ _ _)) hci hcx
      have lv := leave5_ag (lo := []) (y := Ia 0) fz
      simp only [Int.lt_irrefl,fldA_ptr,Nat.zero_add,x16,c17,x19,c20,s1,s2,nilc,x27,l4,st,l5,lv,core]
      rfl
  | succ c ih' =>
    intro j b H xh done hc hj hL hcx hd
    have h:j < t.exits.length := by omega
    have hlt:(j:Int) < t.exits.length := by omega
    have hx62 := ht.exits
    obtain ⟨x,hx⟩:∃ x,t.exits[j] = x := ⟨_,rfl⟩
    have hSx:x.Sm := ht.each x (hx ▸ List.getElem_mem h)
    have hi := idxR (enc := eEx) (k := 4) (nl := t.xN) (tg := t.xT) h
    have x3:ld true 4 (.fp (t.exits.flatMap eEx) (j * 4)) H = some (aG (eEx x)) := by rw [ldR eEx4 h,hx]
    have r4:boxO [] [I 0,I 0,.p nilS,.p nilS] H = some (.ptr H.length 0,H ++ [.box ([Ia 0,Ia 0,nilS,nilS].map .p)]) := boxE [Ia 0,Ia 0,nilS,nilS] H
    have r5:stA 4 (.ptr H.length 0) (aG (eEx x)) [] (H ++ [.box ([Ia 0,Ia 0,nilS,nilS].map .p)]) = some (H ++ [.box ((eEx x).map .p)]) := stEA rfl rfl (by decide)
    have h3 := getElem?_lt (hL.cx.at (id := 3) (o := .box (oX t lp ih xh)) (by simp))
    have hL1 := hL.newBox ((eEx x).map .p)
    generalize hHA:H ++ [AObj.box ((eEx x).map .p)] = HA at r5 hL1
    have hoA := hL1.cx.at (id := 3) (o := .box (oX t lp ih xh)) (by simp)
    have hxA := hL1.cx.at (id := H.length) (o := .box ((eEx x).map .p)) (by simp)
    have x7:ldN false 1 (.ptr 3 4) HA = some xh := ldN_ptr (by rw [ld_box hoA]; rfl) hL1.cx.hd.noB
    have x8:ld true 4 (.ptr H.length 0) HA = some (aG (eEx x)) := by rw [ldAgg_box hxA (by simp [eEx4]) (by simp [eEx4])]; rfl
    have hQ:QP 2 ah ats b HA := ⟨hL1.cx.at (by simp),hL1.cx.lst (ah,1,ats.length,ats.map Ia) (by simp),hlow,hal⟩
    have c9 := call56 hQ hSx (lo := []) (by simp)
    have hL2 := (hL1.fperm (fx' := [(2,.box [ah,B b]),(3,.box (oX t lp ih xh)),(0,.box ((eTr t).map .p)),(1,.box (z13.map .p))]) (fun q hq => by simp only [List.mem_cons,List.not_mem_nil,or_false] at hq ⊢; rcases hq with h | h | h | h <;> simp [h])).setBox (by
          intro q hq
          simp only [List.mem_cons,List.not_mem_nil,or_false] at hq
          rcases hq with h | h | h <;> subst h <;> simp only <;> omega) [ah,B (b && okX (on ats) x)]
    generalize hHB:HA.set 2 (.box [ah,B (b && okX (on ats) x)]) = HB at c9 hL2
    have e10 := litP (eXc (pX (on ats) x)) (eXc4 _) HB
    obtain ⟨o',HC,e11,hL3,id,g,rfl⟩ := hL2.app (bytes := 64) (y := .p (.sl (some false) true 1 (eXc (pX (on ats) x)))) (k := 1) (new := eXc (pX (on ats) x)) [] rfl rfl (by decide) (by unfold room; omega)
    have hoC := hL3.cx.at (id := 3) (o := .box (oX t lp ih xh)) (by simp)
    have st:stA 1 (.ptr 3 4) (.row id g 0 (done.length + 1)) [] HC = some (HC.set 3 (.box (oX t lp ih (.row id g 0 (done.length + 1))))) := stA_box hoC rfl (by simp [oX]) rfl rfl (by simp [oX])
    have hL4 := (hL3.fperm (fx' := [(3,.box (oX t lp ih xh)),(2,.box [ah,B (b && okX (on ats) x)]),(0,.box ((eTr t).map .p)),(1,.box (z13.map .p))]) (fun q hq => by simp only [List.mem_cons,List.not_mem_nil,or_false] at hq ⊢; rcases hq with h | h | h | h <;> simp [h])).setBox (by
          intro q hq
          simp only [List.mem_cons,List.not_mem_nil,or_false] at hq
          rcases hq with h | h | h <;> subst h <;> simp only <;> omega) (oX t lp ih (.row id g 0 (done.length + 1)))
    have w := wrapN (show j < 2 ^ 63 - 1 by omega)
    have ihe := ih' (j + 1) (b && okX (on ats) x) _ (.row id g 0 (done.length + 1)) (done ++ [pX (on ats) x]) (by omega) (by omega) (by
      rw [List.length_append,List.flatMap_append]
      simpa using hL4) (by rw [List.length_append]; exact Can.row (by simp)) (by simp [hd])
    rw [L24_52_eq]
    simp only [hlt,hi,x3,r4,r5,fldA_ptr,Nat.zero_add,x7,x8,c9,e10,e11,st,w,core]
    rw [ihe,List.drop_eq_getElem_cons h,hx]
    simp only [List.all_cons,List.map_cons,Bool.and_assoc,List.append_assoc,List.cons_append,List.nil_append]
end Ir
end Go.Proofs.YtnjfpnoamgipjaaDoor
set_option linter.unusedVariables false
set_option linter.unusedSimpArgs false
set_option linter.unusedSectionVars false
set_option maxRecDepth 100000
namespace Go.Proofs.YtnjfpnoamgipjaaDoor
open Go Go.AM
namespace Ir
def goodAt (to:List Int)(i:Nat):Prop := ∀ t,to[i]? = some t → -1 ≤ t ∧ t ≤ i
variable {t:TrD}{to:List Int}
section
variable (ht:t.Sm) (hn:to.length = t.ins.length) (hA:Ahead t.ins)
include ht hn hA
theorem R24 {nl:Option Bool}{tg:Bool}{H:Heap}{ah ih:AV}(h:S24 t to 0 H ah ih):∀ m,m ≤ t.ins.length → (∀ j,j < m → goodAt to j) →
    ∃ H' ah' ih',S24 t to m H' ah' ih' ∧ L24_14 [V nl tg to,.ptr 0 0,.ptr 1 0,.ptr 2 0,.ptr 3 0,Rw enc_TIns t.iN t.iT t.ins,I t.ins.length,I ((0:Nat):Int)] [] H =
      L24_14 [V nl tg to,.ptr 0 0,.ptr 1 0,.ptr 2 0,.ptr 3 0,Rw enc_TIns t.iN t.iT t.ins,I t.ins.length,I (m:Int)] [] H' := by
  intro m
  induction m with
  | zero => intro _ _; exact ⟨H,ah,ih,h,rfl⟩
  | succ m ihm =>
    intro hm hg
    obtain ⟨H1,ah1,ih1,k1,k2⟩ := ihm (by omega) (fun j hj => hg j (by omega))
    have hj:m < to.length := by omega
    have hto:to[m]? = some to[m] := List.getElem?_eq_getElem hj
    obtain ⟨H2,ah2,ih2,k3,k4⟩ := G24 ht hn hA k1 (by omega) hto (hg m (by omega) _ hto) (nl := nl) (tg := tg)
    exact ⟨H2,ah2,ih2,k3,k2.trans k4⟩
theorem E24 {nl:Option Bool}{tg:Bool}{H:Heap}{ah ih:AV}(h:S24 t to t.ins.length H ah ih) :
    L24_14 [V nl tg to,.ptr 0 0,.ptr 1 0,.ptr 2 0,.ptr 3 0,Rw enc_TIns t.iN t.iT t.ins,I t.ins.length,I t.ins.length] [] H = res24 (cutC t to) (cutOk t to) := by
  have hs := ht.ins
  have hL := h.lc
  have ht0 := hL.cx.at (id := 0) (o := .box ((eTr t).map .p)) (by simp)
  have ho0 := hL.cx.at (id := 3) (o := .box (oB t (lpO to t.loop t.ins.length) ih)) (by simp)
  have x15:ld false 1 (.ptr 0 2) H = some (I t.loop) := by rw [ld_box ht0]; rfl
  have x17:ld false 1 (.ptr 0 3) H = some (Rw enc_TIns t.iN t.iT t.ins) := by rw [ld_box ht0]; rfl
  have x21:ld false 1 (.ptr 3 3) H = some ih := by rw [ld_box ho0]; rfl
  have hlen := (hL.cx.lst (ih,8,(keptL (plT t to) to t.ins t.ins.length).length,(keptL (plT t to) to t.ins t.ins.length).flatMap enc_TIns) (by simp)).len H
  have klen := keptL_len (plT t to) to t.ins t.ins.length (Nat.le_refl _)
  have hd3:∀ q ∈ [(2,AObj.box [ah,B (okL (plT t to) to t.ins t.ins.length)]),(0,.box ((eTr t).map .p)),(1,.box (z13.map .p))],q.1 ≠ 3 := by
    intro q hq
    simp only [List.mem_cons,List.not_mem_nil,or_false] at hq
    rcases hq with h | h | h <;> subst h <;> simp only <;> omega
  have st1:∀ v:Int,stA 1 (.ptr 3 2) (I v) [] H = some (H.set 3 (.box (oB t v ih))) := fun v => stA_box ho0 rfl (by simp [oB]) rfl rfl (by simp [oB])
  -- the loop's place,past the last one
  obtain ⟨H1,lp1,e1,hL1,hlp1⟩:∃ H1 lp1,L24_14 [V nl tg to,.ptr 0 0,.ptr 1 0,.ptr 2 0,.ptr 3 0,Rw enc_TIns t.iN t.iT t.ins,I t.ins.length,I t.ins.length] [] H = L24_47 [.ptr 0 0,.ptr 1 0,.ptr 2 0,.ptr 3 0] [] H1 ∧
      Lc 0 [] H1 [(3,.box (oB t lp1 ih)),(2,.box [ah,B (okL (plT t to) to t.ins t.ins.length)]),(0,.box ((eTr t).map .p)),(1,.box (z13.map .p))]
        [(ah,1,(atN to t.ins.length).length,(atN to t.ins.length).map Ia),(ih,8,(keptL (plT t to) to t.ins t.ins.length).length,(keptL (plT t to) to t.ins t.ins.length).flatMap enc_TIns)] ∧
      lp1 = if (t.ins.length:Int) ≤ t.loop then (cnt to t.ins.length:Int) else lpO to t.loop t.ins.length := by
    rw [L24_14_eq]
    by_cases c:(t.ins.length:Int) ≤ t.loop
    · refine ⟨H.set 3 (.box (oB t (keptL (plT t to) to t.ins t.ins.length).length ih)),_,?_,hL.setBox hd3 _,by rw [if_pos c,klen]⟩
      simp only [Int.lt_irrefl,fldA_ptr,Nat.zero_add,x15,x17,c,x21,hlen,st1,core]
    · refine ⟨H,_,?_,hL,by rw [if_neg c]⟩
      simp only [Int.lt_irrefl,fldA_ptr,Nat.zero_add,x15,x17,c,core]
  have ht1 := hL1.cx.at (id := 0) (o := .box ((eTr t).map .p)) (by simp)
  have ho1 := hL1.cx.at (id := 3) (o := .box (oB t lp1 ih)) (by simp)
  have y2:ld false 1 (.ptr 0 2) H1 = some (I t.loop) := by rw [ld_box ht1]; rfl
  have st2:stA 1 (.ptr 3 2) (I 0) [] H1 = some (H1.set 3 (.box (oB t 0 ih))) := stA_box ho1 rfl (by simp [oB]) rfl rfl (by simp [oB])
  obtain ⟨H2,e2,hL2⟩:∃ H2,L24_47 [.ptr 0 0,.ptr 1 0,.ptr 2 0,.ptr 3 0] [] H1 = L24_51 [.ptr 0 0,.ptr 1 0,.ptr 2 0,.ptr 3 0] [] H2 ∧
      Lc 0 [] H2 [(3,.box (oB t (cnt to (min t.loop.toNat t.ins.length)) ih)),(2,.box [ah,B (okL (plT t to) to t.ins t.ins.length)]),(0,.box ((eTr t).map .p)),(1,.box (z13.map .p))]
        [(ah,1,(atN to t.ins.length).length,(atN to t.ins.length).map Ia),(ih,8,(keptL (plT t to) to t.ins t.ins.length).length,(keptL (plT t to) to t.ins t.ins.length).flatMap enc_TIns)] := by
    rw [L24_47_eq]
    by_cases c:t.loop ≤ 0
    · refine ⟨H1.set 3 (.box (oB t 0 ih)),?_,?_⟩
      · simp only [fldA_ptr,Nat.zero_add,y2,c,st2,core]
      · rw [show min t.loop.toNat t.ins.length = 0 by omega]
        exact hL1.setBox hd3 _
    · refine ⟨H1,?_,?_⟩
      · simp only [fldA_ptr,Nat.zero_add,y2,c,core]
      · have:lp1 = (cnt to (min t.loop.toNat t.ins.length):Int) := by
          rw [hlp1]
          split
          · rw [show min t.loop.toNat t.ins.length = t.ins.length by omega]
          · rw [lpO,if_pos (by omega),show min t.loop.toNat t.ins.length = t.loop.toNat by omega]
        rw [← this]; exact hL1
  have ht2 := hL2.cx.at (id := 0) (o := .box ((eTr t).map .p)) (by simp)
  have z2:ld false 1 (.ptr 0 4) H2 = some (Rw eEx t.xN t.xT t.exits) := by rw [ld_box ht2]; rfl
  have hf := F24 ht (atN_low to t.ins.length) (by rw [atN_len]; omega) (ks := keptL (plT t to) to t.ins t.ins.length) (lp := cnt to (min t.loop.toNat t.ins.length)) h.can t.exits.length 0 (okL (plT t to) to t.ins t.ins.length) H2 (.p nilS) [] rfl (Nat.zero_le _)
    ((hL2.newNil 4).perm (List.Perm.cons _ (List.Perm.swap _ _ _))) Can.nil rfl
  rw [e1,e2,L24_51_eq]
  simp only [fldA_ptr,Nat.zero_add,z2,lenA_sl,core]
  refine hf.trans ?_
  rw [List.drop_zero,List.nil_append]
  rfl
end
theorem start24 (t:TrD)(to:List Int):S24 t to 0 [.box ((eTr t).map .p),.box (z13.map .p),.box ([nilS,.v (.bool true)].map .p),.box ([Ia t.fn,Ia t.at',Ia 0,nilS,nilS,Ia 0,Ia 0,nilS,nilS,Ia 0,Ia 0,nilS,nilS].map .p)] (.p nilS) (.p nilS) := by
  have h := (((((Lc.start []).newBox ((eTr t).map .p)).newBox (z13.map .p)).newBox ([nilS,.v (.bool true)].map .p)).newBox ([Ia t.fn,Ia t.at',Ia 0,nilS,nilS,Ia 0,Ia 0,nilS,nilS,Ia 0,Ia 0,nilS,nilS].map .p))
  have h2 := (h.newNil 8).newNil 1
  have e:lpO to t.loop 0 = 0 := by rw [lpO,if_neg (by omega)]
  refine ⟨?_,Can.nil⟩
  rw [e]
  exact h2.fperm (fun q hq => by
    simp only [List.mem_cons,List.not_mem_nil,or_false] at hq
    rcases hq with h | h | h | h <;> subst h
    · exact List.mem_cons_self
    · exact List.mem_cons_of_mem _ List.mem_cons_self
    · exact List.mem_cons_of_mem _ (List.mem_cons_of_mem _ (List.mem_cons_of_mem _ List.mem_cons_self))
    · exact List.mem_cons_of_mem _ (List.mem_cons_of_mem _ List.mem_cons_self))
theorem ent24 (ht:t.Sm)(hn:to.length = t.ins.length)(nl:Option Bool)(tg:Bool) :
    O.ent 24 [aG (eTr t),V nl tg to] [] [] = L24_14 [V nl tg to,.ptr 0 0,.ptr 1 0,.ptr 2 0,.ptr 3 0,Rw enc_TIns t.iN t.iT t.ins,I t.ins.length,I ((0:Nat):Int)] [] [.box ((eTr t).map .p),.box (z13.map .p),.box ([nilS,.v (.bool true)].map .p),.box ([Ia t.fn,Ia t.at',Ia 0,nilS,nilS,Ia 0,Ia 0,nilS,nilS,Ia 0,Ia 0,nilS,nilS].map .p)] := by
  have r2:boxO [] [(I 0),(I 0),(I 0),(.p nilS),(.p nilS),(I 0),(I 0),(.p nilS),(.p nilS),(I 0),(I 0),(.p nilS),(.p nilS)] [.box ((eTr t).map .p)] = some (.ptr 1 0,[.box ((eTr t).map .p),.box (z13.map .p)]) := boxO_p z13 [_]
  have r15:boxO [] (AV.cells (aG [nilS,.v (.bool true)])) [.box ((eTr t).map .p),.box (z13.map .p)] = some (.ptr 2 0,[.box ((eTr t).map .p),.box (z13.map .p),.box ([nilS,.v (.bool true)].map .p)]) := boxO_p _ [_,_]
  have r21:boxO [] [(I 0),(I 0),(I 0),(.p nilS),(.p nilS),(I 0),(I 0),(.p nilS),(.p nilS),(I 0),(I 0),(.p nilS),(.p nilS)] [.box ((eTr t).map .p),.box (z13.map .p),.box ([nilS,.v (.bool true)].map .p)] = some (.ptr 3 0,[.box ((eTr t).map .p),.box (z13.map .p),.box ([nilS,.v (.bool true)].map .p),.box (z13.map .p)]) := boxO_p z13 [_,_,_]
  have b14:buildA [(.p nilS),(B false)] [(1,1,B true)] = some (aG [nilS,.v (.bool true)]) := rfl
  have b20:buildA [(I 0),(I 0),(I 0),(.p nilS),(.p nilS),(I 0),(I 0),(.p nilS),(.p nilS),(I 0),(I 0),(.p nilS),(.p nilS)] [(0,1,I t.fn),(1,1,I t.at')] = some (aG [Ia t.fn,Ia t.at',Ia 0,nilS,nilS,Ia 0,Ia 0,nilS,nilS,Ia 0,Ia 0,nilS,nilS]) := rfl
  have st:∀ o0 o1 o2:AObj,stA 13 (.ptr 3 0) (aG [Ia t.fn,Ia t.at',Ia 0,nilS,nilS,Ia 0,Ia 0,nilS,nilS,Ia 0,Ia 0,nilS,nilS]) [] [o0,o1,o2,.box (z13.map .p)] = some [o0,o1,o2,.box ([Ia t.fn,Ia t.at',Ia 0,nilS,nilS,Ia 0,Ia 0,nilS,nilS,Ia 0,Ia 0,nilS,nilS].map .p)] := fun o0 o1 o2 => stA_new (H := [o0,o1,o2]) rfl rfl (by decide)
  have g:∀ (l:List AObj) j,ld false 1 (.ptr 0 j) (.box ((eTr t).map .p) :: l) = ((eTr t)[j]?).map .p := fun l j => ldBx (H := _ :: l) rfl 1 j
  have t0:(eTr t)[0]? = some (Ia t.fn) := rfl
  have t1:(eTr t)[1]? = some (Ia t.at') := rfl
  have t3:(eTr t)[3]? = some (.sl t.iN t.iT t.ins.length (t.ins.flatMap enc_TIns)) := rfl
  rw [f24_eq]
  simp only [boxAgg0,r2,fldA_ptr,Nat.zero_add,g,t0,t1,t3,hn,r15,r21,b14,b20,st,lenA_sl,core]
  rfl
theorem call24g (ht:t.Sm)(hA:Ahead t.ins)(hn:to.length = t.ins.length)(hg:okTo to){nl:Option Bool}{tg:Bool}{xs:List AV}(lo:List Nat){H H1:Heap}(hf:frzAll H xs = some ([aG (eTr t),V nl tg to],H1)) :
    callA cfg O 24 xs lo H = some (bif cutOk t to then .tup [aG (eTc (cutC t to)),I 0] else .tup [aG (eTc zeroC),I 3],H1) := by
  have e:O.ent 24 [aG (eTr t),V nl tg to] [] [] = res24 (cutC t to) (cutOk t to) := by
    obtain ⟨H',ah',ih',k1,k2⟩ := R24 ht hn hA (start24 t to) t.ins.length (Nat.le_refl _) (fun j hj => hg j) (nl := nl) (tg := tg)
    rw [ent24 ht hn,k2,E24 ht hn hA k1]
  cases hc:cutOk t to with
  | true =>
    rw [hc] at e
    exact callA_5 (rs := [aG (eTc (cutC t to)),I 0]) rfl hf rfl e (by rw [eTc_eq]; rfl)
  | false =>
    rw [hc] at e
    exact callA_5 (rs := [aG (eTc zeroC),I 3]) rfl hf rfl e rfl
end Ir
end Go.Proofs.YtnjfpnoamgipjaaDoor
set_option linter.unusedVariables false
set_option linter.unusedSimpArgs false
set_option linter.unusedSectionVars false
set_option maxRecDepth 100000
namespace Go.Proofs.YtnjfpnoamgipjaaDoor
open Go Go.AM
namespace Ir
variable {t:TrD}{to:List Int}
def fnP:AV := .fn 57 [] [.ptr 1 0,.ptr 3 0]
abbrev c1T (t:TrD)(to:List Int):ExC := pX (plT t to) t.turn
abbrev c2T (t:TrD)(to:List Int):ExC := pX (plT t to) t.back
def b0T (t:TrD)(to:List Int):Bool := okX (plT t to) t.turn && okX (plT t to) t.back
abbrev fx25 (t:TrD)(to:List Int)(nl:Option Bool)(tg:Bool)(lp:Int)(ih xh:AV)(b:Bool):List (Nat × AObj) :=
  [(5,.box (oF t lp ih xh (c1T t to) (c2T t to))),(3,.box [B b]),(1,.box [V nl tg to]),(4,.box [fnP]),(0,.box ((eTr t).map .p)),(2,.box (z13.map .p))]
structure S25 (t:TrD)(to:List Int)(nl:Option Bool)(tg:Bool)(i:Nat)(H:Heap)(ih:AV):Prop where
  lc:Lc 0 [] H (fx25 t to nl tg (cnt to (min t.loop.toNat i)) ih (.p nilS) (b0T t to && okL (plT t to) to t.ins i)) [(ih,8,(keptL (plT t to) to t.ins i).length,(keptL (plT t to) to t.ins i).flatMap enc_TIns)]
  can:Can ih (keptL (plT t to) to t.ins i).length
  six:6 ≤ H.length
section
variable (ht:t.Sm) (hn:to.length = t.ins.length) (hg:okTo to)
include ht hn hg
theorem qd25 {nl:Option Bool}{tg:Bool}{lp:Int}{ih xh:AV}{b:Bool}{H:Heap}{fx:List (Nat × AObj)}{ls:List Ll}(hL:Lc 0 [] H fx ls)(hf:∀ q ∈ fx25 t to nl tg lp ih xh b,q ∈ fx):QD 1 3 4 (nl,tg,to) (atN to t.ins.length) b H :=
  ⟨hL.cx.at (hf _ (by simp)),hL.cx.at (hf _ (by simp)),hL.cx.at (hf _ (by simp [fnP])),by rw [hn],hg,by have := ht.ins; simp only; omega⟩
theorem put25 {nl:Option Bool}{tg:Bool}{lp:Int}{ih:AV}{b:Bool}{H:Heap}{ls:List Ll}{nid:Nat}{y:A_TIns}{j:Nat}(hj:j < 3)(v:Int)(h6:6 ≤ nid)
    (hL:Lc 0 [] H ((nid,.box ((enc_TIns y).map .p)) :: fx25 t to nl tg lp ih (.p nilS) b) ls) :
    ∃ H1 H2,callV cfg O fnP [I v] [] H = some (I (plT t to v),H1) ∧ stA 1 (.ptr nid (1 + j)) (I (plT t to v)) [] H1 = some H2 ∧ H1.length = H.length ∧ H2.length = H.length ∧
      Lc 0 [] H2 ((nid,.box ((enc_TIns (putI y (plT t to v) j)).map .p)) :: fx25 t to nl tg lp ih (.p nilS) (b && okV (plT t to) v)) ls := by
  have hQ:QD 1 3 4 (nl,tg,to) (atN to t.ins.length) b H := qd25 ht hn hg hL (fun q hq => List.mem_cons_of_mem _ hq)
  have e := call57 hQ v []
  have hL1 := (hL.fperm (fx' := [(3,.box [B b]),(nid,.box ((enc_TIns y).map .p)),(5,.box (oF t lp ih (.p nilS) (c1T t to) (c2T t to))),(1,.box [V nl tg to]),(4,.box [fnP]),(0,.box ((eTr t).map .p)),(2,.box (z13.map .p))]) (fun q hq => by simp only [List.mem_cons,List.not_mem_nil,or_false] at hq ⊢; rcases hq with h | h | h | h | h | h | h <;> simp [h])).setBox (by
          intro q hq
          simp only [List.mem_cons,List.not_mem_nil,or_false] at hq
          rcases hq with h | h | h | h | h | h <;> subst h <;> simp only <;> omega) [B (b && okV (plT t to) v)]
  generalize hH1:H.set 3 (.box [B (b && okV (plT t to) v)]) = H1 at e hL1
  have l1:H1.length = H.length := by rw [← hH1]; simp
  have hx := hL1.cx.at (id := nid) (o := .box ((enc_TIns y).map .p)) (by simp)
  have st:stA 1 (.ptr nid (1 + j)) (I (plT t to v)) [] H1 = some (H1.set nid (.box ((enc_TIns (putI y (plT t to v) j)).map .p))) := by
    have := stA_box (y := I (plT t to v)) (n := 1) (off := 1 + j) (lo := []) hx rfl (by simp only [List.length_map,len_TIns8]; omega) rfl rfl (by simp [len_TIns8])
    rw [this]
    show some (H1.set nid (.box (((enc_TIns y).map .p).set (1 + j) (.p (Ia (plT t to v)))))) = _
    rw [← List.map_set,put_enc _ _ hj]
  have hL2 := (hL1.fperm (fx' := (nid,.box ((enc_TIns y).map .p)) :: fx25 t to nl tg lp ih (.p nilS) (b && okV (plT t to) v)) (fun q hq => by simp only [List.mem_cons,List.not_mem_nil,or_false] at hq ⊢; rcases hq with h | h | h | h | h | h | h <;> simp [h])).setBox (by
          intro q hq
          simp only [List.mem_cons,List.not_mem_nil,or_false] at hq
          rcases hq with h | h | h | h | h | h <;> subst h <;> simp only <;> omega) ((enc_TIns (putI y (plT t to v) j)).map .p)
  exact ⟨H1,_,e,st,l1,by simp [l1],hL2⟩
theorem T35 {nl:Option Bool}{tg:Bool}{i:Nat}{ih:AV}{b:Bool}{H:Heap}{nid:Nat}{y:A_TIns}(h6:6 ≤ nid)(hi:i < t.ins.length)(hk:keptI to i = true){ks:List A_TIns}(hks:ks.length ≤ i)(hlen:6 ≤ H.length)
    (hL:Lc 0 [] H ((nid,.box ((enc_TIns y).map .p)) :: fx25 t to nl tg (cnt to (min t.loop.toNat i)) ih (.p nilS) b) [(ih,8,ks.length,ks.flatMap enc_TIns)]) :
    ∃ H' ih',L25_35 [.ptr 0 0,.ptr 1 0,.ptr 2 0,.ptr 3 0,.ptr 4 0,.fn 58 [] [.ptr 4 0],.ptr 5 0,I i,.ptr nid 0,Rw enc_TIns t.iN t.iT t.ins,I t.ins.length,I i] [] H =
      L25_14 [.ptr 0 0,.ptr 1 0,.ptr 2 0,.ptr 3 0,.ptr 4 0,.fn 58 [] [.ptr 4 0],.ptr 5 0,Rw enc_TIns t.iN t.iT t.ins,I t.ins.length,I ((i + 1:Nat):Int)] [] H' ∧
      Lc 0 [] H' (fx25 t to nl tg (cnt to (min t.loop.toNat (i + 1))) ih' (.p nilS) b) [(ih',8,(ks ++ [y]).length,(ks ++ [y]).flatMap enc_TIns)] ∧ Can ih' (ks ++ [y]).length ∧ 6 ≤ H'.length := by
  have hs := ht.ins
  have ht0 := hL.cx.at (id := 0) (o := .box ((eTr t).map .p)) (by simp)
  have ho0 := hL.cx.at (id := 5) (o := .box (oF t (cnt to (min t.loop.toNat i)) ih (.p nilS) (c1T t to) (c2T t to))) (by simp)
  have x2:ld false 1 (.ptr 0 2) H = some (I t.loop) := by rw [ld_box ht0]; rfl
  have x5:ld false 1 (.ptr 5 2) H = some (I (cnt to (min t.loop.toNat i))) := by rw [ld_box ho0]; rfl
  have w := wrapN (show i < 2 ^ 63 - 1 by omega)
  have cl := cnt_le to (min t.loop.toNat i)
  have w2 := wrapN (show cnt to (min t.loop.toNat i) < 2 ^ 63 - 1 by omega)
  have hd5:∀ q ∈ [(nid,AObj.box ((enc_TIns y).map .p)),(3,.box [B b]),(1,.box [V nl tg to]),(4,.box [fnP]),(0,.box ((eTr t).map .p)),(2,.box (z13.map .p))],q.1 ≠ 5 := by
    intro q hq
    simp only [List.mem_cons,List.not_mem_nil,or_false] at hq
    rcases hq with h | h | h | h | h | h <;> subst h <;> simp only <;> omega
  have pr:∀ lp,∀ q ∈ [(5,AObj.box (oF t lp ih (.p nilS) (c1T t to) (c2T t to))),(nid,AObj.box ((enc_TIns y).map .p)),(3,.box [B b]),(1,.box [V nl tg to]),(4,.box [fnP]),(0,.box ((eTr t).map .p)),(2,.box (z13.map .p))],q ∈ (nid,AObj.box ((enc_TIns y).map .p)) :: fx25 t to nl tg lp ih (.p nilS) b := by
    intro lp q hq
    simp only [List.mem_cons,List.not_mem_nil,or_false] at hq ⊢
    rcases hq with h | h | h | h | h | h | h <;> simp [h]
  have st8:∀ v:Int,stA 1 (.ptr 5 2) (I v) [] H = some (H.set 5 (.box (oF t v ih (.p nilS) (c1T t to) (c2T t to)))) := fun v => stA_box ho0 rfl (by simp [oF,eXc4]) rfl rfl (by simp [oF])
  obtain ⟨HB,e1,hLB,hlB⟩:∃ HB,L25_35 [.ptr 0 0,.ptr 1 0,.ptr 2 0,.ptr 3 0,.ptr 4 0,.fn 58 [] [.ptr 4 0],.ptr 5 0,I i,.ptr nid 0,Rw enc_TIns t.iN t.iT t.ins,I t.ins.length,I i] [] H =
      L25_39 [.ptr 0 0,.ptr 1 0,.ptr 2 0,.ptr 3 0,.ptr 4 0,.fn 58 [] [.ptr 4 0],.ptr 5 0,.ptr nid 0,Rw enc_TIns t.iN t.iT t.ins,I t.ins.length,I i] [] HB ∧
      Lc 0 [] HB [(5,.box (oF t (cnt to (min t.loop.toNat (i + 1))) ih (.p nilS) (c1T t to) (c2T t to))),(nid,.box ((enc_TIns y).map .p)),(3,.box [B b]),(1,.box [V nl tg to]),(4,.box [fnP]),(0,.box ((eTr t).map .p)),(2,.box (z13.map .p))] [(ih,8,ks.length,ks.flatMap enc_TIns)] ∧ HB.length = H.length := by
    rw [L25_35_eq]
    by_cases c:(i:Int) < t.loop
    · have ec:cnt to (min t.loop.toNat (i + 1)) = cnt to (min t.loop.toNat i) + 1 := by
        rw [show min t.loop.toNat (i + 1) = i + 1 by omega,show min t.loop.toNat i = i by omega,cnt,hk]; rfl
      refine ⟨H.set 5 (.box (oF t ((cnt to (min t.loop.toNat i) + 1:Nat):Int) ih (.p nilS) (c1T t to) (c2T t to))),?_,?_,by simp⟩
      · simp only [fldA_ptr,Nat.zero_add,x2,c,x5,w2,st8,core]
      · rw [ec]
        exact (hL.fperm (pr _)).setBox hd5 _
    · have ec:cnt to (min t.loop.toNat (i + 1)) = cnt to (min t.loop.toNat i) := by
        rw [show min t.loop.toNat (i + 1) = min t.loop.toNat i by omega]
      refine ⟨H,?_,?_,rfl⟩
      · simp only [fldA_ptr,Nat.zero_add,x2,c,core]
      · rw [ec]; exact hL.fperm (pr _)
  have hoB := hLB.cx.at (id := 5) (o := .box (oF t (cnt to (min t.loop.toNat (i + 1))) ih (.p nilS) (c1T t to) (c2T t to))) (by simp)
  have hxB := hLB.cx.at (id := nid) (o := .box ((enc_TIns y).map .p)) (by simp)
  have y2:ld false 1 (.ptr 5 3) HB = some ih := by rw [ld_box hoB]; rfl
  have y3:ld true 8 (.ptr nid 0) HB = some (tiV y) := by rw [ldAgg_box hxB (by simp [len_TIns8]) (by simp [len_TIns8])]; rfl
  have y4 := litP (enc_TIns y) (len_TIns8 _) HB
  obtain ⟨ih',HC,y5,hLC,id,g,rfl⟩ := hLB.app (bytes := 64) (y := .p (.sl (some false) true 1 (enc_TIns y))) (k := 1) (new := enc_TIns y) [] rfl rfl (by decide) (by unfold room; omega)
  have hoC := hLC.cx.at (id := 5) (o := .box (oF t (cnt to (min t.loop.toNat (i + 1))) ih (.p nilS) (c1T t to) (c2T t to))) (by simp)
  have y7:stA 1 (.ptr 5 3) (.row id g 0 (ks.length + 1)) [] HC = some (HC.set 5 (.box (oF t (cnt to (min t.loop.toNat (i + 1))) (.row id g 0 (ks.length + 1)) (.p nilS) (c1T t to) (c2T t to)))) := stA_box hoC rfl (by simp [oF,eXc4]) rfl rfl (by simp [oF])
  have hLD := hLC.setBox hd5 (oF t (cnt to (min t.loop.toNat (i + 1))) (.row id g 0 (ks.length + 1)) (.p nilS) (c1T t to) (c2T t to))
  refine ⟨HC.set 5 (.box (oF t (cnt to (min t.loop.toNat (i + 1))) (.row id g 0 (ks.length + 1)) (.p nilS) (c1T t to) (c2T t to))),.row id g 0 (ks.length + 1),?_,?_,by rw [List.length_append]; exact Can.row (by simp),?_⟩
  · rw [e1,L25_39_eq]
    simp only [fldA_ptr,Nat.zero_add,y2,y3,y4,y5,y7,core]
    rw [L25_41_eq]
    simp only [w,core]
  · rw [List.length_append,List.flatMap_append]
    have := hLD.fperm (fx' := fx25 t to nl tg (cnt to (min t.loop.toNat (i + 1))) (.row id g 0 (ks.length + 1)) (.p nilS) b) (fun q hq => by simp only [List.mem_cons,List.not_mem_nil,or_false] at hq ⊢; rcases hq with h | h | h | h | h | h <;> simp [h])
    simpa using this
  · have := getElem?_lt hoC
    simp; omega
end
end Ir
end Go.Proofs.YtnjfpnoamgipjaaDoor
set_option linter.unusedVariables false
set_option linter.unusedSimpArgs false
set_option linter.unusedSectionVars false
set_option maxRecDepth 100000
namespace Go.Proofs.YtnjfpnoamgipjaaDoor
open Go Go.AM
namespace Ir
variable {t:TrD}{to:List Int}
theorem vals_cases (op:Int):vals op = 0 ∨ vals op = 1 ∨ vals op = 2 ∨ vals op = 3 := by
  obtain ⟨h1,h2⟩ := asks_le op
  rw [asks_vals] at h1 h2
  omega
section
variable (ht:t.Sm) (hn:to.length = t.ins.length) (hg:okTo to)
include ht hn hg
theorem T33 {nl:Option Bool}{tg:Bool}{i:Nat}{lp:Int}{ih:AV}{b:Bool}{H:Heap}{nid:Nat}{y:A_TIns}{ls:List Ll}(h6:6 ≤ nid)
    (hL:Lc 0 [] H ((nid,.box ((enc_TIns y).map .p)) :: fx25 t to nl tg lp ih (.p nilS) b) ls) :
    ∃ H',H'.length = H.length ∧ L25_33 [.ptr 0 0,.ptr 1 0,.ptr 2 0,.ptr 3 0,.ptr 4 0,.fn 58 [] [.ptr 4 0],.ptr 5 0,I i,.ptr nid 0,Rw enc_TIns t.iN t.iT t.ins,I t.ins.length,I i] [] H =
      L25_35 [.ptr 0 0,.ptr 1 0,.ptr 2 0,.ptr 3 0,.ptr 4 0,.fn 58 [] [.ptr 4 0],.ptr 5 0,I i,.ptr nid 0,Rw enc_TIns t.iN t.iT t.ins,I t.ins.length,I i] [] H' ∧
      Lc 0 [] H' ((nid,.box ((enc_TIns (putI y (plT t to (argI y 0)) 0)).map .p)) :: fx25 t to nl tg lp ih (.p nilS) (b && okV (plT t to) (argI y 0))) ls := by
  obtain ⟨H1,H2,e1,e2,l1,l2,hL2⟩ := put25 ht hn hg (j := 0) (by decide) (argI y 0) h6 hL
  have hp := hL.cx.at (id := 4) (o := .box [fnP]) (by simp)
  have hx := hL.cx.at (id := nid) (o := .box ((enc_TIns y).map .p)) (by simp)
  have x1:ld false 1 (.ptr 4 0) H = some fnP := by rw [ld_box hp]; rfl
  have x3:ld false 1 (.ptr nid 1) H = some (I (argI y 0)) := by rw [ld_box hx]; rfl
  refine ⟨H2,l2,?_,hL2⟩
  rw [L25_33_eq]
  simp only [fldA_ptr,Nat.zero_add,x1,x3,e1,show stA 1 (.ptr nid 1) (I (plT t to (argI y 0))) [] H1 = some H2 from e2,core]
theorem T31 {nl:Option Bool}{tg:Bool}{i:Nat}{lp:Int}{ih:AV}{b:Bool}{H:Heap}{nid:Nat}{y:A_TIns}{ls:List Ll}(h6:6 ≤ nid)
    (hL:Lc 0 [] H ((nid,.box ((enc_TIns y).map .p)) :: fx25 t to nl tg lp ih (.p nilS) b) ls) :
    ∃ H',H'.length = H.length ∧ L25_31 [.ptr 0 0,.ptr 1 0,.ptr 2 0,.ptr 3 0,.ptr 4 0,.fn 58 [] [.ptr 4 0],.ptr 5 0,I i,.ptr nid 0,Rw enc_TIns t.iN t.iT t.ins,I t.ins.length,I i] [] H =
      L25_33 [.ptr 0 0,.ptr 1 0,.ptr 2 0,.ptr 3 0,.ptr 4 0,.fn 58 [] [.ptr 4 0],.ptr 5 0,I i,.ptr nid 0,Rw enc_TIns t.iN t.iT t.ins,I t.ins.length,I i] [] H' ∧
      Lc 0 [] H' ((nid,.box ((enc_TIns (putI y (plT t to (argI y 1)) 1)).map .p)) :: fx25 t to nl tg lp ih (.p nilS) (b && okV (plT t to) (argI y 1))) ls := by
  obtain ⟨H1,H2,e1,e2,l1,l2,hL2⟩ := put25 ht hn hg (j := 1) (by decide) (argI y 1) h6 hL
  have hp := hL.cx.at (id := 4) (o := .box [fnP]) (by simp)
  have hx := hL.cx.at (id := nid) (o := .box ((enc_TIns y).map .p)) (by simp)
  have x1:ld false 1 (.ptr 4 0) H = some fnP := by rw [ld_box hp]; rfl
  have x3:ld false 1 (.ptr nid 2) H = some (I (argI y 1)) := by rw [ld_box hx]; rfl
  refine ⟨H2,l2,?_,hL2⟩
  rw [L25_31_eq]
  simp only [fldA_ptr,Nat.zero_add,x1,x3,e1,show stA 1 (.ptr nid 2) (I (plT t to (argI y 1))) [] H1 = some H2 from e2,core]
theorem G25 {nl:Option Bool}{tg:Bool}{i:Nat}{H:Heap}{ih:AV}(h:S25 t to nl tg i H ih)(hi:i < t.ins.length) :
    ∃ H' ih',S25 t to nl tg (i + 1) H' ih' ∧ L25_14 [.ptr 0 0,.ptr 1 0,.ptr 2 0,.ptr 3 0,.ptr 4 0,.fn 58 [] [.ptr 4 0],.ptr 5 0,Rw enc_TIns t.iN t.iT t.ins,I t.ins.length,I (i:Int)] [] H =
      L25_14 [.ptr 0 0,.ptr 1 0,.ptr 2 0,.ptr 3 0,.ptr 4 0,.fn 58 [] [.ptr 4 0],.ptr 5 0,Rw enc_TIns t.iN t.iT t.ins,I t.ins.length,I ((i + 1:Nat):Int)] [] H' := by
  have hs := ht.ins
  have hlt:(i:Int) < t.ins.length := by omega
  obtain ⟨x,hx⟩:∃ x,t.ins[i] = x := ⟨_,rfl⟩
  have hx?:t.ins[i]? = some x := by rw [List.getElem?_eq_getElem hi,hx]
  have hL := h.lc
  have h6 := h.six
  have x2 := idxR (enc := enc_TIns) (k := 8) (nl := t.iN) (tg := t.iT) hi
  have x3:ld true 8 (.fp (t.ins.flatMap enc_TIns) (i * 8)) H = some (tiV x) := by rw [ldR len_TIns8 hi,hx]
  have r4 := box8 H
  have r5 := st8 x [] H
  have hL1 := hL.newBox ((enc_TIns x).map .p)
  have lA:(H ++ [AObj.box ((enc_TIns x).map .p)]).length = H.length + 1 := by simp
  generalize hHA:H ++ [AObj.box ((enc_TIns x).map .p)] = HA at r5 hL1 lA
  have hto0 := hL1.cx.at (id := 1) (o := .box [V nl tg to]) (by simp)
  have hx0 := hL1.cx.at (id := H.length) (o := .box ((enc_TIns x).map .p)) (by simp)
  have hp0 := hL1.cx.at (id := 4) (o := .box [fnP]) (by simp)
  have hj:i < to.length := by omega
  obtain ⟨tv,htv⟩:∃ tv,to[i] = tv := ⟨_,rfl⟩
  have hto:to[i]? = some tv := by rw [List.getElem?_eq_getElem hj,htv]
  have x6:ld false 1 (.ptr 1 0) HA = some (V nl tg to) := by rw [ld_box hto0]; rfl
  have x7 := idxV (nl := nl) (tg := tg) hj
  have x8:ld false 1 (.fp (to.map Ia) i) HA = some (I tv) := by rw [ldV hj,htv]
  have w := wrapN (show i < 2 ^ 63 - 1 by omega)
  by_cases ek:tv = (i:Int)
  · have hkp:keptI to i = true := by rw [keptI,hto]; simp [ek]
    have ekl:keptL (plT t to) to t.ins (i + 1) = keptL (plT t to) to t.ins i ++ [insM (plT t to) x] := by rw [keptL,hx?]; simp only [hkp,if_true]
    have eol:okL (plT t to) to t.ins (i + 1) = (okL (plT t to) to t.ins i && okI (plT t to) x) := by rw [okL,hx?]; simp only [hkp,Bool.not_true,Bool.false_or]
    have kle := keptL_le (plT t to) to t.ins (i := i) (by omega)
    have x11:ld false 1 (.ptr H.length 0) HA = some (I x.1) := by rw [ld_box hx0]; rfl
    have r12 := call41 x.1 [] HA
    have x14:ld false 1 (.ptr 4 0) HA = some fnP := by rw [ld_box hp0]; rfl
    have x16:ld false 1 (.ptr H.length 3) HA = some (I (argI x 2)) := by rw [ld_box hx0]; rfl
    have fin:∀ (y:A_TIns) (b:Bool) (HB:Heap),y = insM (plT t to) x → b = (b0T t to && okL (plT t to) to t.ins i && okI (plT t to) x) → HB.length = HA.length →
        Lc 0 [] HB ((H.length,.box ((enc_TIns y).map .p)) :: fx25 t to nl tg (cnt to (min t.loop.toNat i)) ih (.p nilS) b) [(ih,8,(keptL (plT t to) to t.ins i).length,(keptL (plT t to) to t.ins i).flatMap enc_TIns)] →
        ∃ H' ih',S25 t to nl tg (i + 1) H' ih' ∧ L25_35 [.ptr 0 0,.ptr 1 0,.ptr 2 0,.ptr 3 0,.ptr 4 0,.fn 58 [] [.ptr 4 0],.ptr 5 0,I i,.ptr H.length 0,Rw enc_TIns t.iN t.iT t.ins,I t.ins.length,I i] [] HB =
          L25_14 [.ptr 0 0,.ptr 1 0,.ptr 2 0,.ptr 3 0,.ptr 4 0,.fn 58 [] [.ptr 4 0],.ptr 5 0,Rw enc_TIns t.iN t.iT t.ins,I t.ins.length,I ((i + 1:Nat):Int)] [] H' := by
      intro y b HB hy hb hl hLB
      subst hy hb
      obtain ⟨H',ih',k1,k2,k3,k4⟩ := T35 ht hn hg h6 hi hkp kle (by omega) hLB
      exact ⟨H',ih',⟨by rw [eol,ekl,← Bool.and_assoc]; exact k2,by rw [ekl]; exact k3,k4⟩,k1⟩
    rcases vals_cases x.1 with hv | hv | hv | hv
    · obtain ⟨H',ih',k1,k2⟩ := fin x (b0T t to && okL (plT t to) to t.ins i) HA (by rw [insM,hv]; rfl) (by rw [okI,hv]; simp [okK]) rfl hL1
      refine ⟨H',ih',k1,?_⟩
      rw [L25_14_eq,← k2]
      rw [hv] at r12
      simp only [hlt,x2,x3,r4,r5,fldA_ptr,Nat.zero_add,x6,x7,x8,decide_eq_true ek,x11,r12,Int.reduceEq,core]
    · obtain ⟨H3,l3,e3,hL3⟩ := T33 ht hn hg (i := i) h6 hL1
      obtain ⟨H',ih',k1,k2⟩ := fin _ _ H3 (by rw [insM,hv]; rfl) (by rw [okI,hv]; simp [okK,Bool.and_assoc]) l3 hL3
      refine ⟨H',ih',k1,?_⟩
      rw [L25_14_eq,← k2,← e3]
      rw [hv] at r12
      simp only [hlt,x2,x3,r4,r5,fldA_ptr,Nat.zero_add,x6,x7,x8,decide_eq_true ek,x11,r12,Int.reduceEq,core]
    · obtain ⟨H2,l2,e2,hL2⟩ := T31 ht hn hg (i := i) h6 hL1
      obtain ⟨H3,l3,e3,hL3⟩ := T33 ht hn hg (i := i) h6 hL2
      obtain ⟨H',ih',k1,k2⟩ := fin _ _ H3 (by rw [insM,hv]; rfl) (by
        rw [okI,hv]
        show (_ && okV (plT t to) (argI x 1) && okV (plT t to) (argI x 0)) = (_ && ((true && okV (plT t to) (argI x 0)) && okV (plT t to) (argI x 1)))
        cases okV (plT t to) (argI x 0) <;> cases okV (plT t to) (argI x 1) <;> simp) (by rw [l3,l2]) hL3
      refine ⟨H',ih',k1,?_⟩
      rw [L25_14_eq,← k2,← e3,← e2]
      rw [hv] at r12
      simp only [hlt,x2,x3,r4,r5,fldA_ptr,Nat.zero_add,x6,x7,x8,decide_eq_true ek,x11,r12,Int.reduceEq,core]
    · obtain ⟨HP,HQ,p1,p2,pl1,pl2,hLQ⟩ := put25 ht hn hg (j := 2) (by decide) (argI x 2) h6 hL1
      obtain ⟨H2,l2,e2,hL2⟩ := T31 ht hn hg (i := i) h6 hLQ
      obtain ⟨H3,l3,e3,hL3⟩ := T33 ht hn hg (i := i) h6 hL2
      obtain ⟨H',ih',k1,k2⟩ := fin _ _ H3 (by rw [insM,hv]; rfl) (by
        rw [okI,hv]
        show (_ && okV (plT t to) (argI x 2) && okV (plT t to) (argI x 1) && okV (plT t to) (argI x 0)) = (_ && (((true && okV (plT t to) (argI x 0)) && okV (plT t to) (argI x 1)) && okV (plT t to) (argI x 2)))
        cases okV (plT t to) (argI x 0) <;> cases okV (plT t to) (argI x 1) <;> cases okV (plT t to) (argI x 2) <;> simp) (by rw [l3,l2,pl2]) hL3
      refine ⟨H',ih',k1,?_⟩
      rw [L25_14_eq,← k2,← e3,← e2]
      rw [hv] at r12
      simp only [hlt,x2,x3,r4,r5,fldA_ptr,Nat.zero_add,x6,x7,x8,decide_eq_true ek,x11,r12,x14,x16,p1,show stA 1 (.ptr H.length 3) (I (plT t to (argI x 2))) [] HP = some HQ from p2,Int.reduceEq,core]
  · have hkp:keptI to i = false := by rw [keptI,hto]; simp [ek]
    have ekl:keptL (plT t to) to t.ins (i + 1) = keptL (plT t to) to t.ins i := by rw [keptL,hx?]; simp [hkp]
    have eol:okL (plT t to) to t.ins (i + 1) = okL (plT t to) to t.ins i := by rw [okL,hx?]; simp [hkp]
    have ec:cnt to (min t.loop.toNat (i + 1)) = cnt to (min t.loop.toNat i) := by
      by_cases c:i < t.loop.toNat
      · rw [show min t.loop.toNat (i + 1) = i + 1 by omega,show min t.loop.toNat i = i by omega,cnt,hkp]; rfl
      · rw [show min t.loop.toNat (i + 1) = min t.loop.toNat i by omega]
    refine ⟨HA,ih,⟨by rw [eol,ekl,ec]; exact hL1.bt,by rw [ekl]; exact h.can,by omega⟩,?_⟩
    rw [L25_14_eq]
    simp only [hlt,x2,x3,r4,r5,fldA_ptr,Nat.zero_add,x6,x7,x8,decide_eq_false ek,core]
    rw [L25_41_eq]
    simp only [w,core]
theorem R25 {nl:Option Bool}{tg:Bool}{H:Heap}{ih:AV}(h:S25 t to nl tg 0 H ih):∀ m,m ≤ t.ins.length →
    ∃ H' ih',S25 t to nl tg m H' ih' ∧ L25_14 [.ptr 0 0,.ptr 1 0,.ptr 2 0,.ptr 3 0,.ptr 4 0,.fn 58 [] [.ptr 4 0],.ptr 5 0,Rw enc_TIns t.iN t.iT t.ins,I t.ins.length,I ((0:Nat):Int)] [] H =
      L25_14 [.ptr 0 0,.ptr 1 0,.ptr 2 0,.ptr 3 0,.ptr 4 0,.fn 58 [] [.ptr 4 0],.ptr 5 0,Rw enc_TIns t.iN t.iT t.ins,I t.ins.length,I (m:Int)] [] H' := by
  intro m
  induction m with
  | zero => intro _; exact ⟨H,ih,h,rfl⟩
  | succ m ihm =>
    intro hm
    obtain ⟨H1,ih1,k1,k2⟩ := ihm (by omega)
    obtain ⟨H2,ih2,k3,k4⟩ := G25 ht hn hg k1 (by omega)
    exact ⟨H2,ih2,k3,k2.trans k4⟩
theorem F25 {nl:Option Bool}{tg:Bool}{ks:List A_TIns}{lp:Int}{ih:AV}(hci:Can ih ks.length) :
    ∀ (c j:Nat) (b:Bool) (H:Heap) (xh:AV) (done:List ExC),t.exits.length - j = c → j ≤ t.exits.length → 6 ≤ H.length →
    Lc 0 [] H (fx25 t to nl tg lp ih xh b) [(xh,4,done.length,done.flatMap eXc),(ih,8,ks.length,ks.flatMap enc_TIns)] → Can xh done.length → done.length = j →
    L25_44 [.ptr 2 0,.ptr 3 0,.fn 58 [] [.ptr 4 0],.ptr 5 0,Rw eEx t.xN t.xT t.exits,I t.exits.length,I j] [] H =
      resD ⟨t.fn,t.at',lp,ks,done ++ (t.exits.drop j).map (pX (plT t to)),c1T t to,c2T t to⟩ (b && (t.exits.drop j).all (okX (plT t to))) := by
  intro c
  induction c with
  | zero =>
    intro j b H xh done hc hj h6 hL hcx hd
    have:j = t.exits.length := by omega
    subst this
    have hf4 := hL.cx.at (id := 3) (o := .box [B b]) (by simp)
    have hz4 := hL.cx.at (id := 2) (o := .box (z13.map .p)) (by simp)
    have x15:ld false 1 (.ptr 3 0) H = some (B b) := by rw [ld_box hf4]; rfl
    rw [List.drop_length]
    simp only [List.all_nil,Bool.and_true,List.map_nil,List.append_nil]
    rw [L25_44_eq]
    cases b with
    | false =>
      have bu:buildA [(I 0),(I 0),(I 0),(.p nilS),(.p nilS),(I 0),(I 0),(.p nilS),(.p nilS),(I 0),(I 0),(.p nilS),(.p nilS)] [] = some (aG z13) := rfl
      have st := stEx (n0 := 0) (lo := []) (by simp) (Nat.zero_le _) hz4 rfl (ys := z13.map .p) (n := 13) rfl (by decide) rfl
      have hz5:(H.set 2 (.box (z13.map .p)))[2]? = some (.box (z13.map .p)) := List.getElem?_set_self (getElem?_lt hz4)
      have l5:ld true 13 (.ptr 2 0) (H.set 2 (.box (z13.map .p))) = some (aG z13) := by rw [ldAgg_box hz5 (by simp) (by simp)]; rfl
      have lv:leave 5 [] [aG z13,B false] (H.set 2 (.box (z13.map .p))) = some ([aG z13,B false],[]) := leave5_ag (H' := H.set 2 (.box (z13.map .p))) rfl
      simp only [Int.lt_irrefl,x15,bu,st,l5,lv,core]
      rfl
    | true =>
      have ho4 := hL.cx.at (id := 5) (o := .box (oF t lp ih xh (c1T t to) (c2T t to))) (by simp)
      have l4:ld true 13 (.ptr 5 0) H = some (.agg (oF t lp ih xh (c1T t to) (c2T t to))) := by rw [ldAgg_box ho4 (by simp [oF,eXc4]) (by simp [oF])]; rfl
      have lih:ih.leaf = true := (hL.cx.lst (ih,8,ks.length,ks.flatMap enc_TIns) (by simp)).leaf
      have lxh:xh.leaf = true := hL.cx.hd.leaf
      have lf:(oF t lp ih xh (c1T t to) (c2T t to)).all AV.leaf = true := by
        simp only [oF,List.all_append,List.all_cons,List.all_nil,lih,lxh,leaves_p,Bool.and_true]; rfl
      have st := stEx (n0 := 0) (lo := []) (by simp) (Nat.zero_le _) hz4 rfl (ys := oF t lp ih xh (c1T t to) (c2T t to)) (n := 13) rfl (by decide) lf
      have hL5 := (hL.fperm (fx' := [(2,.box (z13.map .p))]) (fun q hq => by simp only [List.mem_cons,List.not_mem_nil,or_false] at hq ⊢; simp [hq])).setBox (fun q hq => by cases hq) (oF t lp ih xh (c1T t to) (c2T t to))
      have hz5 := hL5.cx.at (id := 2) (o := .box (oF t lp ih xh (c1T t to) (c2T t to))) (by simp)
      have l5:ld true 13 (.ptr 2 0) (H.set 2 (.box (oF t lp ih xh (c1T t to) (c2T t to)))) = some (.agg (oF t lp ih xh (c1T t to) (c2T t to))) := by rw [ldAgg_box hz5 (by simp [oF,eXc4]) (by simp [oF])]; rfl
      obtain ⟨H6,fz⟩ := frzT (t := t) (lp := lp) (c1 := c1T t to) (c2 := c2T t to) (hL5.perm (List.Perm.swap _ _ _)) hci hcx
      have lv := leave5_ag (lo := []) (y := .v (.bool true)) fz
      simp only [Int.lt_irrefl,x15,l4,st,l5,lv,core]
      rfl
  | succ c ih' =>
    intro j b H xh done hc hj h6 hL hcx hd
    have h:j < t.exits.length := by omega
    have hlt:(j:Int) < t.exits.length := by omega
    have hx62 := ht.exits
    obtain ⟨x,hx⟩:∃ x,t.exits[j] = x := ⟨_,rfl⟩
    have hSx:x.Sm := ht.each x (hx ▸ List.getElem_mem h)
    have hi := idxR (enc := eEx) (k := 4) (nl := t.xN) (tg := t.xT) h
    have x3:ld true 4 (.fp (t.exits.flatMap eEx) (j * 4)) H = some (aG (eEx x)) := by rw [ldR eEx4 h,hx]
    have r4:boxO [] [I 0,I 0,.p nilS,.p nilS] H = some (.ptr H.length 0,H ++ [.box ([Ia 0,Ia 0,nilS,nilS].map .p)]) := boxE [Ia 0,Ia 0,nilS,nilS] H
    have r5:stA 4 (.ptr H.length 0) (aG (eEx x)) [] (H ++ [.box ([Ia 0,Ia 0,nilS,nilS].map .p)]) = some (H ++ [.box ((eEx x).map .p)]) := stEA rfl rfl (by decide)
    have hL1 := hL.newBox ((eEx x).map .p)
    have lA:(H ++ [AObj.box ((eEx x).map .p)]).length = H.length + 1 := by simp
    generalize hHA:H ++ [AObj.box ((eEx x).map .p)] = HA at r5 hL1 lA
    have hoA := hL1.cx.at (id := 5) (o := .box (oF t lp ih xh (c1T t to) (c2T t to))) (by simp)
    have hxA := hL1.cx.at (id := H.length) (o := .box ((eEx x).map .p)) (by simp)
    have x7:ldN false 1 (.ptr 5 4) HA = some xh := ldN_ptr (by rw [ld_box hoA]; rfl) hL1.cx.hd.noB
    have x8:ld true 4 (.ptr H.length 0) HA = some (aG (eEx x)) := by rw [ldAgg_box hxA (by simp [eEx4]) (by simp [eEx4])]; rfl
    have hQ:QD 1 3 4 (nl,tg,to) (atN to t.ins.length) b HA := qd25 ht hn hg hL1 (fun q hq => List.mem_cons_of_mem _ hq)
    have c9 := call58b hQ hSx (lo := []) (by simp)
    have hL2 := (hL1.fperm (fx' := [(3,.box [B b]),(5,.box (oF t lp ih xh (c1T t to) (c2T t to))),(1,.box [V nl tg to]),(4,.box [fnP]),(0,.box ((eTr t).map .p)),(2,.box (z13.map .p))]) (fun q hq => by simp only [List.mem_cons,List.not_mem_nil,or_false] at hq ⊢; rcases hq with h | h | h | h | h | h <;> simp [h])).setBox (by
          intro q hq
          simp only [List.mem_cons,List.not_mem_nil,or_false] at hq
          rcases hq with h | h | h | h | h <;> subst h <;> simp only <;> omega) [B (b && okX (plT t to) x)]
    generalize hHB:HA.set 3 (.box [B (b && okX (plT t to) x)]) = HB at c9 hL2
    have lB:HB.length = HA.length := by rw [← hHB]; simp
    have e10 := litP (eXc (pX (plT t to) x)) (eXc4 _) HB
    obtain ⟨o',HC,e11,hL3,id,g,rfl⟩ := hL2.app (bytes := 64) (y := .p (.sl (some false) true 1 (eXc (pX (plT t to) x)))) (k := 1) (new := eXc (pX (plT t to) x)) [] rfl rfl (by decide) (by unfold room; omega)
    have hoC := hL3.cx.at (id := 5) (o := .box (oF t lp ih xh (c1T t to) (c2T t to))) (by simp)
    have st:stA 1 (.ptr 5 4) (.row id g 0 (done.length + 1)) [] HC = some (HC.set 5 (.box (oF t lp ih (.row id g 0 (done.length + 1)) (c1T t to) (c2T t to)))) := stA_box hoC rfl (by simp [oF,eXc4]) rfl rfl (by simp [oF])
    have hL4 := (hL3.fperm (fx' := [(5,.box (oF t lp ih xh (c1T t to) (c2T t to))),(3,.box [B (b && okX (plT t to) x)]),(1,.box [V nl tg to]),(4,.box [fnP]),(0,.box ((eTr t).map .p)),(2,.box (z13.map .p))]) (fun q hq => by simp only [List.mem_cons,List.not_mem_nil,or_false] at hq ⊢; rcases hq with h | h | h | h | h | h <;> simp [h])).setBox (by
          intro q hq
          simp only [List.mem_cons,List.not_mem_nil,or_false] at hq
          rcases hq with h | h | h | h | h <;> subst h <;> simp only <;> omega) (oF t lp ih (.row id g 0 (done.length + 1)) (c1T t to) (c2T t to))
    have w := wrapN (show j < 2 ^ 63 - 1 by omega)
    have l6 := getElem?_lt hoC
    have ihe := ih' (j + 1) (b && okX (plT t to) x) (HC.set 5 (.box (oF t lp ih (.row id g 0 (done.length + 1)) (c1T t to) (c2T t to)))) (.row id g 0 (done.length + 1)) (done ++ [pX (plT t to) x]) (by omega) (by omega) (by rw [List.length_set]; omega) (by
      rw [List.length_append,List.flatMap_append]
      simp only [List.flatMap_cons,List.flatMap_nil,List.append_nil,List.length_cons,List.length_nil,Nat.zero_add]
      exact hL4) (by rw [List.length_append]; exact Can.row (by simp)) (by simp [hd])
    rw [L25_44_eq]
    simp only [hlt,hi,x3,r4,r5,fldA_ptr,Nat.zero_add,x7,x8,c9,e10,e11,st,w,core]
    rw [ihe,List.drop_eq_getElem_cons h,hx]
    simp only [List.all_cons,List.map_cons,Bool.and_assoc,List.append_assoc,List.cons_append,List.nil_append]
end
end Ir
end Go.Proofs.YtnjfpnoamgipjaaDoor
set_option linter.unusedVariables false
set_option linter.unusedSimpArgs false
set_option linter.unusedSectionVars false
set_option maxRecDepth 100000
namespace Go.Proofs.YtnjfpnoamgipjaaDoor
open Go Go.AM
namespace Ir
variable {t:TrD}{to:List Int}
theorem start25 (t:TrD)(to:List Int)(nl:Option Bool)(tg:Bool):S25 t to nl tg 0 [.box ((eTr t).map .p),.box [V nl tg to],.box (z13.map .p),.box [B (b0T t to)],.box [fnP],.box (oF t 0 (.p nilS) (.p nilS) (c1T t to) (c2T t to))] (.p nilS) := by
  have h := ((((((Lc.start []).newBox ((eTr t).map .p)).newBox [V nl tg to]).newBox (z13.map .p)).newBox [B (b0T t to)]).newBox [fnP]).newBox (oF t 0 (.p nilS) (.p nilS) (c1T t to) (c2T t to))
  have h2 := h.newNil 8
  refine ⟨?_,Can.nil,by simp⟩
  rw [show okL (plT t to) to t.ins 0 = true from rfl,Bool.and_true,show min t.loop.toNat 0 = 0 by omega]
  exact h2.fperm (fun q hq => by
    simp only [List.mem_cons,List.not_mem_nil,or_false] at hq
    rcases hq with h | h | h | h | h | h <;> subst h
    · exact List.mem_cons_self
    · exact List.mem_cons_of_mem _ (List.mem_cons_of_mem _ List.mem_cons_self)
    · exact List.mem_cons_of_mem _ (List.mem_cons_of_mem _ (List.mem_cons_of_mem _ (List.mem_cons_of_mem _ List.mem_cons_self)))
    · exact List.mem_cons_of_mem _ List.mem_cons_self
    · exact List.mem_cons_of_mem _ (List.mem_cons_of_mem _ (List.mem_cons_of_mem _ (List.mem_cons_of_mem _ (List.mem_cons_of_mem _ List.mem_cons_self))))
    · exact List.mem_cons_of_mem _ (List.mem_cons_of_mem _ (List.mem_cons_of_mem _ List.mem_cons_self)))
theorem ent25 (ht:t.Sm)(hn:to.length = t.ins.length)(hg:okTo to)(nl:Option Bool)(tg:Bool):O.ent 25 [aG (eTr t),V nl tg to] [] [] = resD (cutC t to) (cutOk t to) := by
  have r2:boxO [] (AV.cells (V nl tg to)) [.box ((eTr t).map .p)] = some (.ptr 1 0,[.box ((eTr t).map .p),.box [V nl tg to]]) := boxO_p [.sl nl tg to.length (to.map Ia)] [_]
  have r3:boxO [] [(I 0),(I 0),(I 0),(.p nilS),(.p nilS),(I 0),(I 0),(.p nilS),(.p nilS),(I 0),(I 0),(.p nilS),(.p nilS)] [.box ((eTr t).map .p),.box [V nl tg to]] = some (.ptr 2 0,[.box ((eTr t).map .p),.box [V nl tg to],.box (z13.map .p)]) := boxO_p z13 [_,_]
  have r4:boxO [] [B false] [.box ((eTr t).map .p),.box [V nl tg to],.box (z13.map .p)] = some (.ptr 3 0,[.box ((eTr t).map .p),.box [V nl tg to],.box (z13.map .p),.box [B false]]) := boxO_p [.v (.bool false)] [_,_,_]
  have s5:∀ o0 o1 o2:AObj,stA 1 (.ptr 3 0) (B true) [] [o0,o1,o2,.box [B false]] = some [o0,o1,o2,.box [B true]] := fun _ _ _ => rfl
  have r6:boxO [] [(.p (.v .nilFunc))] [.box ((eTr t).map .p),.box [V nl tg to],.box (z13.map .p),.box [B true]] = some (.ptr 4 0,[.box ((eTr t).map .p),.box [V nl tg to],.box (z13.map .p),.box [B true],.box [.p (.v .nilFunc)]]) := boxO_p [.v .nilFunc] [_,_,_,_]
  have s7:∀ o0 o1 o2 o3:AObj,stA 1 (.ptr 4 0) (.fn 57 [] [.ptr 1 0,.ptr 3 0]) [] [o0,o1,o2,o3,.box [.p (.v .nilFunc)]] = some [o0,o1,o2,o3,.box [fnP]] := fun _ _ _ _ => rfl
  have g:∀ (l:List AObj) j,ld false 1 (.ptr 0 j) (.box ((eTr t).map .p) :: l) = ((eTr t)[j]?).map .p := fun l j => ldBx (H := _ :: l) rfl 1 j
  have t0:(eTr t)[0]? = some (Ia t.fn) := rfl
  have t1:(eTr t)[1]? = some (Ia t.at') := rfl
  have t3:(eTr t)[3]? = some (.sl t.iN t.iT t.ins.length (t.ins.flatMap enc_TIns)) := rfl
  have hQ:∀ (b:Bool) (o2:AObj),QD 1 3 4 (nl,tg,to) (atN to t.ins.length) b [.box ((eTr t).map .p),.box [V nl tg to],o2,.box [B b],.box [fnP],.hole] := fun b o2 =>
    ⟨rfl,rfl,rfl,by rw [hn],hg,by have := ht.ins; simp only; omega⟩
  have x9:∀ l:List AObj,ldN false 1 (.ptr 0 0) (.box ((eTr t).map .p) :: l) = some (I t.fn) := fun l => ldN_ptr (by rw [g,t0]; rfl) rfl
  have x11:∀ l:List AObj,ldN false 1 (.ptr 0 1) (.box ((eTr t).map .p) :: l) = some (I t.at') := fun l => ldN_ptr (by rw [g,t1]; rfl) rfl
  have x13:∀ l:List AObj,ldN true 4 (.ptr 0 5) (.box ((eTr t).map .p) :: l) = some (aG (eEx t.turn)) := fun l => ldN_ptr (by rw [ldAgg_box (H := .box ((eTr t).map .p) :: l) rfl (by simp [eTr13]) (by simp [eTr13])]; rfl) rfl
  have x16:∀ l:List AObj,ldN true 4 (.ptr 0 9) (.box ((eTr t).map .p) :: l) = some (aG (eEx t.back)) := fun l => ldN_ptr (by rw [ldAgg_box (H := .box ((eTr t).map .p) :: l) rfl (by simp [eTr13]) (by simp [eTr13])]; rfl) rfl
  have c14 := call58p (hQ true (.box (z13.map .p))) ht.turn (lo := []) (by simp)
  have c17 := call58p (hQ (true && okX (plT t to) t.turn) (.box (z13.map .p))) ht.back (lo := []) (by simp)
  have c14':callC cfg O (some (.past TTz)) (.fn 58 [] [.ptr 4 0]) [aG (eEx t.turn)] [] [.box ((eTr t).map .p),.box [V nl tg to],.box (z13.map .p),.box [B true],.box [fnP],.hole] = some (aG (eXc (c1T t to)),[.box ((eTr t).map .p),.box [V nl tg to],.box (z13.map .p),.box [B (true && okX (plT t to) t.turn)],.box [fnP],.hole]) := c14
  have c17':callC cfg O (some (.past TTz)) (.fn 58 [] [.ptr 4 0]) [aG (eEx t.back)] [] [.box ((eTr t).map .p),.box [V nl tg to],.box (z13.map .p),.box [B (true && okX (plT t to) t.turn)],.box [fnP],.hole] = some (aG (eXc (c2T t to)),[.box ((eTr t).map .p),.box [V nl tg to],.box (z13.map .p),.box [B (b0T t to)],.box [fnP],.hole]) := c17
  have bu:buildA [(I 0),(I 0),(I 0),(.p nilS),(.p nilS),(I 0),(I 0),(.p nilS),(.p nilS),(I 0),(I 0),(.p nilS),(.p nilS)] [(0,1,I t.fn),(1,1,I t.at'),(5,4,aG (eXc (c1T t to))),(9,4,aG (eXc (c2T t to)))] = some (.agg (oF t 0 (.p nilS) (.p nilS) (c1T t to) (c2T t to))) := rfl
  have fi:∀ o0 o1 o2 o3 o4:AObj,fillA 1 0 [(I 0),(I 0),(I 0),(.p nilS),(.p nilS),(I 0),(I 0),(.p nilS),(.p nilS),(I 0),(I 0),(.p nilS),(.p nilS)] [o0,o1,o2,o3,o4,.hole] = some (.ptr 5 0,[o0,o1,o2,o3,o4,.box (z13.map .p)]) := fun o0 o1 o2 o3 o4 => fillLast (xs := z13) (by decide) rfl [o0,o1,o2,o3,o4]
  have s20:∀ o0 o1 o2 o3 o4:AObj,stA 13 (.ptr 5 0) (.agg (oF t 0 (.p nilS) (.p nilS) (c1T t to) (c2T t to))) [] [o0,o1,o2,o3,o4,.box (z13.map .p)] = some [o0,o1,o2,o3,o4,.box (oF t 0 (.p nilS) (.p nilS) (c1T t to) (c2T t to))] := fun o0 o1 o2 o3 o4 =>
    stEx (n0 := 0) (lo := []) (H := [o0,o1,o2,o3,o4,.box (z13.map .p)]) (id := 5) (by simp) (Nat.zero_le _) rfl rfl (ys := oF t 0 (.p nilS) (.p nilS) (c1T t to) (c2T t to)) (n := 13) (by simp [oF,eXc4]) (by decide) (by simp only [oF,List.all_append,List.all_cons,List.all_nil,leaves_p,Bool.and_true]; rfl)
  obtain ⟨H',ih',k1,k2⟩ := R25 ht hn hg (start25 t to nl tg) t.ins.length (Nat.le_refl _)
  have hL := k1.lc
  have ht1 := hL.cx.at (id := 0) (o := .box ((eTr t).map .p)) (by simp)
  have z2:ld false 1 (.ptr 0 4) H' = some (Rw eEx t.xN t.xT t.exits) := by rw [ld_box ht1]; rfl
  have hf := F25 ht hn hg (nl := nl) (tg := tg) k1.can t.exits.length 0 _ H' (.p nilS) [] rfl (Nat.zero_le _) k1.six (hL.newNil 4) Can.nil rfl
  have hrep:List.replicate 1 AObj.hole = [AObj.hole] := rfl
  rw [f25_eq]
  simp only [boxAgg0,r2,r3,r4,s5,r6,s7,hrep,List.cons_append,List.nil_append,fldA_ptr,Nat.zero_add,x9,x11,x13,c14',x16,c17',bu,fi,s20,g,t3,lenA_sl,core]
  refine k2.trans ?_
  rw [L25_14_eq]
  simp only [Int.lt_irrefl,fldA_ptr,Nat.zero_add,z2,lenA_sl,core]
  refine hf.trans ?_
  rw [List.drop_zero,List.nil_append,show min t.loop.toNat t.ins.length = min t.loop.toNat t.ins.length from rfl]
  have:(b0T t to && okL (plT t to) to t.ins t.ins.length && t.exits.all (okX (plT t to))) = cutOk t to := by
    unfold cutOk b0T
    generalize okX (plT t to) t.turn = a
    generalize okX (plT t to) t.back = b
    generalize okL (plT t to) to t.ins t.ins.length = c
    generalize t.exits.all (okX (plT t to)) = d
    cases a <;> cases b <;> cases c <;> cases d <;> rfl
  rw [this]
  rfl
theorem call25g (ht:t.Sm)(hn:to.length = t.ins.length)(hg:okTo to){nl:Option Bool}{tg:Bool}{xs:List AV}(lo:List Nat){H H1:Heap}(hf:frzAll H xs = some ([aG (eTr t),V nl tg to],H1)) :
    callA cfg O 25 xs lo H = some (bif cutOk t to then .tup [aG (eTc (cutC t to)),B true] else .tup [aG (eTc zeroC),B false],H1) := by
  have e := ent25 ht hn hg nl tg
  cases hc:cutOk t to with
  | true =>
    rw [hc] at e
    exact callA_5 (rs := [aG (eTc (cutC t to)),B true]) rfl hf rfl e (by rw [eTc_eq]; rfl)
  | false =>
    rw [hc] at e
    exact callA_5 (rs := [aG (eTc zeroC),B false]) rfl hf rfl e rfl
end Ir
end Go.Proofs.YtnjfpnoamgipjaaDoor
set_option linter.unusedVariables false
set_option linter.unusedSimpArgs false
set_option linter.unusedSectionVars false
set_option maxRecDepth 100000
namespace Go.Proofs.YtnjfpnoamgipjaaDoor
open Go Go.AM
namespace Ir
theorem neq8 (a b c d e f g h a' b' c' d' e' f' g' h':Int):bin .neq (.agg 8 [(0,.int),(1,.int),(2,.int),(3,.int),(4,.int),(5,.int),(6,.int),(7,.int)]) (.agg [I a,I b,I c,I d,I e,I f,I g,I h]) (.agg [I a',I b',I c',I d',I e',I f',I g',I h']) =
    some (B !(a == a' && (b == b' && (c == c' && (d == d' && (e == e' && (f == f' && (g == g' && (h == h' && true))))))))) := rfl
theorem neq8_self (x:A_TIns):bin .neq (.agg 8 [(0,.int),(1,.int),(2,.int),(3,.int),(4,.int),(5,.int),(6,.int),(7,.int)]) (tiV x) (tiV x) = some (B false) := by
  refine (neq8 ..).trans ?_
  simp
theorem neq2_self (x:A_TSet):bin .neq (.agg 2 [(0,.int),(1,.int)]) (aG (enc_TSet x)) (aG (enc_TSet x)) = some (B false) := by
  refine (neqT ..).trans ?_
  simp
theorem L108s {n1 n2:Option Bool}{t1 t2:Bool}(l:List A_TSet)(hl:l.length < 2 ^ 63):∀ (c i:Nat)(H:Heap),l.length - i = c → i ≤ l.length → L108_10 [Rw enc_TSet n2 t2 l,Rw enc_TSet n1 t1 l,I l.length,I i] [] H = some ([B true],[]) := by
  intro c
  induction c with
  | zero =>
    intro i H hc hi
    have:i = l.length := by omega
    subst this
    rw [L108_10_eq]
    simp only [Int.lt_irrefl,leave0_B,core]
  | succ c ih =>
    intro i H hc hi
    have h:i < l.length := by omega
    have hlt:(i:Int) < l.length := by omega
    have x2 := idxR (enc := enc_TSet) (k := 2) (nl := n1) (tg := t1) h
    have x7 := idxR (enc := enc_TSet) (k := 2) (nl := n2) (tg := t2) h
    have x3:∀ H,ld true 2 (.fp (l.flatMap enc_TSet) (i * 2)) H = some (aG (enc_TSet l[i])) := fun H => ldR len_TSet h H
    have r4:boxO [] [I 0,I 0] H = some (.ptr H.length 0,H ++ [.box ([Ia 0,Ia 0].map .p)]) := boxE [Ia 0,Ia 0] H
    have r5:stA 2 (.ptr H.length 0) (aG (enc_TSet l[i])) [] (H ++ [.box ([Ia 0,Ia 0].map .p)]) = some (H ++ [.box ((enc_TSet l[i]).map .p)]) := stEA rfl rfl (by decide)
    have x6:ld true 2 (.ptr H.length 0) (H ++ [.box ((enc_TSet l[i]).map .p)]) = some (aG (enc_TSet l[i])) := ldA (len_TSet _) (by decide) H
    have w := wrapN (show i < 2 ^ 63 - 1 by omega)
    rw [L108_10_eq]
    simp only [hlt,x2,x3,r4,r5,x6,x7,neq2_self,w,core]
    exact ih (i + 1) _ (by omega) (by omega)
theorem call108s {n1 n2:Option Bool}{t1 t2:Bool}(l:List A_TSet)(hl:l.length < 2 ^ 63)(lo:List Nat)(H:Heap):callA cfg O 108 [Rw enc_TSet n1 t1 l,Rw enc_TSet n2 t2 l] lo H = some (B true,H) := by
  refine callA_args (H' := []) (rs := [B true]) rfl (pureArgsC (pureP _ _) (pureArgs1 (pureP _ _))) ?_ rfl
  rw [f108_eq]
  simp only [lenA_sl,decide_true,core]
  exact L108s l hl l.length 0 [] rfl (Nat.zero_le _)
theorem L59s {n1 n2:Option Bool}{t1 t2:Bool}(l:List A_TIns)(hl:l.length < 2 ^ 63):∀ (c i:Nat)(H:Heap),l.length - i = c → i ≤ l.length → L59_10 [Rw enc_TIns n2 t2 l,Rw enc_TIns n1 t1 l,I l.length,I i] [] H = some ([B true],[]) := by
  intro c
  induction c with
  | zero =>
    intro i H hc hi
    have:i = l.length := by omega
    subst this
    rw [L59_10_eq]
    simp only [Int.lt_irrefl,leave0_B,core]
  | succ c ih =>
    intro i H hc hi
    have h:i < l.length := by omega
    have hlt:(i:Int) < l.length := by omega
    have x2 := idxR (enc := enc_TIns) (k := 8) (nl := n1) (tg := t1) h
    have x7 := idxR (enc := enc_TIns) (k := 8) (nl := n2) (tg := t2) h
    have x3:∀ H,ld true 8 (.fp (l.flatMap enc_TIns) (i * 8)) H = some (tiV l[i]) := fun H => ldR len_TIns8 h H
    have r4 := box8 H
    have r5 := st8 l[i] [] H
    have x6:ld true 8 (.ptr H.length 0) (H ++ [.box ((enc_TIns l[i]).map .p)]) = some (tiV l[i]) := ldA (len_TIns8 _) (by decide) H
    have w := wrapN (show i < 2 ^ 63 - 1 by omega)
    rw [L59_10_eq]
    simp only [hlt,x2,x3,r4,r5,x6,x7,neq8_self,w,core]
    exact ih (i + 1) _ (by omega) (by omega)
theorem call59s {n1 n2:Option Bool}{t1 t2:Bool}(l:List A_TIns)(hl:l.length < 2 ^ 63)(lo:List Nat)(H:Heap):callA cfg O 59 [Rw enc_TIns n1 t1 l,Rw enc_TIns n2 t2 l] lo H = some (B true,H) := by
  refine callA_args (H' := []) (rs := [B true]) rfl (pureArgsC (pureP _ _) (pureArgs1 (pureP _ _))) ?_ rfl
  rw [f59_eq]
  simp only [lenA_sl,decide_true,core]
  exact L59s l hl l.length 0 [] rfl (Nat.zero_le _)
theorem call109s {a b:MkD}(h:a.c = b.c)(hs:a.vals.length < 2 ^ 63)(lo:List Nat)(H:Heap):callA cfg O 109 [aG (eMk a),aG (eMk b)] lo H = some (B true,H) := by
  refine callA_args (H' := []) (rs := [B true]) rfl (pureArgsC (pureAgg _ _) (pureArgs1 (pureAgg _ _))) ?_ rfl
  obtain ⟨a1,a2,a3,n1,t1,vs⟩ := a
  obtain ⟨b1,b2,b3,n2,t2,ws⟩ := b
  simp only [MkD.c,Prod.mk.injEq] at h
  obtain ⟨rfl,rfl,rfl,rfl⟩ := h
  have g0:∀ (o:AObj) j,ld false 1 (.ptr 0 j) [.box ((eMk ⟨a1,a2,a3,n1,t1,vs⟩).map .p),o] = ((eMk ⟨a1,a2,a3,n1,t1,vs⟩)[j]?).map .p := fun o j => ldB02 _ _ _ _
  have g1:∀ (o:AObj) j,ld false 1 (.ptr 1 j) [o,.box ((eMk ⟨a1,a2,a3,n2,t2,vs⟩).map .p)] = ((eMk ⟨a1,a2,a3,n2,t2,vs⟩)[j]?).map .p := fun o j => ldB12 _ _ _ _
  have k0:∀ n t,(eMk ⟨a1,a2,a3,n,t,vs⟩)[0]? = some (Ia a1) := fun _ _ => _root_.id rfl
  have k1:∀ n t,(eMk ⟨a1,a2,a3,n,t,vs⟩)[1]? = some (Ia a2) := fun _ _ => _root_.id rfl
  have k2:∀ n t,(eMk ⟨a1,a2,a3,n,t,vs⟩)[2]? = some (Ia a3) := fun _ _ => _root_.id rfl
  have k3:∀ n t,(eMk ⟨a1,a2,a3,n,t,vs⟩)[3]? = some (.sl n t vs.length (vs.map Ia)) := fun _ _ => _root_.id rfl
  have e12 := call12 (n1 := n1) (n2 := n2) (t1 := t1) (t2 := t2) vs vs hs []
  rw [decide_eq_true rfl] at e12
  rw [f109_eq]
  simp only [boxAgg0,box12,g0,g1,Nat.zero_add,k0,k1,k2,k3,decide_true,e12,leave0_B,core]
theorem L53s {a b:ExD}(hm:a.makes.map MkD.c = b.makes.map MkD.c)(ha:a.Sm):∀ (c i:Nat)(H:Heap),a.makes.length - i = c → i ≤ a.makes.length → H[0]? = some (.box ((eEx a).map .p)) → H[1]? = some (.box ((eEx b).map .p)) →
    L53_10 [.ptr 0 0,.ptr 1 0,I a.makes.length,I i] [] H = some ([B true],[]) := by
  have hlen:a.makes.length = b.makes.length := by simpa using congrArg List.length hm
  have hl := ha.makes
  intro c
  induction c with
  | zero =>
    intro i H hc hi h0 h1
    have:i = a.makes.length := by omega
    subst this
    rw [L53_10_eq]
    simp only [Int.lt_irrefl,leave0_B,core]
  | succ c ih =>
    intro i H hc hi h0 h1
    have h:i < a.makes.length := by omega
    have h':i < b.makes.length := by omega
    have hlt:(i:Int) < a.makes.length := by omega
    have x3:ld false 1 (.ptr 0 3) H = some (Rw eMk a.mn a.mt a.makes) := by rw [ld_box h0]; rfl
    have x7:ld false 1 (.ptr 1 3) H = some (Rw eMk b.mn b.mt b.makes) := by rw [ld_box h1]; rfl
    have x4 := idxR (enc := eMk) (k := 4) (nl := a.mn) (tg := a.mt) h
    have x8 := idxR (enc := eMk) (k := 4) (nl := b.mn) (tg := b.mt) h'
    have x5:ld true 4 (.fp (a.makes.flatMap eMk) (i * 4)) H = some (aG (eMk a.makes[i])) := ldR eMk4 h H
    have x9:ld true 4 (.fp (b.makes.flatMap eMk) (i * 4)) H = some (aG (eMk b.makes[i])) := ldR eMk4 h' H
    have hc':(a.makes[i]).c = (b.makes[i]).c := by
      have := congrArg (fun l => l[i]?) hm
      simpa [List.getElem?_map,List.getElem?_eq_getElem h,List.getElem?_eq_getElem h'] using this
    have e := call109s hc' (by have := (ha.each _ (List.getElem_mem h)).vals; omega) [] H
    have w := wrapN (show i < 2 ^ 63 - 1 by omega)
    rw [L53_10_eq]
    simp only [hlt,fldA_ptr,Nat.zero_add,x3,x4,x5,x7,x8,x9,e,w,core]
    exact ih (i + 1) H (by omega) (by omega) h0 h1
theorem call53s {a b : ExD} (h : a.c = b.c) (ha : a.Sm) (lo : List Nat) (H : Heap) : callA cfg O 53 [aG (eEx a), aG (eEx b)] lo H = some (B true, H) := by
  refine callA_args (H' := []) (rs := [B true]) rfl (pureArgsC (pureAgg _ _) (pureArgs1 (pureAgg _ _))) ?_ rfl
  have h1:a.at' = b.at' := congrArg (fun x:ExC => x.1) h
  have h2:a.steps = b.steps := congrArg (fun x:ExC => x.2.1) h
  have h3:a.sets = b.sets := congrArg (fun x:ExC => x.2.2.1) h
  have h4:a.makes.map MkD.c = b.makes.map MkD.c := congrArg (fun x:ExC => x.2.2.2) h
  have hlen : (a.makes.length : Int) = b.makes.length := by have : a.makes.length = b.makes.length := by simpa using congrArg List.length h4
                                                            omega
  have hs := ha.sets
  have g0:∀ (o:AObj) j,ld false 1 (.ptr 0 j) [.box ((eEx a).map .p),o] = ((eEx a)[j]?).map .p := fun o j => ldB02 _ _ _ _
  have g1:∀ (o:AObj) j,ld false 1 (.ptr 1 j) [o,.box ((eEx b).map .p)] = ((eEx b)[j]?).map .p := fun o j => ldB12 _ _ _ _
  have k0:∀ x,(eEx x)[0]? = some (Ia x.at') := fun _ => _root_.id rfl
  have k1:∀ x,(eEx x)[1]? = some (Ia x.steps) := fun _ => _root_.id rfl
  have k2:∀ x,(eEx x)[2]? = some (.sl x.sn x.st x.sets.length (x.sets.flatMap enc_TSet)) := fun _ => _root_.id rfl
  have k3:∀ x,(eEx x)[3]? = some (.sl x.mn x.mt x.makes.length (x.makes.flatMap eMk)) := fun _ => _root_.id rfl
  have e := call108s (n1 := a.sn) (n2 := b.sn) (t1 := a.st) (t2 := b.st) a.sets (by omega) []
  have e':∀ H,callA cfg O 108 [.p (.sl a.sn a.st a.sets.length (a.sets.flatMap enc_TSet)),.p (.sl b.sn b.st a.sets.length (a.sets.flatMap enc_TSet))] [] H = some (B true,H) := e
  rw [f53_eq]
  simp only [boxAgg0,box12,g0,g1,Nat.zero_add,k0,k1,k2,k3,← h1,← h2,← h3,← hlen,decide_true,e',lenA_sl,core]
  exact L53s h4 ha a.makes.length 0 _ rfl (Nat.zero_le _) rfl rfl
theorem L26s {a b:TrD}(hx:a.exits.map ExD.c = b.exits.map ExD.c)(ha:a.Sm):∀ (c i:Nat)(H:Heap),a.exits.length - i = c → i ≤ a.exits.length → H[0]? = some (.box ((eTr a).map .p)) → H[1]? = some (.box ((eTr b).map .p)) →
    L26_10 [.ptr 0 0,.ptr 1 0,I a.exits.length,I i] [] H = some ([B true],[]) := by
  have hlen:a.exits.length = b.exits.length := by simpa using congrArg List.length hx
  have hl := ha.exits
  intro c
  induction c with
  | zero =>
    intro i H hc hi h0 h1
    have:i = a.exits.length := by omega
    subst this
    rw [L26_10_eq]
    simp only [Int.lt_irrefl,leave0_B,core]
  | succ c ih =>
    intro i H hc hi h0 h1
    have h:i < a.exits.length := by omega
    have h':i < b.exits.length := by omega
    have hlt:(i:Int) < a.exits.length := by omega
    have x3:ld false 1 (.ptr 0 4) H = some (Rw eEx a.xN a.xT a.exits) := by rw [ld_box h0]; rfl
    have x7:ld false 1 (.ptr 1 4) H = some (Rw eEx b.xN b.xT b.exits) := by rw [ld_box h1]; rfl
    have x4 := idxR (enc := eEx) (k := 4) (nl := a.xN) (tg := a.xT) h
    have x8 := idxR (enc := eEx) (k := 4) (nl := b.xN) (tg := b.xT) h'
    have x5:ld true 4 (.fp (a.exits.flatMap eEx) (i * 4)) H = some (aG (eEx a.exits[i])) := ldR eEx4 h H
    have x9:ld true 4 (.fp (b.exits.flatMap eEx) (i * 4)) H = some (aG (eEx b.exits[i])) := ldR eEx4 h' H
    have hc':(a.exits[i]).c = (b.exits[i]).c := by
      have := congrArg (fun l => l[i]?) hx
      simpa [List.getElem?_map,List.getElem?_eq_getElem h,List.getElem?_eq_getElem h'] using this
    have e := call53s hc' (ha.each _ (List.getElem_mem h)) [] H
    have w := wrapN (show i < 2 ^ 63 - 1 by omega)
    rw [L26_10_eq]
    simp only [hlt,fldA_ptr,Nat.zero_add,x3,x4,x5,x7,x8,x9,e,w,core]
    exact ih (i + 1) H (by omega) (by omega) h0 h1
theorem call26s {a b : TrD} (h : a.c = b.c) (ha : a.Sm) (lo : List Nat) (H : Heap) : callA cfg O 26 [aG (eTr a), aG (eTr b)] lo H = some (B true, H) := by
  refine callA_args (H' := []) (rs := [B true]) rfl (pureArgsC (pureAgg _ _) (pureArgs1 (pureAgg _ _))) ?_ rfl
  have h1:a.fn = b.fn := congrArg TrC.fn h
  have h2:a.at' = b.at' := congrArg TrC.at' h
  have h3:a.loop = b.loop := congrArg TrC.loop h
  have h4:a.ins = b.ins := congrArg TrC.ins h
  have h5:a.exits.map ExD.c = b.exits.map ExD.c := congrArg TrC.exits h
  have h6:a.turn.c = b.turn.c := congrArg TrC.turn h
  have h7:a.back.c = b.back.c := congrArg TrC.back h
  have hlen : (a.exits.length : Int) = b.exits.length := by have : a.exits.length = b.exits.length := by simpa using congrArg List.length h5
                                                            omega
  have hs := ha.ins
  have g0:∀ (o:AObj) j,ld false 1 (.ptr 0 j) [.box ((eTr a).map .p),o] = ((eTr a)[j]?).map .p := fun o j => ldB02 _ _ _ _
  have g1:∀ (o:AObj) j,ld false 1 (.ptr 1 j) [o,.box ((eTr b).map .p)] = ((eTr b)[j]?).map .p := fun o j => ldB12 _ _ _ _
  have k0:∀ x,(eTr x)[0]? = some (Ia x.fn) := fun _ => _root_.id rfl
  have k1:∀ x,(eTr x)[1]? = some (Ia x.at') := fun _ => _root_.id rfl
  have k2:∀ x,(eTr x)[2]? = some (Ia x.loop) := fun _ => _root_.id rfl
  have k3:∀ x,(eTr x)[3]? = some (.sl x.iN x.iT x.ins.length (x.ins.flatMap enc_TIns)) := fun _ => _root_.id rfl
  have k4:∀ x,(eTr x)[4]? = some (.sl x.xN x.xT x.exits.length (x.exits.flatMap eEx)) := fun _ => _root_.id rfl
  have m0:∀ o:AObj,ld true 4 (.ptr 0 5) [.box ((eTr a).map .p),o] = some (aG (eEx a.turn)) := fun o => by rw [ldAgg_box (H := [_,o]) rfl (by simp [eTr13]) (by simp [eTr13])]; rfl
  have m1:∀ o:AObj,ld true 4 (.ptr 0 9) [.box ((eTr a).map .p),o] = some (aG (eEx a.back)) := fun o => by rw [ldAgg_box (H := [_,o]) rfl (by simp [eTr13]) (by simp [eTr13])]; rfl
  have m2:∀ o:AObj,ld true 4 (.ptr 1 5) [o,.box ((eTr b).map .p)] = some (aG (eEx b.turn)) := fun o => by rw [ldAgg_box (H := [o,_]) rfl (by simp [eTr13]) (by simp [eTr13])]; rfl
  have m3:∀ o:AObj,ld true 4 (.ptr 1 9) [o,.box ((eTr b).map .p)] = some (aG (eEx b.back)) := fun o => by rw [ldAgg_box (H := [o,_]) rfl (by simp [eTr13]) (by simp [eTr13])]; rfl
  have e59:∀ H,callA cfg O 59 [.p (.sl a.iN a.iT a.ins.length (a.ins.flatMap enc_TIns)),.p (.sl b.iN b.iT a.ins.length (a.ins.flatMap enc_TIns))] [] H = some (B true,H) := call59s a.ins (by omega) []
  have e1 := call53s h6 ha.turn []
  have e2 := call53s h7 ha.back []
  rw [f26_eq]
  simp only [boxAgg0,box12,g0,g1,Nat.zero_add,k0,k1,k2,k3,k4,← h1,← h2,← h3,← h4,← hlen,decide_true,e59,m0,m1,m2,m3,e1,e2,lenA_sl,core]
  exact L26s h5 ha a.exits.length 0 _ rfl (Nat.zero_le _) rfl rfl
end Ir
end Go.Proofs.YtnjfpnoamgipjaaDoor
set_option linter.unusedVariables false
set_option linter.unusedSimpArgs false
set_option linter.unusedSectionVars false
set_option maxRecDepth 100000
namespace Go.Proofs.YtnjfpnoamgipjaaDoor
open Go Go.AM
namespace Ir
theorem setsR_len {ins:List A_TIns}{regs at':Int}:∀ (l:List A_TSet)(y:Int),setsR ins regs at' (some y) l = true → y < regs → (l.length:Int) ≤ regs - 1 - y
  | [],y,_,hy => by simp; omega
  | s :: r,y,h,hy => by
    simp only [setsR,set1,btw,Bool.and_eq_true,decide_eq_true_eq] at h
    have := setsR_len r s.1 h.2 h.1.1.1.2
    simp only [List.length_cons]
    have h1 := h.1.2
    omega
theorem makesR_len {ins:List A_TIns}{at':Int}:∀ (l:List A_TMake)(y:Int),makesR ins at' (some y) l = true → y < ins.length → (l.length:Int) ≤ ins.length - 1 - y
  | [],y,_,hy => by simp; omega
  | m :: r,y,h,hy => by
    simp only [makesR,make1,btw,Bool.and_eq_true,decide_eq_true_eq] at h
    have hv := valR_idx h.1.1.1.1.1.1.1.1
    have := makesR_len r m.1 h.2 hv.2
    simp only [List.length_cons]
    have h1 := h.1.1.1.1.1.1.2
    omega
theorem makesR_vals {ins:List A_TIns}{at':Int}:∀ (l:List A_TMake)(q:Option Int),makesR ins at' q l = true → ∀ m ∈ l,m.2.2.2.2.length ≤ 100
  | [],q,_,m,hm => by cases hm
  | m0 :: r,q,h,m,hm => by
    simp only [makesR,make1,Bool.and_eq_true,decide_eq_true_eq] at h
    rcases List.mem_cons.mp hm with e | e
    · subst e; exact h.1.1.2
    · exact makesR_vals r _ h.2 m e
theorem exitR_small {ins:List A_TIns}{regs clen at':Int}{x:A_TExit}(hr:regs ≤ 60)(hi:ins.length ≤ 300)(h:exitR ins regs clen at' x = true):(exD x).Sm := by
  simp only [exitR,Bool.and_eq_true] at h
  obtain ⟨⟨_,hs⟩,hm⟩ := h
  have h1:x.2.2.1.2.length < 2 ^ 30 := by
    cases e:x.2.2.1.2 with
    | nil => simp
    | cons s r =>
      rw [e] at hs
      simp only [setsR,set1,Bool.and_eq_true,decide_eq_true_eq] at hs
      have := setsR_len r s.1 hs.2 hs.1.1.1.2
      simp only [List.length_cons]
      have h1 := hs.1.1.1.1
      omega
  have h2:x.2.2.2.2.length < 2 ^ 30 := by
    cases e:x.2.2.2.2 with
    | nil => simp
    | cons m r =>
      rw [e] at hm
      simp only [makesR,make1,Bool.and_eq_true,decide_eq_true_eq] at hm
      have hv := valR_idx hm.1.1.1.1.1.1.1.1
      have := makesR_len r m.1 hm.2 hv.2
      simp only [List.length_cons]
      omega
  refine ⟨h1,by simpa [exD] using h2,fun m hm' => ?_⟩
  obtain ⟨m0,hm0,rfl⟩ := List.mem_map.mp hm'
  exact ⟨by have := makesR_vals _ _ hm m0 hm0; show m0.2.2.2.2.length < _; omega⟩
theorem noExit_small {x:A_TExit}(h:noExit x = true):(exD x).Sm := by
  simp only [noExit,Bool.and_eq_true,decide_eq_true_eq] at h
  refine ⟨by show x.2.2.1.2.length < _; omega,by show (x.2.2.2.2.map mkD).length < _; rw [List.length_map]; omega,fun m hm => ?_⟩
  have:x.2.2.2.2 = [] := List.length_eq_zero_iff.mp h.2
  rw [show (exD x).makes = x.2.2.2.2.map mkD from rfl,this] at hm
  cases hm
theorem formR_ask {ins:List A_TIns}{exits:List A_TExit}{regs clen at':Int}{x:A_TIns}(h:formR ins exits regs clen at' x = true){j:Nat}(hj:j < (vals x.1).toNat):valR ins (argI x j) at' = true := by
  have h3:(vals x.1).toNat ≤ 3 := by rcases vals_cases x.1 with e | e | e | e <;> rw [e] <;> decide
  unfold formR at h
  split at h
  · rename_i h0
    split at h
    · rename_i h1
      split at h
      · rename_i h2
        match j,hj with
        | 0,hj => rw [argk,if_pos (by omega)] at h0; exact h0
        | 1,hj => rw [argk,if_pos (by omega)] at h1; exact h1
        | 2,hj => rw [argk,if_pos (by omega)] at h2; exact h2
        | n + 3,hj => omega
      · cases h
    · cases h
  · cases h
theorem insE_form {ins:List A_TIns}{exits:List A_TExit}{regs clen k:Int}:∀ (l:List A_TIns)(i:Nat),insE ins exits regs clen k i l = 0 → k = 0 ∧ ∀ (j:Nat) x,l[j]? = some x → formR ins exits regs clen ((i + j:Nat):Int) x = true
  | [],_,h => ⟨h,fun j x e => by simp at e⟩
  | y :: l,i,h => by
    unfold insE at h
    split at h
    · cases h
    · split at h
      · rename_i hf
        obtain ⟨h1,h2⟩ := insE_form l (i + 1) h
        refine ⟨h1,fun j x e => ?_⟩
        cases j with
        | zero => simp at e; subst e; exact hf
        | succ j =>
          have := h2 j x (by simpa using e)
          rw [show i + 1 + j = i + (j + 1) by omega] at this
          exact this
      · cases h
structure May (t:A_TTrace):Prop where
  small:(trD t).Sm
  ahead:Ahead (trD t).ins
  len:t.2.2.2.1.2.length ≤ 300
theorem may_of {p:A_Prog}{t:A_TTrace}(h:chkR p t = 0)(hr:∀ g ∈ p.1.2,g.2.1 ≤ 60):May t := by
  unfold chkR at h
  split at h
  · cases h
  · rename_i hlen
    split at h
    · cases h
    · rename_i f hf
      have hf':f ∈ p.1.2 := by
        split at hf
        · exact List.mem_of_getElem? hf
        · cases hf
      have hr' := hr f hf'
      split at h
      · cases h
      · obtain ⟨he,hform⟩ := insE_form _ _ h
        unfold endE at he
        split at he
        · rename_i hE
          simp only [Bool.and_eq_true,List.all_eq_true] at hE
          obtain ⟨⟨⟨_,hb⟩,ht⟩,hx⟩ := hE
          have hi:t.2.2.2.1.2.length ≤ 300 := by omega
          refine ⟨⟨by show t.2.2.2.1.2.length < _; omega,by show (t.2.2.2.2.1.2.map exD).length < _; rw [List.length_map]; omega,fun x hx' => ?_,?_,exitR_small hr' hi hb⟩,fun i x hx' j hj => ?_,hi⟩
          · obtain ⟨x0,h0,rfl⟩ := List.mem_map.mp hx'
            exact exitR_small hr' hi (hx x0 h0)
          · unfold turnOk at ht
            split at ht
            · rw [Bool.and_eq_true] at ht
              exact exitR_small hr' hi ht.2
            · exact noExit_small ht
          · have := formR_ask (hform i x hx') hj
            simp only [valR,Bool.and_eq_true,decide_eq_true_eq] at this
            have h2 := this.1.1.2
            omega
        · cases he
theorem kX_small {pl:Int → Int}{x:ExD}(h:x.Sm):(kX (pX pl x)).Sm := by
  refine ⟨by have := h.sets; simpa [kX,pX] using this,by have := h.makes; simpa [kX,pX] using this,fun m hm => ?_⟩
  simp only [kX,pX,List.map_map,List.mem_map] at hm
  obtain ⟨m0,hm0,rfl⟩ := hm
  exact ⟨by have := (h.each m0 hm0).vals; simpa [kM,pM] using this⟩
theorem cut_small {t:TrD}(h:t.Sm)(to:List Int):(kT (cutC t to)).Sm := by
  refine ⟨?_,?_,fun x hx => ?_,kX_small h.turn,kX_small h.back⟩
  · have h1 := keptL_le (plT t to) to t.ins (i := t.ins.length) (Nat.le_refl _)
    have h2 := h.ins
    show (keptL (plT t to) to t.ins t.ins.length).length < _
    omega
  · have := h.exits; simpa [kT,cutC] using this
  · simp only [kT,cutC,List.map_map,List.mem_map] at hx
    obtain ⟨x0,hx0,rfl⟩ := hx
    exact kX_small (h.each x0 hx0)
theorem zeroX_small:(kX (0,0,[],[])).Sm := ⟨by decide,by decide,fun x hx => (by cases hx)⟩
theorem zero_small:(kT zeroC).Sm := ⟨by decide,by decide,fun x hx => (by cases hx),zeroX_small,zeroX_small⟩
theorem box13 (H:Heap):boxO [] [(I 0),(I 0),(I 0),(.p nilS),(.p nilS),(I 0),(I 0),(.p nilS),(.p nilS),(I 0),(I 0),(.p nilS),(.p nilS)] H = some (.ptr H.length 0,H ++ [.box (z13.map .p)]) := boxO_p z13 H
theorem st13 (c:TrC)(lo:List Nat)(H:Heap):stA 13 (.ptr H.length 0) (aG (eTc c)) lo (H ++ [.box (z13.map .p)]) = some (H ++ [.box ((eTc c).map .p)]) := stA_new rfl (by rw [eTc]; rfl) (by decide)
end Ir
end Go.Proofs.YtnjfpnoamgipjaaDoor

