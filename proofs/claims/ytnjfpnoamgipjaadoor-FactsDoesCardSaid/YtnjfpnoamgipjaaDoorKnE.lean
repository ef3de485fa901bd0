import Derived.Test.YtnjfpnoamgipjaaDoorKnB
import Derived.Test.YtnjfpnoamgipjaaDoorEIrCuts
import Derived.Test.YtnjfpnoamgipjaaDoorAm37
set_option linter.unusedVariables false
set_option linter.unusedSimpArgs false
set_option linter.unusedSectionVars false
set_option maxRecDepth 100000
namespace Go.Proofs.YtnjfpnoamgipjaaDoor
open Go Go.AM
namespace Ir
structure MkD where
  cell:Int
  kind:Int
  num:Int
  vn:Option Bool
  vt:Bool
  vals:List Int
structure ExD where
  at':Int
  steps:Int
  sn:Option Bool
  st:Bool
  sets:List A_TSet
  mn:Option Bool
  mt:Bool
  makes:List MkD
structure TrD where
  fn:Int
  at':Int
  loop:Int
  iN:Option Bool
  iT:Bool
  ins:List A_TIns
  xN:Option Bool
  xT:Bool
  exits:List ExD
  turn:ExD
  back:ExD
def eMk (m:MkD):List PV := [Ia m.cell,Ia m.kind,Ia m.num,.sl m.vn m.vt m.vals.length (m.vals.map Ia)]
def eEx (x:ExD):List PV := [Ia x.at',Ia x.steps,.sl x.sn x.st x.sets.length (x.sets.flatMap enc_TSet),.sl x.mn x.mt x.makes.length (x.makes.flatMap eMk)]
def eTr (t:TrD):List PV := [Ia t.fn,Ia t.at',Ia t.loop,.sl t.iN t.iT t.ins.length (t.ins.flatMap enc_TIns),.sl t.xN t.xT t.exits.length (t.exits.flatMap eEx)] ++ eEx t.turn ++ eEx t.back
theorem eMk4 (m:MkD):(eMk m).length = 4 := rfl
theorem eEx4 (x:ExD):(eEx x).length = 4 := rfl
theorem eTr13 (t:TrD):(eTr t).length = 13 := rfl
def mkD (m:A_TMake):MkD := ⟨m.1,m.2.1,m.2.2.1,m.2.2.2.1,false,m.2.2.2.2⟩
def exD (x:A_TExit):ExD := ⟨x.1,x.2.1,x.2.2.1.1,false,x.2.2.1.2,x.2.2.2.1,false,x.2.2.2.2.map mkD⟩
def trD (t:A_TTrace):TrD := ⟨t.1,t.2.1,t.2.2.1,t.2.2.2.1.1,false,t.2.2.2.1.2,t.2.2.2.2.1.1,false,t.2.2.2.2.1.2.map exD,exD t.2.2.2.2.2.1,exD t.2.2.2.2.2.2⟩
theorem eEx_exD (x:A_TExit):eEx (exD x) = enc_TExit x := by
  have:∀ l:List A_TMake,(l.map mkD).flatMap eMk = l.flatMap enc_TMake := fun l => by rw [List.flatMap_map]; rfl
  simp only [eEx,exD,enc_TExit,this,List.length_map]
theorem eTr_trD (t:A_TTrace):eTr (trD t) = enc_TTrace t := by
  have:∀ l:List A_TExit,(l.map exD).flatMap eEx = l.flatMap enc_TExit := fun l => by rw [List.flatMap_map]; exact congrArg (fun f => l.flatMap f) (funext eEx_exD)
  simp only [eTr,trD,eEx_exD,this,List.length_map]
  rfl
abbrev MkC := Int × Int × Int × List Int
abbrev ExC := Int × Int × List A_TSet × List MkC
structure TrC where
  fn:Int
  at':Int
  loop:Int
  ins:List A_TIns
  exits:List ExC
  turn:ExC
  back:ExC
def MkD.c (m:MkD):MkC := (m.cell,m.kind,m.num,m.vals)
def ExD.c (x:ExD):ExC := (x.at',x.steps,x.sets,x.makes.map MkD.c)
def TrD.c (t:TrD):TrC := ⟨t.fn,t.at',t.loop,t.ins,t.exits.map ExD.c,t.turn.c,t.back.c⟩
def cN (m:Nat):Option Bool := if m = 0 then some true else some false
def cT (m:Nat):Bool := decide (m = 0)
def Can (a:AV)(m:Nat):Prop := (m = 0 ∧ a = .p nilS) ∨ (0 < m ∧ ∃ id g,a = .row id g 0 m)
theorem Can.nil:Can (.p nilS) 0 := .inl ⟨rfl,rfl⟩
theorem Can.row {id g m:Nat}(h:0 < m):Can (.row id g 0 m) m := .inr ⟨h,id,g,rfl⟩
theorem Can.toPV {a:AV}{m:Nat}(h:Can a m){H H':Heap}{nl:Option Bool}{tg:Bool}{cs:List PV}(e:toPV H a = some (.sl nl tg m cs,H')):nl = cN m ∧ tg = cT m := by
  rcases h with ⟨rfl,rfl⟩ | ⟨h0,id,g,rfl⟩
  · cases e; exact ⟨rfl,rfl⟩
  · have hm:¬ m = 0 := by omega
    simp only [AM.toPV,h0,if_true] at e
    split at e
    · split at e
      · simp only [Option.some.injEq,Prod.mk.injEq,PV.sl.injEq] at e
        exact ⟨by rw [cN,if_neg hm]; exact e.1.1.symm,by rw [cT,decide_eq_false hm]; exact e.1.2.1.symm⟩
      · cases e
    · cases e
def kM (c:MkC):MkD := ⟨c.1,c.2.1,c.2.2.1,cN c.2.2.2.length,cT c.2.2.2.length,c.2.2.2⟩
def kX (c:ExC):ExD := ⟨c.1,c.2.1,cN c.2.2.1.length,cT c.2.2.1.length,c.2.2.1,cN c.2.2.2.length,cT c.2.2.2.length,c.2.2.2.map kM⟩
def eMc (c:MkC):List PV := eMk (kM c)
def eXc (c:ExC):List PV := eEx (kX c)
theorem eXc4 (c:ExC):(eXc c).length = 4 := rfl
theorem eXc_eq (c:ExC):eXc c = [Ia c.1,Ia c.2.1,.sl (cN c.2.2.1.length) (cT c.2.2.1.length) c.2.2.1.length (c.2.2.1.flatMap enc_TSet),.sl (cN c.2.2.2.length) (cT c.2.2.2.length) c.2.2.2.length (c.2.2.2.flatMap eMc)] := by
  simp only [eXc,eEx,kX,List.length_map,List.flatMap_map]
  rfl
structure MkD.Sm (m:MkD):Prop where
  vals:m.vals.length < 2 ^ 30
structure ExD.Sm (x:ExD):Prop where
  sets:x.sets.length < 2 ^ 30
  makes:x.makes.length < 2 ^ 30
  each:∀ m ∈ x.makes,m.Sm
structure TrD.Sm (t:TrD):Prop where
  ins:t.ins.length < 2 ^ 30
  exits:t.exits.length < 2 ^ 30
  each:∀ x ∈ t.exits,x.Sm
  turn:t.turn.Sm
  back:t.back.Sm
def pM (pl:Int → Int)(m:MkD):MkC := (pl m.cell,m.kind,m.num,m.vals.map pl)
def pS (pl:Int → Int)(s:A_TSet):A_TSet := (s.1,pl s.2)
def pX (pl:Int → Int)(x:ExD):ExC := (x.at',x.steps,x.sets.map (pS pl),x.makes.map (pM pl))
def okV (pl:Int → Int)(v:Int):Bool := decide (0 ≤ pl v)
def okM (pl:Int → Int)(m:MkD):Bool := okV pl m.cell && m.vals.all (okV pl)
def okX (pl:Int → Int)(x:ExD):Bool := (x.sets.all fun s => okV pl s.2) && x.makes.all (okM pl)
abbrev aG (l:List PV):AV := .agg (l.map .p)
def on (ats:List Int)(v:Int):Int := if 0 ≤ v then (ats[v.toNat]?).getD (-1) else -1
structure QP (cid:Nat)(ah:AV)(ats:List Int)(b:Bool)(H:Heap):Prop where
  box:H[cid]? = some (.box [ah,B b])
  lst:Lst 1 ah H ats.length (ats.map Ia)
  low:∀ a ∈ ats,-1 ≤ a
  len:ats.length < 2 ^ 62
variable {cid:Nat}{ah:AV}{ats:List Int}{b:Bool}{H H0:Heap}{n0:Nat}{fx:List (Nat × AObj)}{ls:List Ll}
theorem QP.set (h:QP cid ah ats b H)(b':Bool):QP cid ah ats b' (H.set cid (.box [ah,B b'])) :=
  ⟨by rw [List.getElem?_set_self (getElem?_lt h.box)],h.lst.set fun g n e => by
    obtain ⟨_,⟨nl,e',_⟩ | ⟨id',g',e',h1⟩⟩ := h.lst
    · rw [e'] at e; cases e
    · rw [e'] at e; cases e; rw [h.box] at h1; (cases h1),h.low,h.len⟩
theorem QP.up (h:QP cid ah ats b H0)(hL:Lc n0 H0 H fx ls):QP cid ah ats b H := ⟨hL.get h.box,hL.lst0 h.lst,h.low,h.len⟩
theorem QP.push (h:QP cid ah ats b H)(l:List AObj):QP cid ah ats b (H ++ l) := ⟨push_get? h.box l,h.lst.push l,h.low,h.len⟩
theorem QP.last (h:QP cid ah ats b H)(hh:H[H.length - 1]? = some .hole)(o:AObj):QP cid ah ats b (H.set (H.length - 1) o) := by
  refine ⟨?_,h.lst.set fun g n e => ?_,h.low,h.len⟩
  · rw [List.getElem?_set_ne]; exact h.box
    intro e; rw [e,h.box] at hh; cases hh
  · obtain ⟨_,⟨nl,e',_⟩ | ⟨id',g',e',h1⟩⟩ := h.lst
    · rw [e'] at e; cases e
    · rw [e'] at e; cases e; rw [hh] at h1; cases h1
theorem hidden (x:AV)(b b':Bool):[x,B b].map hideB = [x,B b'].map hideB := rfl
theorem hidden1 (b b':Bool):[B b].map hideB = [B b'].map hideB := rfl
theorem set_same {α:Type}{l:List α}{i:Nat}{x:α}(h:l[i]? = some x):l.set i x = l := by
  apply List.ext_getElem?
  intro j
  by_cases e:i = j
  · subst e; rw [List.getElem?_set_self (getElem?_lt h),h]
  · rw [List.getElem?_set_ne e]
theorem ent110 (h:QP cid ah ats b H)(v:Int)(lo:List Nat):O.ent 110 [.ptr cid 0,I v] lo H = some ([I (on ats v)],H.set cid (.box [ah,B (b && okV (on ats) v)])) := by
  have ha := h.box
  have l0:ld false 1 (.ptr cid 0) H = some ah := by rw [ld_box ha]; rfl
  have st0:stA 1 (.ptr cid 1) (B false) (H.length :: lo) H = some (H.set cid (.box [ah,B false])) := stA_box ha rfl (by simp) rfl (okLevels_p _ _ [.v (.bool false)])
  have len := h.lst.len H
  rw [f110_eq]
  have bad:∀ x,on ats v = x → ¬ 0 ≤ x → x = -1 → b = b → (stA 1 (.ptr cid 1) (B false) (H.length :: lo) H = some (H.set cid (.box [ah,B false]))) := fun _ _ _ _ _ => st0
  by_cases c1:v < 0
  · have e:on ats v = -1 := by rw [on,if_neg (by omega)]
    have e2:okV (on ats) v = false := by rw [okV,e]; rfl
    simp only [c1,nilc,fldA_ptr,Nat.zero_add,st0,e,e2,Bool.and_false,leave10_Is,core]
  · have hi:idxA 1 ah (I v) = if v < ats.length then idxA 1 ah (I v) else idxA 1 ah (I v) := by split <;> rfl
    by_cases c2:(ats.length:Int) ≤ v
    · have e:on ats v = -1 := by
        rw [on,if_pos (by omega),List.getElem?_eq_none (by omega)]; rfl
      have e2:okV (on ats) v = false := by rw [okV,e]; rfl
      simp only [c1,c2,nilc,fldA_ptr,Nat.zero_add,l0,len,st0,e,e2,Bool.and_false,leave10_Is,core]
    · have hj:v.toNat < ats.length := by omega
      have e:on ats v = ats[v.toNat] := by rw [on,if_pos (by omega),List.getElem?_eq_getElem hj]; rfl
      have hv:∃ p,idxA 1 ah (I v) = some p ∧ ld false 1 p H = some (I ats[v.toNat]) := by
        have hg:(ats.map Ia)[v.toNat]? = some (Ia ats[v.toNat]) := by rw [List.getElem?_map,List.getElem?_eq_getElem hj]; rfl
        obtain ⟨hl,⟨nl,rfl,h1⟩ | ⟨id,g,rfl,ho⟩⟩ := h.lst
        · refine ⟨.fp (ats.map Ia) (v.toNat * 1),idxL ⟨by omega,by omega⟩,?_⟩
          rw [Nat.mul_one,ld_fp,hg]; rfl
        · refine ⟨.rptr id g (0 + v.toNat * 1),?_,?_⟩
          · simp only [idxA]; rw [if_pos ⟨by omega,by omega⟩]
          · rw [Nat.mul_one,Nat.zero_add,ld_row ho,hg]; rfl
      obtain ⟨p,hp,hl⟩ := hv
      by_cases c3:ats[v.toNat] < 0
      · have e3:ats[v.toNat] = -1 := by have := h.low _ (List.getElem_mem hj); omega
        have e2:okV (on ats) v = false := by rw [okV,e,e3]; rfl
        rw [e3] at hl e
        simp only [c1,c2,nilc,fldA_ptr,Nat.zero_add,l0,len,hp,hl,st0,e,e2,Bool.and_false,leave10_Is,Int.reduceNeg,Int.reduceLT,core]
      · have e2:okV (on ats) v = true := by rw [okV,e]; exact decide_eq_true (by omega)
        rw [e2,Bool.and_true,set_same ha,e]
        simp only [c1,c2,c3,nilc,fldA_ptr,Nat.zero_add,l0,len,hp,hl,leave10_I,core]
theorem call110 (h:QP cid ah ats b H)(v:Int)(lo:List Nat):callA cfg O 110 [.ptr cid 0,I v] lo H = some (I (on ats v),H.set cid (.box [ah,B (b && okV (on ats) v)])) :=
  callA_10s (rs := [I _]) rfl h.box (hidden _ _ _) (ent110 h v lo) fun hh => ent110 (h.last hh _) v lo
end Ir
end Go.Proofs.YtnjfpnoamgipjaaDoor
set_option linter.unusedVariables false
set_option linter.unusedSimpArgs false
set_option linter.unusedSectionVars false
set_option maxRecDepth 100000
namespace Go.Proofs.YtnjfpnoamgipjaaDoor
open Go Go.AM
namespace Ir
variable {cid:Nat}{ah:AV}{ats:List Int}{b:Bool}{H H0:Heap}{n0:Nat}{fx:List (Nat × AObj)}{ls:List Ll}
theorem okLv {lo:List Nat}{n0 id:Nat}(hlo:∀ l ∈ lo,l ≤ n0)(hn:n0 ≤ id)(ys:List AV):okLevels lo id ys = true := by
  unfold okLevels
  rw [List.all_eq_true]
  intro l hl
  have := hlo l hl
  rw [Bool.or_eq_true]
  exact .inl (decide_eq_true (by omega))
theorem V56 {lo:List Nat}(hlo:∀ l ∈ lo,l ≤ n0){nid:Nat}{c1 c2 c3:Int}{nl:Option Bool}{tg:Bool}{vals:List Int}(hv:vals.length < 2 ^ 30){v4 v5 v39 v40 v41:AV} :
    ∀ (c i:Nat) (b:Bool) (H0 H:Heap) (vh:AV) (cs:List Int),vals.length - i = c → i ≤ vals.length → QP cid ah ats b H0 → Lc n0 H0 H ((nid,.box [I c1,I c2,I c3,vh]) :: fx) ((vh,1,cs.length,cs.map Ia) :: ls) → (∀ q ∈ fx,q.1 ≠ nid) → cs.length = i → Can vh cs.length →
    ∃ H' vh',Can vh' (cs ++ (vals.drop i).map (on ats)).length ∧ L56_26 [.ptr cid 0,v4,v5,.ptr nid 0,v39,v40,v41,V nl tg vals,I vals.length,I i] lo H = L56_26 [.ptr cid 0,v4,v5,.ptr nid 0,v39,v40,v41,V nl tg vals,I vals.length,I vals.length] lo H' ∧
      Lc n0 (H0.set cid (.box [ah,B (b && (vals.drop i).all (okV (on ats)))])) H' ((nid,.box [I c1,I c2,I c3,vh']) :: fx) ((vh',1,(cs ++ (vals.drop i).map (on ats)).length,(cs ++ (vals.drop i).map (on ats)).map Ia) :: ls) := by
  intro c
  induction c with
  | zero =>
    intro i b H0 H vh cs hc hi hQ hL hd hcs hcan
    have:i = vals.length := by omega
    subst this
    refine ⟨H,vh,by rw [List.drop_length]; simpa using hcan,rfl,?_⟩
    rw [List.drop_length]
    simp only [List.all_nil,Bool.and_true,List.map_nil,List.append_nil]
    rw [set_same hQ.box]
    exact hL
  | succ c ih =>
    intro i b H0 H vh cs hc hi hQ hL hd hcs hcan
    have h:i < vals.length := by omega
    have hlt:(i:Int) < vals.length := by omega
    have hn:n0 ≤ nid := hL.geH
    have hb := hL.cx.at (id := nid) (o := .box [I c1,I c2,I c3,vh]) (by simp)
    have l5:ldN false 1 (.ptr nid 3) H = some vh := ldN_ptr (by rw [ld_box hb]; rfl) hL.cx.hd.noB
    have e6 := call110 (hQ.up hL) vals[i] lo
    have hL1 := hL.lowSet hQ.box [ah,B (b && okV (on ats) vals[i])]
    obtain ⟨o',H2,e8,hL2,id,g,rfl⟩ := hL1.app (bytes := 8) (y := .p (.sl (some false) true 1 [Ia (on ats vals[i])])) (k := 1) (new := [Ia (on ats vals[i])]) [] rfl rfl (by decide) (by unfold room; omega)
    have hb2 := hL2.cx.at (id := nid) (o := .box [I c1,I c2,I c3,vh]) (by simp)
    have e10:stA 1 (.ptr nid 3) (.row id g 0 (cs.length + 1)) lo H2 = some (H2.set nid (.box [I c1,I c2,I c3,.row id g 0 (cs.length + 1)])) := stA_box hb2 rfl (by simp) rfl (okLv hlo hn _)
    have hL3 := hL2.setBox hd [I c1,I c2,I c3,.row id g 0 (cs.length + 1)]
    have w := wrapN (show i < 2 ^ 63 - 1 by omega)
    obtain ⟨H',vh',k0,k1,k2⟩ := ih (i + 1) (b && okV (on ats) vals[i]) _ _ (.row id g 0 (cs.length + 1)) (cs ++ [on ats vals[i]]) (by omega) (by omega) (hQ.set _) (by
      simp only [List.nil_append] at hL3
      rw [List.length_append,List.map_append]
      exact hL3) hd (by simp [hcs]) (by rw [List.length_append]; exact Can.row (by simp))
    have ee:cs ++ (vals.drop i).map (on ats) = cs ++ [on ats vals[i]] ++ (vals.drop (i + 1)).map (on ats) := by rw [List.drop_eq_getElem_cons h,List.map_cons,List.append_assoc]; rfl
    refine ⟨H',vh',by rw [ee]; exact k0,?_,?_⟩
    · rw [← k1,L56_26_eq]
      simp only [hlt,idxV h,ldV h,fldA_ptr,Nat.zero_add,l5,e6,lit1,e8,e10,w,core]
    · rw [List.drop_eq_getElem_cons h]
      simp only [List.all_cons,List.map_cons]
      rw [List.set_set] at k2
      simp only [List.append_assoc,List.cons_append,List.nil_append,Bool.and_assoc] at k2
      exact k2
theorem litMk {H:Heap}{c1 c2 c3:Int}{vh:AV}{vals:List Int}(h:Lc n0 H0 H fx ((vh,1,vals.length,vals.map Ia) :: ls))(hc:Can vh vals.length) :
    ∃ H':Heap,litA false 4 [.agg [I c1,I c2,I c3,vh]] H = some (.p (.sl (some false) true 1 (eMc (c1,c2,c3,vals))),H') ∧ Lc n0 H0 H' fx ls := by
  obtain ⟨nl,tg,H',e,hL⟩ := h.toPV []
  obtain ⟨rfl,rfl⟩ := hc.toPV e
  refine ⟨H',?_,hL⟩
  have:litA false 4 [.agg [I c1,I c2,I c3,vh]] H = ((toPV H vh).bind fun r => some (.p (.sl (some false) true 1 [Ia c1,Ia c2,Ia c3,r.1]),r.2)) := by
    unfold litA
    rw [if_pos (show ([AV.agg [I c1,I c2,I c3,vh]].all fun x => x.cells.length == 4) = true from rfl)]
    show (toPVs H [I c1,I c2,I c3,vh]).bind _ = _
    show ((toPVs H [I c2,I c3,vh]).map _).bind _ = _
    show (((toPVs H [I c3,vh]).map _).map _).bind _ = _
    show ((((toPVs H [vh]).map _).map _).map _).bind _ = _
    show (((((((toPV H vh).bind fun r => (toPVs r.2 []).map fun q => (r.1 :: q.1,q.2)))).map _).map _).map _).bind _ = _
    cases toPV H vh <;> rfl
  rw [this,e]
  rfl
theorem stEx {lo:List Nat}(hlo:∀ l ∈ lo,l ≤ n0){H:Heap}{id:Nat}(hid:n0 ≤ id){xs ys:List AV}{n:Nat}(hb:H[id]? = some (.box xs))(hx:xs.length = n)(hy:ys.length = n)(h0:0 < n)(hl:ys.all AV.leaf = true) :
    stA n (.ptr id 0) (.agg ys) lo H = some (H.set id (.box ys)) := by
  have := stA_box (y := .agg ys) (lo := lo) (n := n) (off := 0) hb hy (by omega) hl (okLv hlo hid _) (by omega)
  rw [this]
  have e:splice xs 0 ys = ys := splice_all (by omega)
  show some (H.set id (.box (splice xs 0 ys))) = _
  rw [e]
theorem endX {lo:List Nat}(hlo:∀ l ∈ lo,l ≤ n0){oid rid:Nat}{a1 a2:Int}{sh mh:AV}{sets:List A_TSet}{done:List MkC}
    (hL:Lc n0 H0 H [(oid,.box [I a1,I a2,sh,mh]),(rid,.box [I 0,I 0,.p nilS,.p nilS])] [(mh,4,done.length,done.flatMap eMc),(sh,2,sets.length,sets.flatMap enc_TSet)]) (hne:oid ≠ rid) (hcs:Can sh sets.length) (hcm:Can mh done.length) :
    ∃ (H1:Heap),ld true 4 (.ptr oid 0) H = some (.agg [I a1,I a2,sh,mh]) ∧ stA 4 (.ptr rid 0) (.agg [I a1,I a2,sh,mh]) (n0 :: lo) H = some H1 ∧
      ld true 4 (.ptr rid 0) H1 = some (.agg [I a1,I a2,sh,mh]) ∧ leave 7 (n0 :: lo) [.agg [I a1,I a2,sh,mh]] H1 = some ([aG (eXc (a1,a2,sets,done))],H0) ∧ leave 10 (n0 :: lo) [.agg [I a1,I a2,sh,mh]] H1 = some ([aG (eXc (a1,a2,sets,done))],H0) := by
  have hb := hL.cx.at (id := oid) (o := .box [I a1,I a2,sh,mh]) (by simp)
  have hr := hL.cx.at (id := rid) (o := .box [I 0,I 0,.p nilS,.p nilS]) (by simp)
  have hlo':∀ l ∈ n0 :: lo,l ≤ n0 := fun l hl => by
    rcases List.mem_cons.mp hl with e | e
    · omega
    · exact hlo l e
  have hs:sh.leaf = true := (hL.cx.lst (sh,2,sets.length,sets.flatMap enc_TSet) (by simp)).leaf
  have hm:mh.leaf = true := hL.cx.hd.leaf
  have lf:[I a1,I a2,sh,mh].all AV.leaf = true := by simp only [List.all_cons,List.all_nil,hs,hm,Bool.and_true]; rfl
  have st := stEx hlo' (hL.ge (.box [I 0,I 0,.p nilS,.p nilS]) (by simp)) hr rfl (ys := [I a1,I a2,sh,mh]) (n := 4) rfl (by decide) lf
  have hL1 := ((hL.fperm (fx' := [(rid,.box [I 0,I 0,.p nilS,.p nilS]),(oid,.box [I a1,I a2,sh,mh])]) (fun q hq => by simp at hq ⊢; rcases hq with h | h <;> simp [h])).setBox (by intro q hq; simp at hq; subst hq; exact hne) [I a1,I a2,sh,mh])
  obtain ⟨n1,t1,H2,e1,hL2⟩ := hL1.toPV [(mh,4,done.length,done.flatMap eMc)]
  obtain ⟨n2,t2,H3,e2,hL3⟩ := hL2.toPV (l2 := []) []
  obtain ⟨rfl,rfl⟩ := hcs.toPV e1
  obtain ⟨rfl,rfl⟩ := hcm.toPV e2
  have f1 := frzLeaf_lst (hL1.cx.lst (sh,2,sets.length,sets.flatMap enc_TSet) (by simp))
  have f2 := frzLeaf_lst (hL2.cx.lst (mh,4,done.length,done.flatMap eMc) (by simp))
  rw [e1] at f1
  rw [e2] at f2
  have fz:frzA (H.set rid (.box [I a1,I a2,sh,mh])) (.agg [I a1,I a2,sh,mh]) = some (.agg ((eXc (a1,a2,sets,done)).map .p),H3) := by
    rw [eXc_eq]
    show (frzLeaves _ [I a1,I a2,sh,mh]).map _ = _
    show ((frzLeaf _ (I a1)).bind _).map _ = _
    show (((((frzLeaf _ (I a2)).bind _).map _))).map _ = _
    show ((((((frzLeaf (H.set rid (.box [I a1,I a2,sh,mh])) sh).bind fun r => (frzLeaves r.2 [mh]).map fun q => (r.1 :: q.1,q.2)).map _).map _))).map _ = _
    rw [f1]
    show (((((((frzLeaf H2 mh).bind fun r => (frzLeaves r.2 []).map fun q => (r.1 :: q.1,q.2)).map _).map _).map _))).map _ = _
    rw [f2]
    rfl
  have hrs:(H.set rid (.box [I a1,I a2,sh,mh]))[rid]? = some (.box [I a1,I a2,sh,mh]) := List.getElem?_set_self (getElem?_lt hr)
  obtain ⟨v7,v10⟩ := leave7A (lo := lo) (n0 := n0) fz
  rw [hL3.take] at v7 v10
  exact ⟨_,by rw [ldAgg_box hb (by simp)]; rfl,st,by rw [ldAgg_box hrs (by simp)]; rfl,v7,v10⟩
theorem M56 {lo:List Nat}(hlo:∀ l ∈ lo,l ≤ n0){oid rid:Nat}{a1 a2:Int}{nl:Option Bool}{tg:Bool}{makes:List MkD}(hm:makes.length < 2 ^ 30)(hs:∀ m ∈ makes,m.Sm){sets:List A_TSet}{sh:AV}(hne:oid ≠ rid) :
    ∀ (c j:Nat) (b:Bool) (H0 H:Heap) (mh:AV) (done:List MkC),makes.length - j = c → j ≤ makes.length → QP cid ah ats b H0 →
    Lc n0 H0 H [(oid,.box [I a1,I a2,sh,mh]),(rid,.box [I 0,I 0,.p nilS,.p nilS])] [(mh,4,done.length,done.flatMap eMc),(sh,2,sets.length,sets.flatMap enc_TSet)] → done.length = j → Can sh sets.length → Can mh done.length →
    L56_18 [.ptr cid 0,.ptr rid 0,.ptr oid 0,Rw eMk nl tg makes,I makes.length,I j] (n0 :: lo) H = some ([aG (eXc (a1,a2,sets,done ++ (makes.drop j).map (pM (on ats))))],H0.set cid (.box [ah,B (b && (makes.drop j).all (okM (on ats)))])) := by
  intro c
  have hlo':∀ l ∈ n0 :: lo,l ≤ n0 := fun l hl => by
    rcases List.mem_cons.mp hl with e | e
    · omega
    · exact hlo l e
  induction c with
  | zero =>
    intro j b H0 H mh done hc hj hQ hL hd hcs hcm
    have:j = makes.length := by omega
    subst this
    obtain ⟨H1,k2,k3,k4,k5,_⟩ := endX hlo hL hne hcs hcm
    rw [List.drop_length]
    simp only [List.all_nil,Bool.and_true,List.map_nil,List.append_nil]
    rw [set_same hQ.box,L56_18_eq]
    simp only [Int.lt_irrefl,k2,k3,k4,k5,core]
  | succ c ih =>
    intro j b H0 H mh done hc hj hQ hL hd hcs hcm
    have h:j < makes.length := by omega
    have hlt:(j:Int) < makes.length := by omega
    obtain ⟨m,hm'⟩:∃ m,makes[j] = m := ⟨_,rfl⟩
    have hSm:m.Sm := hs m (hm' ▸ List.getElem_mem h)
    have hi := idxR (enc := eMk) (k := 4) (nl := nl) (tg := tg) h
    have x3:∀ H,ld true 4 (.fp (makes.flatMap eMk) (j * 4)) H = some (aG (eMk m)) := fun H => by rw [ldR eMk4 h,hm']
    have r4:boxO [] [I 0,I 0,I 0,.p nilS] H = some (.ptr H.length 0,H ++ [.box ([Ia 0,Ia 0,Ia 0,nilS].map .p)]) := boxE [Ia 0,Ia 0,Ia 0,nilS] H
    have r5:stA 4 (.ptr H.length 0) (aG (eMk m)) (n0 :: lo) (H ++ [.box ([Ia 0,Ia 0,Ia 0,nilS].map .p)]) = some (H ++ [.box ((eMk m).map .p)]) := stEA rfl rfl (by decide)
    have hL1 := hL.newBox ((eMk m).map .p)
    have hQ1 := (hQ.up hL1).push [AObj.hole]
    have hb1 := hL1.cx.at (id := H.length) (o := .box ((eMk m).map .p)) (by simp)
    have x7:ldN false 1 (.ptr H.length 0) (H ++ [.box ((eMk m).map .p)] ++ [AObj.hole]) = some (I m.cell) := ldN_ptr (by rw [ld_box (push_get? hb1 _)]; rfl) rfl
    have r8 := call110 hQ1 m.cell (n0 :: lo)
    rw [set_push (getElem?_lt (hQ.up hL1).box)] at r8
    have hL2 := hL1.lowSet hQ.box [ah,B (b && okV (on ats) m.cell)]
    generalize hH2:(H ++ [AObj.box ((eMk m).map .p)]).set cid (.box [ah,B (b && okV (on ats) m.cell)]) = H2 at r8 hL2
    have hb2 := hL2.cx.at (id := H.length) (o := .box ((eMk m).map .p)) (by simp)
    have x10:ldN false 1 (.ptr H.length 1) (H2 ++ [AObj.hole]) = some (I m.kind) := ldN_ptr (by rw [ld_box (push_get? hb2 _)]; rfl) rfl
    have x12:ldN false 1 (.ptr H.length 2) (H2 ++ [AObj.hole]) = some (I m.num) := ldN_ptr (by rw [ld_box (push_get? hb2 _)]; rfl) rfl
    have bu:buildA [I 0,I 0,I 0,.p nilS] [(0,1,I (on ats m.cell)),(1,1,I m.kind),(2,1,I m.num)] = some (aG [Ia (on ats m.cell),Ia m.kind,Ia m.num,nilS]) := rfl
    have fi:fillA 1 0 [I 0,I 0,I 0,.p nilS] (H2 ++ [AObj.hole]) = some (.ptr H2.length 0,H2 ++ [.box ([Ia 0,Ia 0,Ia 0,nilS].map .p)]) := fillLast (xs := [Ia 0,Ia 0,Ia 0,nilS]) (by decide) rfl H2
    have st:stA 4 (.ptr H2.length 0) (aG [Ia (on ats m.cell),Ia m.kind,Ia m.num,nilS]) (n0 :: lo) (H2 ++ [.box ([Ia 0,Ia 0,Ia 0,nilS].map .p)]) = some (H2 ++ [.box ([Ia (on ats m.cell),Ia m.kind,Ia m.num,nilS].map .p)]) := stEA rfl rfl (by decide)
    have hL3 := (hL2.newBox ([Ia (on ats m.cell),Ia m.kind,Ia m.num,nilS].map .p)).newNil 1
    have hb3 := hL3.cx.at (id := H.length) (o := .box ((eMk m).map .p)) (by simp)
    have x17:ld false 1 (.ptr H.length 3) (H2 ++ [.box ([Ia (on ats m.cell),Ia m.kind,Ia m.num,nilS].map .p)]) = some (V m.vn m.vt m.vals) := by rw [ld_box hb3]; rfl
    have hne2:∀ q ∈ [(H.length,AObj.box ((eMk m).map .p)),(oid,.box [I a1,I a2,sh,mh]),(rid,.box [I 0,I 0,.p nilS,.p nilS])],q.1 ≠ H2.length := fun q hq => hL2.cx.lt q hq
    obtain ⟨H4,vh,hcv,k1,hL4⟩ := V56 (nl := m.vn) (tg := m.vt) hlo' hSm.vals (v4 := .ptr rid 0) (v5 := .ptr oid 0) (v39 := Rw eMk nl tg makes) (v40 := I makes.length) (v41 := I j) m.vals.length 0 (b && okV (on ats) m.cell) _ _ (.p nilS) [] rfl (by omega) (hQ.set _) hL3 hne2 rfl Can.nil
    simp only [List.drop_zero,List.nil_append] at hL4 hcv
    rw [List.set_set] at hL4
    have hb4 := hL4.cx.at (id := H2.length) (o := .box [I (on ats m.cell),I m.kind,I m.num,vh]) (by simp)
    have ho4 := hL4.cx.at (id := oid) (o := .box [I a1,I a2,sh,mh]) (by simp)
    have y13:ld false 1 (.ptr oid 3) H4 = some mh := by rw [ld_box ho4]; rfl
    have y14:ld true 4 (.ptr H2.length 0) H4 = some (.agg [I (on ats m.cell),I m.kind,I m.num,vh]) := by rw [ldAgg_box hb4 (by simp)]; rfl
    obtain ⟨H5,e5,hL5⟩ := litMk (c1 := on ats m.cell) (c2 := m.kind) (c3 := m.num) hL4 hcv
    obtain ⟨m',hm2⟩:∃ m':MkC,m' = pM (on ats) m := ⟨_,rfl⟩
    rw [show (on ats m.cell,m.kind,m.num,m.vals.map (on ats)) = m' from hm2.symm] at e5
    obtain ⟨o',H6,e6,hL6,id,g,rfl⟩ := hL5.app (bytes := 48) (y := .p (.sl (some false) true 1 (eMc m'))) (k := 1) (new := eMc m') [] rfl rfl (by decide) (by unfold room; omega)
    have hL6' := hL6.bt.bt
    have ho6 := hL6'.cx.at (id := oid) (o := .box [I a1,I a2,sh,mh]) (by simp)
    have st7:stA 1 (.ptr oid 3) (.row id g 0 (done.length + 1)) (n0 :: lo) H6 = some (H6.set oid (.box [I a1,I a2,sh,.row id g 0 (done.length + 1)])) := stA_box ho6 rfl (by simp) rfl (okLv hlo' hL6'.geH _)
    have hL7 := hL6'.setBox (by intro q hq; simp at hq; subst hq; exact hne.symm) [I a1,I a2,sh,.row id g 0 (done.length + 1)]
    have w := wrapN (show j < 2 ^ 63 - 1 by omega)
    have ihe := ih (j + 1) (b && okM (on ats) m) _ _ (.row id g 0 (done.length + 1)) (done ++ [m']) (by omega) (by omega) (hQ.set _) (by
      simp only [List.nil_append,Bool.and_assoc] at hL7
      rw [List.length_append,List.flatMap_append]
      simpa [okM] using hL7) (by simp [hd]) hcs (by rw [List.length_append]; exact Can.row (by simp))
    have hrep:List.replicate 1 AObj.hole = [AObj.hole] := rfl
    rw [L56_18_eq]
    simp only [hlt,hi,x3,r4,r5,hrep,fldA_ptr,Nat.zero_add,x7,r8,x10,x12,bu,fi,st,x17,lenA_sl,core]
    have k1' := k1
    simp only [Int.ofNat_eq_natCast,Int.natCast_zero] at k1'
    refine (congrArg _ rfl).trans (k1'.trans ?_)
    rw [L56_26_eq]
    simp only [Int.lt_irrefl,fldA_ptr,Nat.zero_add,y13,y14,e5,e6,st7,w,core]
    rw [List.set_set] at ihe
    rw [ihe,List.drop_eq_getElem_cons h,hm']
    simp only [List.all_cons,List.map_cons,Bool.and_assoc,List.append_assoc,List.cons_append,List.nil_append,hm2]
end Ir
end Go.Proofs.YtnjfpnoamgipjaaDoor
set_option linter.unusedVariables false
set_option linter.unusedSimpArgs false
set_option linter.unusedSectionVars false
set_option maxRecDepth 100000
namespace Go.Proofs.YtnjfpnoamgipjaaDoor
open Go Go.AM
namespace Ir
variable {cid:Nat}{ah:AV}{ats:List Int}{b:Bool}{H H0:Heap}{n0:Nat}{fx:List (Nat × AObj)}{ls:List Ll}
theorem loAll {lo:List Nat}(hlo:∀ l ∈ lo,l ≤ n0):∀ l ∈ n0 :: lo,l ≤ n0 := fun l hl => by
  rcases List.mem_cons.mp hl with e | e
  · omega
  · exact hlo l e
theorem S56 {lo:List Nat}(hlo:∀ l ∈ lo,l ≤ n0){oid rid xid:Nat}{a1 a2:Int}{x:ExD}(hS:x.Sm)(hne:oid ≠ rid)(hne2:oid ≠ xid) :
    ∀ (c i:Nat) (b:Bool) (H0 H:Heap) (sh:AV) (cs:List A_TSet),x.sets.length - i = c → i ≤ x.sets.length → QP cid ah ats b H0 →
    Lc n0 H0 H [(oid,.box [I a1,I a2,sh,.p nilS]),(rid,.box [I 0,I 0,.p nilS,.p nilS]),(xid,.box ((eEx x).map .p))] [(sh,2,cs.length,cs.flatMap enc_TSet)] → cs.length = i → Can sh cs.length →
      L56_8 [.ptr cid 0,.ptr xid 0,.ptr rid 0,.ptr oid 0,Rw enc_TSet x.sn x.st x.sets,I x.sets.length,I i] (n0 :: lo) H = some ([aG (eXc (a1,a2,cs ++ (x.sets.drop i).map (pS (on ats)),x.makes.map (pM (on ats))))],H0.set cid (.box [ah,B (b && (((x.sets.drop i).all fun s => okV (on ats) s.2) && x.makes.all (okM (on ats))))])) := by
  intro c
  have hlo' := loAll hlo
  induction c with
  | zero =>
    intro i b H0 H sh cs hc hi hQ hL hcs hcan
    have:i = x.sets.length := by omega
    subst this
    have hb := hL.cx.at (id := xid) (o := .box ((eEx x).map .p)) (by simp)
    have y20:ld false 1 (.ptr xid 3) H = some (Rw eMk x.mn x.mt x.makes) := by rw [ld_box hb]; rfl
    have hL1 := (hL.fperm (fx' := [(oid,.box [I a1,I a2,sh,.p nilS]),(rid,.box [I 0,I 0,.p nilS,.p nilS])]) (fun q hq => by simp at hq ⊢; rcases hq with h | h <;> simp [h])).newNil 4
    have k2 := M56 (nl := x.mn) (tg := x.mt) hlo hS.makes hS.each hne x.makes.length 0 b H0 H (.p nilS) [] rfl (by omega) hQ hL1 rfl hcan Can.nil
    rw [L56_8_eq]
    simp only [Int.lt_irrefl,fldA_ptr,Nat.zero_add,y20,lenA_sl,core]
    refine Eq.trans ?_ (k2.trans ?_)
    · rfl
    · rw [List.drop_length,List.drop_zero]; simp only [List.all_nil,Bool.true_and,List.map_nil,List.append_nil,List.nil_append]
  | succ c ih =>
    intro i b H0 H sh cs hc hi hQ hL hcs hcan
    have h:i < x.sets.length := by omega
    have hlt:(i:Int) < x.sets.length := by omega
    obtain ⟨s,hs'⟩:∃ s,x.sets[i] = s := ⟨_,rfl⟩
    have hs62 := hS.sets
    have ix := idxR (enc := enc_TSet) (k := 2) (nl := x.sn) (tg := x.st) h
    have x3:∀ H,ld true 2 (.fp (x.sets.flatMap enc_TSet) (i * 2)) H = some (aG (enc_TSet s)) := fun H => by rw [ldR len_TSet h,hs']
    have r4:boxO [] [I 0,I 0] H = some (.ptr H.length 0,H ++ [.box ([Ia 0,Ia 0].map .p)]) := boxE [Ia 0,Ia 0] H
    have r5:stA 2 (.ptr H.length 0) (aG (enc_TSet s)) (n0 :: lo) (H ++ [.box ([Ia 0,Ia 0].map .p)]) = some (H ++ [.box ((enc_TSet s).map .p)]) := stEA rfl rfl (by decide)
    have hL1 := hL.newBox ((enc_TSet s).map .p)
    have hb1 := hL1.cx.at (id := H.length) (o := .box ((enc_TSet s).map .p)) (by simp)
    have ho1 := hL1.cx.at (id := oid) (o := .box [I a1,I a2,sh,.p nilS]) (by simp)
    have x7:ldN false 1 (.ptr oid 2) (H ++ [.box ((enc_TSet s).map .p)]) = some sh := ldN_ptr (by rw [ld_box ho1]; rfl) hL1.cx.hd.noB
    have x9:ldN false 1 (.ptr H.length 0) (H ++ [.box ((enc_TSet s).map .p)]) = some (I s.1) := ldN_ptr (by rw [ld_box hb1]; rfl) rfl
    have x11:ld false 1 (.ptr H.length 1) (H ++ [.box ((enc_TSet s).map .p)]) = some (I s.2) := by rw [ld_box hb1]; rfl
    have r12 := call110 (hQ.up hL1) s.2 (n0 :: lo)
    have hL2 := hL1.lowSet hQ.box [ah,B (b && okV (on ats) s.2)]
    generalize hH2:(H ++ [AObj.box ((enc_TSet s).map .p)]).set cid (.box [ah,B (b && okV (on ats) s.2)]) = H2 at r12 hL2
    have bu:buildA [I 0,I 0] [(0,1,I s.1),(1,1,I (on ats s.2))] = some (aG (enc_TSet (pS (on ats) s))) := rfl
    have li:litA false 2 [aG (enc_TSet (pS (on ats) s))] H2 = some (.p (.sl (some false) true 1 (enc_TSet (pS (on ats) s))),H2) := rfl
    obtain ⟨o',H3,e15,hL3,id,g,rfl⟩ := hL2.app (bytes := 16) (y := .p (.sl (some false) true 1 (enc_TSet (pS (on ats) s)))) (k := 1) (new := enc_TSet (pS (on ats) s)) [] rfl rfl (by decide) (by unfold room; omega)
    have hL3' := hL3.bt
    have ho3 := hL3'.cx.at (id := oid) (o := .box [I a1,I a2,sh,.p nilS]) (by simp)
    have st:stA 1 (.ptr oid 2) (.row id g 0 (cs.length + 1)) (n0 :: lo) H3 = some (H3.set oid (.box [I a1,I a2,.row id g 0 (cs.length + 1),.p nilS])) := stA_box ho3 rfl (by simp) rfl (okLv hlo' hL3'.geH _)
    have hL4 := hL3'.setBox (by
      intro q hq
      simp at hq
      rcases hq with e | e <;> subst e
      · exact hne.symm
      · exact hne2.symm) [I a1,I a2,.row id g 0 (cs.length + 1),.p nilS]
    have w := wrapN (show i < 2 ^ 63 - 1 by omega)
    have ihe := ih (i + 1) (b && okV (on ats) s.2) _ _ (.row id g 0 (cs.length + 1)) (cs ++ [pS (on ats) s]) (by omega) (by omega) (hQ.set _) (by
      simp only [List.nil_append] at hL4
      rw [List.length_append,List.flatMap_append]
      simpa using hL4) (by simp [hcs]) (by rw [List.length_append]; exact Can.row (by simp))
    rw [L56_8_eq]
    simp only [hlt,ix,x3,r4,r5,fldA_ptr,Nat.zero_add,x7,x9,x11,r12,bu,li,e15,st,w,core]
    rw [List.set_set] at ihe
    rw [ihe,List.drop_eq_getElem_cons h,hs']
    simp only [List.all_cons,List.map_cons,Bool.and_assoc,List.append_assoc,List.cons_append,List.nil_append]
theorem ent56 (hQ:QP cid ah ats b H){x:ExD}(hS:x.Sm){lo:List Nat}(hlo:∀ l ∈ lo,l ≤ H.length) :
    O.ent 56 [.ptr cid 0,aG (eEx x)] lo H = some ([aG (eXc (pX (on ats) x))],H.set cid (.box [ah,B (b && okX (on ats) x)])) := by
  have hL := ((Lc.start H).newBox ((eEx x).map .p)).newBox ([Ia 0,Ia 0,nilS,nilS].map .p)
  have hL1 := hL.newBox ([Ia x.at',Ia x.steps,nilS,nilS].map .p)
  generalize hHA:H ++ [AObj.box ((eEx x).map .p)] = HA at hL hL1
  have hlA:HA.length = H.length + 1 := by rw [← hHA]; simp
  have hbx := hL.cx.at (id := H.length) (o := .box ((eEx x).map .p)) (by simp)
  have r1:boxO [] (AV.cells (aG (eEx x))) H = some (.ptr H.length 0,HA) := by rw [← hHA]; exact boxAgg _ H
  have r2:boxO [] [I 0,I 0,.p nilS,.p nilS] HA = some (.ptr HA.length 0,HA ++ [.box ([Ia 0,Ia 0,nilS,nilS].map .p)]) := boxE [Ia 0,Ia 0,nilS,nilS] HA
  generalize hHB:HA ++ [AObj.box ([Ia 0,Ia 0,nilS,nilS].map .p)] = HB at hL hL1 r2 hbx
  have hlB:HB.length = H.length + 2 := by rw [← hHB]; simp [hlA]
  have x4:ld false 1 (.ptr H.length 0) HB = some (I x.at') := by rw [ld_box hbx]; rfl
  have x6:ld false 1 (.ptr H.length 1) HB = some (I x.steps) := by rw [ld_box hbx]; rfl
  have bu:buildA [I 0,I 0,.p nilS,.p nilS] [(0,1,I x.at'),(1,1,I x.steps)] = some (aG [Ia x.at',Ia x.steps,nilS,nilS]) := rfl
  have r8:boxO [] [I 0,I 0,.p nilS,.p nilS] HB = some (.ptr HB.length 0,HB ++ [.box ([Ia 0,Ia 0,nilS,nilS].map .p)]) := boxE [Ia 0,Ia 0,nilS,nilS] HB
  have st:stA 4 (.ptr HB.length 0) (aG [Ia x.at',Ia x.steps,nilS,nilS]) (H.length :: lo) (HB ++ [.box ([Ia 0,Ia 0,nilS,nilS].map .p)]) = some (HB ++ [.box ([Ia x.at',Ia x.steps,nilS,nilS].map .p)]) := stEA rfl rfl (by decide)
  have hbx1 := hL1.cx.at (id := H.length) (o := .box ((eEx x).map .p)) (by simp)
  have x11:ld false 1 (.ptr H.length 2) (HB ++ [.box ([Ia x.at',Ia x.steps,nilS,nilS].map .p)]) = some (Rw enc_TSet x.sn x.st x.sets) := by rw [ld_box hbx1]; rfl
  have k2 := S56 (a1 := x.at') (a2 := x.steps) hlo hS (oid := HB.length) (rid := HA.length) (xid := H.length) (by omega) (by omega) x.sets.length 0 b H _ (.p nilS) [] rfl (by omega) hQ (hL1.newNil 2) rfl Can.nil
  rw [f56_eq]
  simp only [r1,r2,fldA_ptr,Nat.zero_add,x4,x6,bu,r8,st,x11,lenA_sl,core]
  exact k2
theorem call56 (hQ:QP cid ah ats b H){x:ExD}(hS:x.Sm){lo:List Nat}(hlo:∀ l ∈ lo,l ≤ H.length) :
    callA cfg O 56 [.ptr cid 0,aG (eEx x)] lo H = some (aG (eXc (pX (on ats) x)),H.set cid (.box [ah,B (b && okX (on ats) x)])) :=
  callA_7s (rs := [aG (eXc (pX (on ats) x))]) rfl hQ.box (hidden _ _ _) (ent56 hQ hS hlo)
end Ir
end Go.Proofs.YtnjfpnoamgipjaaDoor
set_option linter.unusedVariables false
set_option linter.unusedSimpArgs false
set_option linter.unusedSectionVars false
set_option maxRecDepth 100000
namespace Go.Proofs.YtnjfpnoamgipjaaDoor
open Go Go.AM
namespace Ir
def keptI (to:List Int)(i:Nat):Bool := match to[i]? with | some t => t == (i:Int) | none => false
def cnt (to:List Int):Nat → Nat
  | 0 => 0
  | i + 1 => cnt to i + if keptI to i = true then 1 else 0
def nx (to:List Int)(l:List Int)(i:Nat):Int :=
  match to[i]? with
  | some t => if t = i then cnt to i else on l t
  | none => -1
def atN (to:List Int):Nat → List Int
  | 0 => []
  | i + 1 => atN to i ++ [nx to (atN to i) i]
def okTo (to:List Int):Prop := ∀ (i:Nat) t,to[i]? = some t → -1 ≤ t ∧ t ≤ i
theorem atN_len (to:List Int):∀ n,(atN to n).length = n
  | 0 => rfl
  | n + 1 => by rw [atN,List.length_append,atN_len to n]; rfl
theorem cnt_le (to:List Int):∀ n,cnt to n ≤ n
  | 0 => Nat.le_refl _
  | n + 1 => by
    have := cnt_le to n
    rw [cnt]
    split <;> omega
theorem atN_get (to:List Int){i:Nat}:∀ {n:Nat},i < n → (atN to n)[i]? = some (nx to (atN to i) i) := by
  intro n
  induction n with
  | zero => intro h; omega
  | succ n ih =>
    intro h
    rw [atN]
    by_cases e:i = n
    · subst e
      rw [List.getElem?_append_right (by rw [atN_len]; exact Nat.le_refl _),atN_len,Nat.sub_self]; rfl
    · rw [List.getElem?_append_left (by rw [atN_len]; omega)]
      exact ih (by omega)
theorem on_le (l:List Int)(h:∀ a ∈ l,-1 ≤ a)(v:Int):-1 ≤ on l v := by
  unfold on
  split
  · cases e:l[v.toNat]? with
    | none => exact Int.le_refl _
    | some a => exact h a (List.mem_of_getElem? e)
  · exact Int.le_refl _
theorem nx_le {to l:List Int}(h:∀ a ∈ l,-1 ≤ a)(i:Nat):-1 ≤ nx to l i := by
  unfold nx
  split
  · split
    · omega
    · exact on_le l h _
  · exact Int.le_refl _
theorem atN_low (to:List Int):∀ n,∀ a ∈ atN to n,-1 ≤ a := by
  intro n
  induction n with
  | zero => intro a h; cases h
  | succ n ih =>
    intro a h
    rw [atN,List.mem_append] at h
    rcases h with h | h
    · exact ih a h
    · rw [List.mem_singleton] at h; subst h; exact nx_le ih n
theorem on_lt (to:List Int){v:Int}{n m:Nat}(h:v < n)(hm:n ≤ m):on (atN to m) v = on (atN to n) v := by
  unfold on
  split
  · rw [atN_get to (i := v.toNat) (n := m) (by omega),atN_get to (i := v.toNat) (n := n) (by omega)]
  · rfl
theorem on_keep {to:List Int}{n:Nat}{v:Nat}(h:v < n)(ht:to[v]? = some (v:Int)):on (atN to n) v = cnt to v := by
  rw [on,if_pos (by omega),Int.toNat_natCast,atN_get to h,nx,ht]
  simp
theorem on_step {to:List Int}{n:Nat}{v:Nat}{t:Int}(h:v < n)(ht:to[v]? = some t)(hne:t ≠ v)(hle:t ≤ v):on (atN to n) v = on (atN to n) t := by
  rw [on,if_pos (by omega),Int.toNat_natCast,atN_get to h,nx,ht]
  simp only [hne,if_false,Option.getD_some]
  rw [on_lt to (v := t) (n := v) (m := n) (by omega) (by omega)]
abbrev Tol := Option Bool × Bool × List Int
structure QD (tid fid pid:Nat)(tl:Tol)(ats:List Int)(b:Bool)(H:Heap):Prop where
  box:H[fid]? = some (.box [B b])
  to:H[tid]? = some (.box [V tl.1 tl.2.1 tl.2.2])
  fn:H[pid]? = some (.box [.fn 57 [] [.ptr tid 0,.ptr fid 0]])
  rel:ats = atN tl.2.2 tl.2.2.length
  ok:okTo tl.2.2
  len:tl.2.2.length < 2 ^ 62
variable {tid fid pid:Nat}{tl:Tol}{ats:List Int}{b:Bool}{H H0:Heap}{n0:Nat}{fx:List (Nat × AObj)}{ls:List Ll}
theorem QD.ne1 (h:QD tid fid pid tl ats b H):fid ≠ tid := fun e => by have h1 := h.box; rw [e,h.to] at h1; cases h1
theorem QD.ne2 (h:QD tid fid pid tl ats b H):fid ≠ pid := fun e => by have h1 := h.box; rw [e,h.fn] at h1; cases h1
theorem QD.set (h:QD tid fid pid tl ats b H)(b':Bool):QD tid fid pid tl ats b' (H.set fid (.box [B b'])) :=
  ⟨List.getElem?_set_self (getElem?_lt h.box),by rw [List.getElem?_set_ne h.ne1]; exact h.to,by rw [List.getElem?_set_ne h.ne2]; exact h.fn,h.rel,h.ok,h.len⟩
theorem QD.up (h:QD tid fid pid tl ats b H0)(hL:Lc n0 H0 H fx ls):QD tid fid pid tl ats b H := ⟨hL.get h.box,hL.get h.to,hL.get h.fn,h.rel,h.ok,h.len⟩
theorem QD.push (h:QD tid fid pid tl ats b H)(l:List AObj):QD tid fid pid tl ats b (H ++ l) := ⟨push_get? h.box l,push_get? h.to l,push_get? h.fn l,h.rel,h.ok,h.len⟩
theorem QD.last (h:QD tid fid pid tl ats b H)(hh:H[H.length - 1]? = some .hole)(o:AObj):QD tid fid pid tl ats b (H.set (H.length - 1) o) := by
  refine ⟨?_,?_,?_,h.rel,h.ok,h.len⟩
  · rw [List.getElem?_set_ne]; exact h.box
    intro e; rw [e,h.box] at hh; cases hh
  · rw [List.getElem?_set_ne]; exact h.to
    intro e; rw [e,h.to] at hh; cases hh
  · rw [List.getElem?_set_ne]; exact h.fn
    intro e; rw [e,h.fn] at hh; cases hh
theorem C57 (h:QD tid fid pid tl ats b H)(lo:List Nat){v:Nat}(hv:v ≤ tl.2.2.length):∀ (c k:Nat),v - k = c → k ≤ v → L57_18 [.ptr tid 0,I (cnt tl.2.2 k),I v,I k] (H.length :: lo) H = some ([I (cnt tl.2.2 v)],H) := by
  intro c
  have hl := h.len
  have l1:ld false 1 (.ptr tid 0) H = some (V tl.1 tl.2.1 tl.2.2) := by rw [ld_box h.to]; rfl
  induction c with
  | zero =>
    intro k hc hk
    have:k = v := by omega
    subst this
    rw [L57_18_eq]
    simp only [Int.lt_irrefl,leave10_I,core]
  | succ c ih =>
    intro k hc hk
    have hlt:(k:Int) < v := by omega
    have hj:k < tl.2.2.length := by omega
    have w := wrapN (show k < 2 ^ 63 - 1 by omega)
    have w2 := wrapN (show cnt tl.2.2 k < 2 ^ 63 - 1 by have := cnt_le tl.2.2 k; omega)
    have ihk := ih (k + 1) (by omega) (by omega)
    rw [L57_18_eq]
    have ht:tl.2.2[k]? = some tl.2.2[k] := List.getElem?_eq_getElem hj
    by_cases e:tl.2.2[k] = (k:Int)
    · rw [cnt,keptI,ht] at ihk
      simp only [e,beq_self_eq_true,if_true] at ihk
      simp only [hlt,l1,idxV hj,ldV hj,e,w2,core]
      rw [L57_27_eq]
      simp only [w,core]
      exact ihk
    · have e':(tl.2.2[k] == (k:Int)) = false := by rw [beq_eq_false_iff_ne]; exact e
      rw [cnt,keptI,ht] at ihk
      simp only [e',Bool.false_eq_true,if_false,Nat.add_zero] at ihk
      simp only [hlt,l1,idxV hj,ldV hj,e,core]
      rw [L57_27_eq]
      simp only [w,core]
      exact ihk
theorem P57 (h:QD tid fid pid tl ats b H)(lo:List Nat):∀ (c:Nat)(v:Int),(v + 1).toNat < c → L57_4 [I v,.ptr tid 0,.ptr fid 0] (H.length :: lo) H = some ([I (on ats v)],H.set fid (.box [B (b && okV (on ats) v)])) := by
  intro c
  have hl := h.len
  have l1:ld false 1 (.ptr tid 0) H = some (V tl.1 tl.2.1 tl.2.2) := by rw [ld_box h.to]; rfl
  have st0:stA 1 (.ptr fid 0) (B false) (H.length :: lo) H = some (H.set fid (.box [B false])) := stA_box h.box rfl (by simp) rfl (okLevels_p _ _ [.v (.bool false)])
  have bad:∀ v,(v < 0 ∨ (tl.2.2.length:Int) ≤ v) → on ats v = -1 ∧ okV (on ats) v = false := by
    intro v hv
    have e:on ats v = -1 := by
      rw [on]
      split
      · rw [List.getElem?_eq_none (by rw [h.rel,atN_len]; omega)]; rfl
      · rfl
    exact ⟨e,by rw [okV,e]; rfl⟩
  induction c with
  | zero => intro v hv; omega
  | succ c ih =>
    intro v hv
    rw [L57_4_eq]
    by_cases c1:0 ≤ v
    · have c1':¬ v < 0 := by omega
      by_cases c2:v < tl.2.2.length
      · have c2':¬ (tl.2.2.length:Int) ≤ v := by omega
        obtain ⟨k,rfl⟩:∃ k:Nat,v = k := ⟨v.toNat,by omega⟩
        have hj:k < tl.2.2.length := by omega
        have ht:tl.2.2[k]? = some tl.2.2[k] := List.getElem?_eq_getElem hj
        have hok := h.ok k _ ht
        by_cases e:tl.2.2[k] = (k:Int)
        · have hon:on ats k = cnt tl.2.2 k := by rw [h.rel]; exact on_keep hj (by rw [ht,e])
          have hov:okV (on ats) k = true := by rw [okV,hon]; exact decide_eq_true (by omega)
          rw [hon,hov,Bool.and_true,set_same h.box]
          simp only [c1,c1',c2,c2',l1,idxV hj,ldV hj,e,not_true,ne_eq,core]
          have := C57 h lo (v := k) (by omega) k 0 rfl (by omega)
          exact this
        · have hon:on ats k = on ats tl.2.2[k] := by rw [h.rel]; exact on_step hj ht e hok.2
          have := ih tl.2.2[k] (by omega)
          have hov:okV (on ats) k = okV (on ats) tl.2.2[k] := by rw [okV,okV,hon]
          rw [hon,hov]
          simp only [c1,c1',c2,c2',l1,idxV hj,ldV hj,e,not_false_eq_true,ne_eq,core]
          exact this
      · obtain ⟨e,e2⟩ := bad v (.inr (by omega))
        have c2':(tl.2.2.length:Int) ≤ v := by omega
        simp only [c1,c1',c2,c2',l1,st0,e,e2,Bool.and_false,leave10_Is,core]
    · have c1':v < 0 := by omega
      obtain ⟨e,e2⟩ := bad v (.inl c1')
      simp only [c1,c1',st0,e,e2,Bool.and_false,leave10_Is,core]
theorem ent57 (h:QD tid fid pid tl ats b H)(v:Int)(lo:List Nat):O.ent 57 [I v,.ptr tid 0,.ptr fid 0] lo H = some ([I (on ats v)],H.set fid (.box [B (b && okV (on ats) v)])) := by
  rw [f57_eq]
  exact P57 h lo _ v (Nat.lt_succ_self _)
abbrev TMz:List PV := [(.v (.int .i64 0)),(.v (.int .i64 0)),(.v (.int .i64 0)),nilS]
theorem call57 (h:QD tid fid pid tl ats b H)(v:Int)(lo:List Nat):callA cfg O 57 [I v,.ptr tid 0,.ptr fid 0] lo H = some (I (on ats v),H.set fid (.box [B (b && okV (on ats) v)])) :=
  callA_10s (rs := [I _]) rfl h.box (hidden1 _ _) (ent57 h v lo) fun hh => ent57 (h.last hh _) v lo
theorem call57b (h:QD tid fid pid tl ats b H)(v:Int)(lo:List Nat):callC cfg O (some .bools) (.fn 57 [] [.ptr tid 0,.ptr fid 0]) [I v] lo H = some (I (on ats v),H.set fid (.box [B (b && okV (on ats) v)])) :=
  (callC_10 rfl).trans (call57 h v lo)
theorem call57p (h:QD tid fid pid tl ats b H)(v:Int)(lo:List Nat):callC cfg O (some (.past TMz)) (.fn 57 [] [.ptr tid 0,.ptr fid 0]) [I v] lo H = some (I (on ats v),H.set fid (.box [B (b && okV (on ats) v)])) :=
  (callC_10 (by kernel_rfl)).trans (call57 h v lo)
end Ir
end Go.Proofs.YtnjfpnoamgipjaaDoor
set_option linter.unusedVariables false
set_option linter.unusedSimpArgs false
set_option linter.unusedSectionVars false
set_option maxRecDepth 100000
namespace Go.Proofs.YtnjfpnoamgipjaaDoor
open Go Go.AM
namespace Ir
variable {tid fid pid:Nat}{tl:Tol}{ats:List Int}{b:Bool}{H H0:Heap}{n0:Nat}{fx:List (Nat × AObj)}{ls:List Ll}
theorem V58 {lo:List Nat}(hlo:∀ l ∈ lo,l ≤ n0){nid:Nat}{c1 c2 c3:Int}{nl:Option Bool}{tg:Bool}{vals:List Int}(hv:vals.length < 2 ^ 30){v4 v5 v39 v40 v41:AV} :
    ∀ (c i:Nat) (b:Bool) (H0 H:Heap) (vh:AV) (cs:List Int),vals.length - i = c → i ≤ vals.length → QD tid fid pid tl ats b H0 → Lc n0 H0 H ((nid,.box [I c1,I c2,I c3,vh]) :: fx) ((vh,1,cs.length,cs.map Ia) :: ls) → (∀ q ∈ fx,q.1 ≠ nid) → cs.length = i → Can vh cs.length →
    ∃ H' vh',Can vh' (cs ++ (vals.drop i).map (on ats)).length ∧ L58_26 [.ptr pid 0,v4,v5,.ptr nid 0,v39,v40,v41,V nl tg vals,I vals.length,I i] lo H = L58_26 [.ptr pid 0,v4,v5,.ptr nid 0,v39,v40,v41,V nl tg vals,I vals.length,I vals.length] lo H' ∧
      Lc n0 (H0.set fid (.box [B (b && (vals.drop i).all (okV (on ats)))])) H' ((nid,.box [I c1,I c2,I c3,vh']) :: fx) ((vh',1,(cs ++ (vals.drop i).map (on ats)).length,(cs ++ (vals.drop i).map (on ats)).map Ia) :: ls) := by
  intro c
  induction c with
  | zero =>
    intro i b H0 H vh cs hc hi hQ hL hd hcs hcan
    have:i = vals.length := by omega
    subst this
    refine ⟨H,vh,by rw [List.drop_length]; simpa using hcan,rfl,?_⟩
    rw [List.drop_length]
    simp only [List.all_nil,Bool.and_true,List.map_nil,List.append_nil]
    rw [set_same hQ.box]
    exact hL
  | succ c ih =>
    intro i b H0 H vh cs hc hi hQ hL hd hcs hcan
    have h:i < vals.length := by omega
    have hlt:(i:Int) < vals.length := by omega
    have hn:n0 ≤ nid := hL.geH
    have hb := hL.cx.at (id := nid) (o := .box [I c1,I c2,I c3,vh]) (by simp)
    have l5:ldN false 1 (.ptr nid 3) H = some vh := ldN_ptr (by rw [ld_box hb]; rfl) hL.cx.hd.noB
    have lf:ld false 1 (.ptr pid 0) H = some (.fn 57 [] [.ptr tid 0,.ptr fid 0]) := by rw [ld_box (hQ.up hL).fn]; rfl
    have e6 := call57b (hQ.up hL) vals[i] lo
    have hL1 := hL.lowSet hQ.box [B (b && okV (on ats) vals[i])]
    obtain ⟨o',H2,e8,hL2,id,g,rfl⟩ := hL1.app (bytes := 8) (y := .p (.sl (some false) true 1 [Ia (on ats vals[i])])) (k := 1) (new := [Ia (on ats vals[i])]) [] rfl rfl (by decide) (by unfold room; omega)
    have hb2 := hL2.cx.at (id := nid) (o := .box [I c1,I c2,I c3,vh]) (by simp)
    have e10:stA 1 (.ptr nid 3) (.row id g 0 (cs.length + 1)) lo H2 = some (H2.set nid (.box [I c1,I c2,I c3,.row id g 0 (cs.length + 1)])) := stA_box hb2 rfl (by simp) rfl (okLv hlo hn _)
    have hL3 := hL2.setBox hd [I c1,I c2,I c3,.row id g 0 (cs.length + 1)]
    have w := wrapN (show i < 2 ^ 63 - 1 by omega)
    obtain ⟨H',vh',k0,k1,k2⟩ := ih (i + 1) (b && okV (on ats) vals[i]) _ _ (.row id g 0 (cs.length + 1)) (cs ++ [on ats vals[i]]) (by omega) (by omega) (hQ.set _) (by
      simp only [List.nil_append] at hL3
      rw [List.length_append,List.map_append]
      exact hL3) hd (by simp [hcs]) (by rw [List.length_append]; exact Can.row (by simp))
    have ee:cs ++ (vals.drop i).map (on ats) = cs ++ [on ats vals[i]] ++ (vals.drop (i + 1)).map (on ats) := by rw [List.drop_eq_getElem_cons h,List.map_cons,List.append_assoc]; rfl
    refine ⟨H',vh',by rw [ee]; exact k0,?_,?_⟩
    · rw [← k1,L58_26_eq]
      simp only [hlt,idxV h,ldV h,fldA_ptr,Nat.zero_add,l5,lf,e6,lit1,e8,e10,w,core]
    · rw [List.drop_eq_getElem_cons h]
      simp only [List.all_cons,List.map_cons]
      rw [List.set_set] at k2
      simp only [List.append_assoc,List.cons_append,List.nil_append,Bool.and_assoc] at k2
      exact k2
theorem M58 {lo:List Nat}(hlo:∀ l ∈ lo,l ≤ n0){oid rid:Nat}{a1 a2:Int}{nl:Option Bool}{tg:Bool}{makes:List MkD}(hm:makes.length < 2 ^ 30)(hs:∀ m ∈ makes,m.Sm){sets:List A_TSet}{sh:AV}(hne:oid ≠ rid) :
    ∀ (c j:Nat) (b:Bool) (H0 H:Heap) (mh:AV) (done:List MkC),makes.length - j = c → j ≤ makes.length → QD tid fid pid tl ats b H0 →
    Lc n0 H0 H [(oid,.box [I a1,I a2,sh,mh]),(rid,.box [I 0,I 0,.p nilS,.p nilS])] [(mh,4,done.length,done.flatMap eMc),(sh,2,sets.length,sets.flatMap enc_TSet)] → done.length = j → Can sh sets.length → Can mh done.length →
    L58_18 [.ptr pid 0,.ptr rid 0,.ptr oid 0,Rw eMk nl tg makes,I makes.length,I j] (n0 :: lo) H = some ([aG (eXc (a1,a2,sets,done ++ (makes.drop j).map (pM (on ats))))],H0.set fid (.box [B (b && (makes.drop j).all (okM (on ats)))])) := by
  intro c
  have hlo':∀ l ∈ n0 :: lo,l ≤ n0 := fun l hl => by
    rcases List.mem_cons.mp hl with e | e
    · omega
    · exact hlo l e
  induction c with
  | zero =>
    intro j b H0 H mh done hc hj hQ hL hd hcs hcm
    have:j = makes.length := by omega
    subst this
    obtain ⟨H1,k2,k3,k4,_,k5⟩ := endX hlo hL hne hcs hcm
    rw [List.drop_length]
    simp only [List.all_nil,Bool.and_true,List.map_nil,List.append_nil]
    rw [set_same hQ.box,L58_18_eq]
    simp only [Int.lt_irrefl,k2,k3,k4,k5,core]
  | succ c ih =>
    intro j b H0 H mh done hc hj hQ hL hd hcs hcm
    have h:j < makes.length := by omega
    have hlt:(j:Int) < makes.length := by omega
    obtain ⟨m,hm'⟩:∃ m,makes[j] = m := ⟨_,rfl⟩
    have hSm:m.Sm := hs m (hm' ▸ List.getElem_mem h)
    have hi := idxR (enc := eMk) (k := 4) (nl := nl) (tg := tg) h
    have x3:∀ H,ld true 4 (.fp (makes.flatMap eMk) (j * 4)) H = some (aG (eMk m)) := fun H => by rw [ldR eMk4 h,hm']
    have r4:boxO [] [I 0,I 0,I 0,.p nilS] H = some (.ptr H.length 0,H ++ [.box ([Ia 0,Ia 0,Ia 0,nilS].map .p)]) := boxE [Ia 0,Ia 0,Ia 0,nilS] H
    have r5:stA 4 (.ptr H.length 0) (aG (eMk m)) (n0 :: lo) (H ++ [.box ([Ia 0,Ia 0,Ia 0,nilS].map .p)]) = some (H ++ [.box ((eMk m).map .p)]) := stEA rfl rfl (by decide)
    have hL1 := hL.newBox ((eMk m).map .p)
    have hQ1 := (hQ.up hL1).push [AObj.hole]
    have hb1 := hL1.cx.at (id := H.length) (o := .box ((eMk m).map .p)) (by simp)
    have x7:ldN false 1 (.ptr H.length 0) (H ++ [.box ((eMk m).map .p)] ++ [AObj.hole]) = some (I m.cell) := ldN_ptr (by rw [ld_box (push_get? hb1 _)]; rfl) rfl
    have lf:ldN false 1 (.ptr pid 0) (H ++ [.box ((eMk m).map .p)] ++ [AObj.hole]) = some (.fn 57 [] [.ptr tid 0,.ptr fid 0]) := ldN_ptr (by rw [ld_box hQ1.fn]; rfl) rfl
    have r8 := call57p hQ1 m.cell (n0 :: lo)
    rw [set_push (getElem?_lt (hQ.up hL1).box)] at r8
    have hL2 := hL1.lowSet hQ.box [B (b && okV (on ats) m.cell)]
    generalize hH2:(H ++ [AObj.box ((eMk m).map .p)]).set fid (.box [B (b && okV (on ats) m.cell)]) = H2 at r8 hL2
    have hb2 := hL2.cx.at (id := H.length) (o := .box ((eMk m).map .p)) (by simp)
    have x10:ldN false 1 (.ptr H.length 1) (H2 ++ [AObj.hole]) = some (I m.kind) := ldN_ptr (by rw [ld_box (push_get? hb2 _)]; rfl) rfl
    have x12:ldN false 1 (.ptr H.length 2) (H2 ++ [AObj.hole]) = some (I m.num) := ldN_ptr (by rw [ld_box (push_get? hb2 _)]; rfl) rfl
    have bu:buildA [I 0,I 0,I 0,.p nilS] [(0,1,I (on ats m.cell)),(1,1,I m.kind),(2,1,I m.num)] = some (aG [Ia (on ats m.cell),Ia m.kind,Ia m.num,nilS]) := rfl
    have fi:fillA 1 0 [I 0,I 0,I 0,.p nilS] (H2 ++ [AObj.hole]) = some (.ptr H2.length 0,H2 ++ [.box ([Ia 0,Ia 0,Ia 0,nilS].map .p)]) := fillLast (xs := [Ia 0,Ia 0,Ia 0,nilS]) (by decide) rfl H2
    have st:stA 4 (.ptr H2.length 0) (aG [Ia (on ats m.cell),Ia m.kind,Ia m.num,nilS]) (n0 :: lo) (H2 ++ [.box ([Ia 0,Ia 0,Ia 0,nilS].map .p)]) = some (H2 ++ [.box ([Ia (on ats m.cell),Ia m.kind,Ia m.num,nilS].map .p)]) := stEA rfl rfl (by decide)
    have hL3 := (hL2.newBox ([Ia (on ats m.cell),Ia m.kind,Ia m.num,nilS].map .p)).newNil 1
    have hb3 := hL3.cx.at (id := H.length) (o := .box ((eMk m).map .p)) (by simp)
    have x17:ld false 1 (.ptr H.length 3) (H2 ++ [.box ([Ia (on ats m.cell),Ia m.kind,Ia m.num,nilS].map .p)]) = some (V m.vn m.vt m.vals) := by rw [ld_box hb3]; rfl
    have hne2:∀ q ∈ [(H.length,AObj.box ((eMk m).map .p)),(oid,.box [I a1,I a2,sh,mh]),(rid,.box [I 0,I 0,.p nilS,.p nilS])],q.1 ≠ H2.length := fun q hq => hL2.cx.lt q hq
    obtain ⟨H4,vh,hcv,k1,hL4⟩ := V58 (nl := m.vn) (tg := m.vt) hlo' hSm.vals (v4 := .ptr rid 0) (v5 := .ptr oid 0) (v39 := Rw eMk nl tg makes) (v40 := I makes.length) (v41 := I j) m.vals.length 0 (b && okV (on ats) m.cell) _ _ (.p nilS) [] rfl (by omega) (hQ.set _) hL3 hne2 rfl Can.nil
    simp only [List.drop_zero,List.nil_append] at hL4 hcv
    rw [List.set_set] at hL4
    have hb4 := hL4.cx.at (id := H2.length) (o := .box [I (on ats m.cell),I m.kind,I m.num,vh]) (by simp)
    have ho4 := hL4.cx.at (id := oid) (o := .box [I a1,I a2,sh,mh]) (by simp)
    have y13:ld false 1 (.ptr oid 3) H4 = some mh := by rw [ld_box ho4]; rfl
    have y14:ld true 4 (.ptr H2.length 0) H4 = some (.agg [I (on ats m.cell),I m.kind,I m.num,vh]) := by rw [ldAgg_box hb4 (by simp)]; rfl
    obtain ⟨H5,e5,hL5⟩ := litMk (c1 := on ats m.cell) (c2 := m.kind) (c3 := m.num) hL4 hcv
    obtain ⟨m',hm2⟩:∃ m':MkC,m' = pM (on ats) m := ⟨_,rfl⟩
    rw [show (on ats m.cell,m.kind,m.num,m.vals.map (on ats)) = m' from hm2.symm] at e5
    obtain ⟨o',H6,e6,hL6,id,g,rfl⟩ := hL5.app (bytes := 48) (y := .p (.sl (some false) true 1 (eMc m'))) (k := 1) (new := eMc m') [] rfl rfl (by decide) (by unfold room; omega)
    have hL6' := hL6.bt.bt
    have ho6 := hL6'.cx.at (id := oid) (o := .box [I a1,I a2,sh,mh]) (by simp)
    have st7:stA 1 (.ptr oid 3) (.row id g 0 (done.length + 1)) (n0 :: lo) H6 = some (H6.set oid (.box [I a1,I a2,sh,.row id g 0 (done.length + 1)])) := stA_box ho6 rfl (by simp) rfl (okLv hlo' hL6'.geH _)
    have hL7 := hL6'.setBox (by intro q hq; simp at hq; subst hq; exact hne.symm) [I a1,I a2,sh,.row id g 0 (done.length + 1)]
    have w := wrapN (show j < 2 ^ 63 - 1 by omega)
    have ihe := ih (j + 1) (b && okM (on ats) m) _ _ (.row id g 0 (done.length + 1)) (done ++ [m']) (by omega) (by omega) (hQ.set _) (by
      simp only [List.nil_append,Bool.and_assoc] at hL7
      rw [List.length_append,List.flatMap_append]
      simpa [okM] using hL7) (by simp [hd]) hcs (by rw [List.length_append]; exact Can.row (by simp))
    have hrep:List.replicate 1 AObj.hole = [AObj.hole] := rfl
    rw [L58_18_eq]
    simp only [hlt,hi,x3,r4,r5,hrep,fldA_ptr,Nat.zero_add,x7,lf,r8,x10,x12,bu,fi,st,x17,lenA_sl,core]
    have k1' := k1
    simp only [Int.ofNat_eq_natCast,Int.natCast_zero] at k1'
    refine (congrArg _ rfl).trans (k1'.trans ?_)
    rw [L58_26_eq]
    simp only [Int.lt_irrefl,fldA_ptr,Nat.zero_add,y13,y14,e5,e6,st7,w,core]
    rw [List.set_set] at ihe
    rw [ihe,List.drop_eq_getElem_cons h,hm']
    simp only [List.all_cons,List.map_cons,Bool.and_assoc,List.append_assoc,List.cons_append,List.nil_append,hm2]
theorem S58 {lo:List Nat}(hlo:∀ l ∈ lo,l ≤ n0){oid rid xid:Nat}{a1 a2:Int}{x:ExD}(hS:x.Sm)(hne:oid ≠ rid)(hne2:oid ≠ xid) :
    ∀ (c i:Nat) (b:Bool) (H0 H:Heap) (sh:AV) (cs:List A_TSet),x.sets.length - i = c → i ≤ x.sets.length → QD tid fid pid tl ats b H0 →
    Lc n0 H0 H [(oid,.box [I a1,I a2,sh,.p nilS]),(rid,.box [I 0,I 0,.p nilS,.p nilS]),(xid,.box ((eEx x).map .p))] [(sh,2,cs.length,cs.flatMap enc_TSet)] → cs.length = i → Can sh cs.length →
      L58_8 [.ptr pid 0,.ptr xid 0,.ptr rid 0,.ptr oid 0,Rw enc_TSet x.sn x.st x.sets,I x.sets.length,I i] (n0 :: lo) H = some ([aG (eXc (a1,a2,cs ++ (x.sets.drop i).map (pS (on ats)),x.makes.map (pM (on ats))))],H0.set fid (.box [B (b && (((x.sets.drop i).all fun s => okV (on ats) s.2) && x.makes.all (okM (on ats))))])) := by
  intro c
  have hlo' := loAll hlo
  induction c with
  | zero =>
    intro i b H0 H sh cs hc hi hQ hL hcs hcan
    have:i = x.sets.length := by omega
    subst this
    have hb := hL.cx.at (id := xid) (o := .box ((eEx x).map .p)) (by simp)
    have y20:ld false 1 (.ptr xid 3) H = some (Rw eMk x.mn x.mt x.makes) := by rw [ld_box hb]; rfl
    have hL1 := (hL.fperm (fx' := [(oid,.box [I a1,I a2,sh,.p nilS]),(rid,.box [I 0,I 0,.p nilS,.p nilS])]) (fun q hq => by simp at hq ⊢; rcases hq with h | h <;> simp [h])).newNil 4
    have k2 := M58 (nl := x.mn) (tg := x.mt) hlo hS.makes hS.each hne x.makes.length 0 b H0 H (.p nilS) [] rfl (by omega) hQ hL1 rfl hcan Can.nil
    rw [L58_8_eq]
    simp only [Int.lt_irrefl,fldA_ptr,Nat.zero_add,y20,lenA_sl,core]
    refine Eq.trans ?_ (k2.trans ?_)
    · rfl
    · rw [List.drop_length,List.drop_zero]; simp only [List.all_nil,Bool.true_and,List.map_nil,List.append_nil,List.nil_append]
  | succ c ih =>
    intro i b H0 H sh cs hc hi hQ hL hcs hcan
    have h:i < x.sets.length := by omega
    have hlt:(i:Int) < x.sets.length := by omega
    obtain ⟨s,hs'⟩:∃ s,x.sets[i] = s := ⟨_,rfl⟩
    have hs62 := hS.sets
    have ix := idxR (enc := enc_TSet) (k := 2) (nl := x.sn) (tg := x.st) h
    have x3:∀ H,ld true 2 (.fp (x.sets.flatMap enc_TSet) (i * 2)) H = some (aG (enc_TSet s)) := fun H => by rw [ldR len_TSet h,hs']
    have r4:boxO [] [I 0,I 0] H = some (.ptr H.length 0,H ++ [.box ([Ia 0,Ia 0].map .p)]) := boxE [Ia 0,Ia 0] H
    have r5:stA 2 (.ptr H.length 0) (aG (enc_TSet s)) (n0 :: lo) (H ++ [.box ([Ia 0,Ia 0].map .p)]) = some (H ++ [.box ((enc_TSet s).map .p)]) := stEA rfl rfl (by decide)
    have hL1 := hL.newBox ((enc_TSet s).map .p)
    have hb1 := hL1.cx.at (id := H.length) (o := .box ((enc_TSet s).map .p)) (by simp)
    have ho1 := hL1.cx.at (id := oid) (o := .box [I a1,I a2,sh,.p nilS]) (by simp)
    have x7:ldN false 1 (.ptr oid 2) (H ++ [.box ((enc_TSet s).map .p)]) = some sh := ldN_ptr (by rw [ld_box ho1]; rfl) hL1.cx.hd.noB
    have x9:ldN false 1 (.ptr H.length 0) (H ++ [.box ((enc_TSet s).map .p)]) = some (I s.1) := ldN_ptr (by rw [ld_box hb1]; rfl) rfl
    have x11:ld false 1 (.ptr H.length 1) (H ++ [.box ((enc_TSet s).map .p)]) = some (I s.2) := by rw [ld_box hb1]; rfl
    have lf:ld false 1 (.ptr pid 0) (H ++ [.box ((enc_TSet s).map .p)]) = some (.fn 57 [] [.ptr tid 0,.ptr fid 0]) := by rw [ld_box (hQ.up hL1).fn]; rfl
    have r12 := call57b (hQ.up hL1) s.2 (n0 :: lo)
    have hL2 := hL1.lowSet hQ.box [B (b && okV (on ats) s.2)]
    generalize hH2:(H ++ [AObj.box ((enc_TSet s).map .p)]).set fid (.box [B (b && okV (on ats) s.2)]) = H2 at r12 hL2
    have bu:buildA [I 0,I 0] [(0,1,I s.1),(1,1,I (on ats s.2))] = some (aG (enc_TSet (pS (on ats) s))) := rfl
    have li:litA false 2 [aG (enc_TSet (pS (on ats) s))] H2 = some (.p (.sl (some false) true 1 (enc_TSet (pS (on ats) s))),H2) := rfl
    obtain ⟨o',H3,e15,hL3,id,g,rfl⟩ := hL2.app (bytes := 16) (y := .p (.sl (some false) true 1 (enc_TSet (pS (on ats) s)))) (k := 1) (new := enc_TSet (pS (on ats) s)) [] rfl rfl (by decide) (by unfold room; omega)
    have hL3' := hL3.bt
    have ho3 := hL3'.cx.at (id := oid) (o := .box [I a1,I a2,sh,.p nilS]) (by simp)
    have st:stA 1 (.ptr oid 2) (.row id g 0 (cs.length + 1)) (n0 :: lo) H3 = some (H3.set oid (.box [I a1,I a2,.row id g 0 (cs.length + 1),.p nilS])) := stA_box ho3 rfl (by simp) rfl (okLv hlo' hL3'.geH _)
    have hL4 := hL3'.setBox (by
      intro q hq
      simp at hq
      rcases hq with e | e <;> subst e
      · exact hne.symm
      · exact hne2.symm) [I a1,I a2,.row id g 0 (cs.length + 1),.p nilS]
    have w := wrapN (show i < 2 ^ 63 - 1 by omega)
    have ihe := ih (i + 1) (b && okV (on ats) s.2) _ _ (.row id g 0 (cs.length + 1)) (cs ++ [pS (on ats) s]) (by omega) (by omega) (hQ.set _) (by
      simp only [List.nil_append] at hL4
      rw [List.length_append,List.flatMap_append]
      simpa using hL4) (by simp [hcs]) (by rw [List.length_append]; exact Can.row (by simp))
    rw [L58_8_eq]
    simp only [hlt,ix,x3,r4,r5,fldA_ptr,Nat.zero_add,x7,x9,x11,lf,r12,bu,li,e15,st,w,core]
    rw [List.set_set] at ihe
    rw [ihe,List.drop_eq_getElem_cons h,hs']
    simp only [List.all_cons,List.map_cons,Bool.and_assoc,List.append_assoc,List.cons_append,List.nil_append]
theorem ent58 (hQ:QD tid fid pid tl ats b H){x:ExD}(hS:x.Sm){lo:List Nat}(hlo:∀ l ∈ lo,l ≤ H.length) :
    O.ent 58 [aG (eEx x),.ptr pid 0] lo H = some ([aG (eXc (pX (on ats) x))],H.set fid (.box [B (b && okX (on ats) x)])) := by
  have hL := ((Lc.start H).newBox ((eEx x).map .p)).newBox ([Ia 0,Ia 0,nilS,nilS].map .p)
  have hL1 := hL.newBox ([Ia x.at',Ia x.steps,nilS,nilS].map .p)
  generalize hHA:H ++ [AObj.box ((eEx x).map .p)] = HA at hL hL1
  have hlA:HA.length = H.length + 1 := by rw [← hHA]; simp
  have hbx := hL.cx.at (id := H.length) (o := .box ((eEx x).map .p)) (by simp)
  have r1:boxO [] (AV.cells (aG (eEx x))) H = some (.ptr H.length 0,HA) := by rw [← hHA]; exact boxAgg _ H
  have r2:boxO [] [I 0,I 0,.p nilS,.p nilS] HA = some (.ptr HA.length 0,HA ++ [.box ([Ia 0,Ia 0,nilS,nilS].map .p)]) := boxE [Ia 0,Ia 0,nilS,nilS] HA
  generalize hHB:HA ++ [AObj.box ([Ia 0,Ia 0,nilS,nilS].map .p)] = HB at hL hL1 r2 hbx
  have hlB:HB.length = H.length + 2 := by rw [← hHB]; simp [hlA]
  have x4:ld false 1 (.ptr H.length 0) HB = some (I x.at') := by rw [ld_box hbx]; rfl
  have x6:ld false 1 (.ptr H.length 1) HB = some (I x.steps) := by rw [ld_box hbx]; rfl
  have bu:buildA [I 0,I 0,.p nilS,.p nilS] [(0,1,I x.at'),(1,1,I x.steps)] = some (aG [Ia x.at',Ia x.steps,nilS,nilS]) := rfl
  have r8:boxO [] [I 0,I 0,.p nilS,.p nilS] HB = some (.ptr HB.length 0,HB ++ [.box ([Ia 0,Ia 0,nilS,nilS].map .p)]) := boxE [Ia 0,Ia 0,nilS,nilS] HB
  have st:stA 4 (.ptr HB.length 0) (aG [Ia x.at',Ia x.steps,nilS,nilS]) (H.length :: lo) (HB ++ [.box ([Ia 0,Ia 0,nilS,nilS].map .p)]) = some (HB ++ [.box ([Ia x.at',Ia x.steps,nilS,nilS].map .p)]) := stEA rfl rfl (by decide)
  have hbx1 := hL1.cx.at (id := H.length) (o := .box ((eEx x).map .p)) (by simp)
  have x11:ld false 1 (.ptr H.length 2) (HB ++ [.box ([Ia x.at',Ia x.steps,nilS,nilS].map .p)]) = some (Rw enc_TSet x.sn x.st x.sets) := by rw [ld_box hbx1]; rfl
  have k2 := S58 (a1 := x.at') (a2 := x.steps) hlo hS (oid := HB.length) (rid := HA.length) (xid := H.length) (by omega) (by omega) x.sets.length 0 b H _ (.p nilS) [] rfl (by omega) hQ (hL1.newNil 2) rfl Can.nil
  rw [f58_eq]
  simp only [r1,r2,fldA_ptr,Nat.zero_add,x4,x6,bu,r8,st,x11,lenA_sl,core]
  exact k2
abbrev TTz:List PV := [(.v (.int .i64 0)),(.v (.int .i64 0)),(.v (.int .i64 0)),nilS,nilS,(.v (.int .i64 0)),(.v (.int .i64 0)),nilS,nilS,(.v (.int .i64 0)),(.v (.int .i64 0)),nilS,nilS]
theorem call58 (hQ:QD tid fid pid tl ats b H){x:ExD}(hS:x.Sm){lo:List Nat}(hlo:∀ l ∈ lo,l ≤ H.length) :
    callA cfg O 58 [aG (eEx x),.ptr pid 0] lo H = some (aG (eXc (pX (on ats) x)),H.set fid (.box [B (b && okX (on ats) x)])) :=
  callA_10s (rs := [aG (eXc (pX (on ats) x))]) rfl hQ.box (hidden1 _ _) (ent58 hQ hS hlo) fun hh => ent58 (hQ.last hh _) hS (by simpa using hlo)
theorem call58b (hQ:QD tid fid pid tl ats b H){x:ExD}(hS:x.Sm){lo:List Nat}(hlo:∀ l ∈ lo,l ≤ H.length) :
    callC cfg O (some .bools) (.fn 58 [] [.ptr pid 0]) [aG (eEx x)] lo H = some (aG (eXc (pX (on ats) x)),H.set fid (.box [B (b && okX (on ats) x)])) := (callC_10 rfl).trans (call58 hQ hS hlo)
theorem call58p (hQ:QD tid fid pid tl ats b H){x:ExD}(hS:x.Sm){lo:List Nat}(hlo:∀ l ∈ lo,l ≤ H.length) :
    callC cfg O (some (.past TTz)) (.fn 58 [] [.ptr pid 0]) [aG (eEx x)] lo H = some (aG (eXc (pX (on ats) x)),H.set fid (.box [B (b && okX (on ats) x)])) := (callC_10 (by kernel_rfl)).trans (call58 hQ hS hlo)
end Ir
end Go.Proofs.YtnjfpnoamgipjaaDoor
set_option linter.unusedVariables false
set_option linter.unusedSimpArgs false
set_option linter.unusedSectionVars false
set_option maxRecDepth 100000
namespace Go.Proofs.YtnjfpnoamgipjaaDoor
open Go Go.AM
namespace Ir
variable {cid:Nat}{ah:AV}{ats:List Int}{b:Bool}{H H0:Heap}{n0:Nat}{fx:List (Nat × AObj)}{ls:List Ll}
def argI (x:A_TIns):Nat → Int
  | 0 => x.2.1
  | 1 => x.2.2.1
  | _ => x.2.2.2.1
def putI (x:A_TIns)(v:Int):Nat → A_TIns
  | 0 => (x.1,v,x.2.2)
  | 1 => (x.1,x.2.1,v,x.2.2.2)
  | _ => (x.1,x.2.1,x.2.2.1,v,x.2.2.2.2)
def insK (pl:Int → Int)(x:A_TIns):Nat → A_TIns
  | 0 => x
  | k + 1 => putI (insK pl x k) (pl (argI x k)) k
def okK (pl:Int → Int)(x:A_TIns):Nat → Bool
  | 0 => true
  | k + 1 => okK pl x k && okV pl (argI x k)
def insM (pl:Int → Int)(x:A_TIns):A_TIns := insK pl x (vals x.1).toNat
def okI (pl:Int → Int)(x:A_TIns):Bool := okK pl x (vals x.1).toNat
theorem put_enc (x:A_TIns)(v:Int){i:Nat}(h:i < 3):enc_TIns (putI x v i) = (enc_TIns x).set (1 + i) (Ia v) := by
  match i,h with
  | 0,_ => rfl
  | 1,_ => rfl
  | 2,_ => rfl
theorem arg_enc (x:A_TIns){i:Nat}(h:i < 3):(enc_TIns x)[1 + i]? = some (Ia (argI x i)) := by
  match i,h with
  | 0,_ => rfl
  | 1,_ => rfl
  | 2,_ => rfl
theorem argK (pl:Int → Int)(x:A_TIns){k:Nat}(h:k < 3):argI (insK pl x k) k = argI x k := by
  match k,h with
  | 0,_ => rfl
  | 1,_ => rfl
  | 2,_ => rfl
theorem I55 {lo:List Nat}(hlo:∀ l ∈ lo,l ≤ n0){xid rid fid aid:Nat}{x:A_TIns}{k:Nat}(hk:k ≤ 3)(hd1:xid ≠ rid)(hd2:xid ≠ aid) :
    ∀ (c i:Nat) (b:Bool) (H0 H:Heap),k - i = c → i ≤ k → QP cid ah ats b H0 → Lc n0 H0 H [(xid,.box ((enc_TIns (insK (on ats) x i)).map .p)),(rid,.box ([Ia 0,Ia 0,Ia 0,Ia 0,Ia 0,Ia 0,Ia 0,Ia 0].map .p)),(aid,.box [.ptr xid 1,.ptr xid 2,.ptr xid 3])] [] → okK (on ats) x i = true ∨ True →
    ∃ (b':Bool) (H0' H':Heap),(b' = (b && (List.range' i (k - i)).all fun j => okV (on ats) (argI x j))) ∧ H0' = H0.set cid (.box [ah,B b']) ∧ L55_12 [.ptr cid 0,.ptr xid 0,.ptr rid 0,.bsl aid k,I k,I i] lo H = L55_21 [.ptr xid 0,.ptr rid 0] lo H' ∧
      Lc n0 H0' H' [(xid,.box ((enc_TIns (insK (on ats) x k)).map .p)),(rid,.box ([Ia 0,Ia 0,Ia 0,Ia 0,Ia 0,Ia 0,Ia 0,Ia 0].map .p)),(aid,.box [.ptr xid 1,.ptr xid 2,.ptr xid 3])] [] := by
  intro c
  induction c with
  | zero =>
    intro i b H0 H hc hi hQ hL _
    have:i = k := by omega
    subst this
    refine ⟨b,_,H,by simp,rfl,?_,?_⟩
    · rw [L55_12_eq]
      simp only [Int.lt_irrefl,core]
    · rw [set_same hQ.box]; exact hL
  | succ c ih =>
    intro i b H0 H hc hi hQ hL _
    have hlt:(i:Int) < k := by omega
    have h3:i < 3 := by omega
    have ha := hL.cx.at (id := aid) (o := .box [.ptr xid 1,.ptr xid 2,.ptr xid 3]) (by simp)
    have hx := hL.cx.at (id := xid) (o := .box ((enc_TIns (insK (on ats) x i)).map .p)) (by simp)
    have x2:idxA 1 (.bsl aid k) (I i) = some (.ptr aid i) := by
      simp only [idxA]
      rw [if_pos ⟨by omega,hlt⟩]
      simp
    have x3:ld false 1 (.ptr aid i) H = some (.ptr xid (1 + i)) := by
      rw [ld_box ha]
      match i,h3 with
      | 0,_ => rfl
      | 1,_ => rfl
      | 2,_ => rfl
    have x5:ld false 1 (.ptr xid (1 + i)) H = some (I (argI x i)) := by
      rw [ld_box hx,List.getElem?_map,arg_enc _ h3,argK _ _ h3]; rfl
    have r6 := call110 (hQ.up hL) (argI x i) lo
    have hL1 := hL.lowSet hQ.box [ah,B (b && okV (on ats) (argI x i))]
    generalize hH1:H.set cid (.box [ah,B (b && okV (on ats) (argI x i))]) = H1 at r6 hL1
    have hx1 := hL1.cx.at (id := xid) (o := .box ((enc_TIns (insK (on ats) x i)).map .p)) (by simp)
    have st:stA 1 (.ptr xid (1 + i)) (I (on ats (argI x i))) lo H1 = some (H1.set xid (.box ((enc_TIns (insK (on ats) x (i + 1))).map .p))) := by
      have := stA_box (y := I (on ats (argI x i))) (n := 1) (off := 1 + i) (lo := lo) hx1 rfl (by simp only [List.length_map,len_TIns8]; omega) rfl (okLv hlo hL1.geH _) (by simp [len_TIns8])
      rw [this]
      show some (H1.set xid (.box (((enc_TIns (insK (on ats) x i)).map .p).set (1 + i) (.p (Ia (on ats (argI x i))))))) = _
      rw [← List.map_set,insK,put_enc _ _ h3]
    have hL2 := hL1.setBox (by
      intro q hq
      simp at hq
      rcases hq with e | e <;> subst e
      · exact hd1.symm
      · exact hd2.symm) ((enc_TIns (insK (on ats) x (i + 1))).map .p)
    have w := wrapN (show i < 2 ^ 63 - 1 by omega)
    obtain ⟨b',H0',H',k1,k2,k3,k4⟩ := ih (i + 1) (b && okV (on ats) (argI x i)) _ _ (by omega) (by omega) (hQ.set _) hL2 (.inr trivial)
    refine ⟨b',H0',H',?_,?_,?_,k4⟩
    · rw [k1,show k - i = (k - (i + 1)) + 1 by omega,List.range'_succ,List.all_cons,Bool.and_assoc]
    · rw [k2,List.set_set]
    · rw [← k3,L55_12_eq]
      simp only [hlt,x2,x3,x5,nilc,r6,st,w,core]
theorem okK_range (pl:Int → Int)(x:A_TIns):∀ k,(List.range' 0 k).all (fun j => okV pl (argI x j)) = okK pl x k
  | 0 => rfl
  | k + 1 => by rw [List.range'_concat,List.all_append,okK_range pl x k,okK]; simp
theorem call55 (hQ:QP cid ah ats b H)(x:A_TIns){lo:List Nat}(hlo:∀ l ∈ lo,l ≤ H.length) :
    callA cfg O 55 [.ptr cid 0,tiV x] lo H = some (tiV (insM (on ats) x),H.set cid (.box [ah,B (b && okI (on ats) x)])) := by
  refine callA_7s (rs := [tiV (insM (on ats) x)]) rfl hQ.box (hidden _ _ _) ?_
  have hlo' := loAll hlo
  obtain ⟨a0,a3⟩ := asks_le x.1
  obtain ⟨k,hk⟩:∃ k:Nat,(fmOf x.1).1 = k := ⟨(fmOf x.1).1.toNat,by omega⟩
  have hkv:(vals x.1).toNat = k := by rw [← asks_vals,hk]; rfl
  have hk3:k ≤ 3 := by omega
  have r1:boxO [] (AV.cells (tiV x)) H = some (.ptr H.length 0,H ++ [.box ((enc_TIns x).map .p)]) := boxAgg _ H
  have hL := (Lc.start H).newBox ((enc_TIns x).map .p)
  generalize hHA:H ++ [AObj.box ((enc_TIns x).map .p)] = HA at r1 hL
  have lA:HA.length = H.length + 1 := by rw [← hHA]; simp
  have r2 := box8 HA
  have hL2 := hL.newBox ([Ia 0,Ia 0,Ia 0,Ia 0,Ia 0,Ia 0,Ia 0,Ia 0].map .p)
  generalize hHB:HA ++ [AObj.box ([Ia 0,Ia 0,Ia 0,Ia 0,Ia 0,Ia 0,Ia 0,Ia 0].map .p)] = HB at r2 hL2
  have lB:HB.length = H.length + 2 := by rw [← hHB]; simp [lA]
  have hx := hL2.cx.at (id := H.length) (o := .box ((enc_TIns x).map .p)) (by simp)
  have x4:ld false 1 (.ptr H.length 0) HB = some (I x.1) := by rw [ld_box hx]; rfl
  have r5 := call40 x.1 (H.length :: lo) HB
  have r8 := box6 HB
  have r9 := st6 (fmOf x.1) (H.length :: lo) HB
  have hL3 := hL2.newBox ((eFm (fmOf x.1)).map .p)
  generalize hHC:HB ++ [AObj.box ((eFm (fmOf x.1)).map .p)] = HC at r9 hL3
  have lC:HC.length = H.length + 3 := by rw [← hHC]; simp [lB]
  have bu:buildA [(.p (.v (.pointer none))),(.p (.v (.pointer none))),(.p (.v (.pointer none)))] [(0,1,.ptr H.length 1),(1,1,.ptr H.length 2),(2,1,.ptr H.length 3)] = some (.agg [.ptr H.length 1,.ptr H.length 2,.ptr H.length 3]) := rfl
  have r14:boxO [] [(.p (.v (.pointer none))),(.p (.v (.pointer none))),(.p (.v (.pointer none)))] HC = some (.ptr HC.length 0,HC ++ [.box ([.v (.pointer none),.v (.pointer none),.v (.pointer none)].map .p)]) := boxO_p [.v (.pointer none),.v (.pointer none),.v (.pointer none)] HC
  have hL4 := hL3.newBox ([PV.v (.pointer none),.v (.pointer none),.v (.pointer none)].map .p)
  have r15 := stEx hlo' hL4.geH (hL4.cx.at (id := HC.length) (o := .box ([PV.v (.pointer none),.v (.pointer none),.v (.pointer none)].map .p)) (by simp)) rfl (ys := [.ptr H.length 1,.ptr H.length 2,.ptr H.length 3]) (n := 3) rfl (by decide) rfl
  have hL5 := hL4.setBox (by
    intro q hq
    simp at hq
    rcases hq with e | e | e <;> subst e <;> simp only <;> omega) [.ptr H.length 1,.ptr H.length 2,.ptr H.length 3]
  generalize hHD:(HC ++ [AObj.box ([PV.v (.pointer none),.v (.pointer none),.v (.pointer none)].map .p)]).set HC.length (.box [.ptr H.length 1,.ptr H.length 2,.ptr H.length 3]) = HD at r15 hL5
  have hf5 := hL5.cx.at (id := HB.length) (o := .box ((eFm (fmOf x.1)).map .p)) (by simp)
  have ha5 := hL5.cx.at (id := HC.length) (o := .box [.ptr H.length 1,.ptr H.length 2,.ptr H.length 3]) (by simp)
  have x17:ld false 1 (.ptr HB.length 0) HD = some (I k) := by rw [ld_box hf5,← hk]; rfl
  have x18:cutArr 1 3 (.ptr HC.length 0) none (some (I k)) HD = some (.bsl HC.length k) := by
    simp only [cutArr,ha5]
    have e1:bnd 0 none = some 0 := rfl
    have e2:bnd 3 (some (I k)) = some (k:Int) := rfl
    rw [e1,e2]
    simp only [obs]
    rw [if_pos ⟨trivial,trivial,by simp,by omega,by omega,by omega,by omega⟩,Int.toNat_natCast]
  have hL6 := hL5.fperm (fx' := [(H.length,.box ((enc_TIns x).map .p)),(HA.length,.box ([Ia 0,Ia 0,Ia 0,Ia 0,Ia 0,Ia 0,Ia 0,Ia 0].map .p)),(HC.length,.box [.ptr H.length 1,.ptr H.length 2,.ptr H.length 3])]) (fun q hq => by simp at hq ⊢; rcases hq with h | h | h <;> simp [h])
  -- the end
  have fin:∀ (H0 H':Heap) (y:A_TIns),H0.length = H.length → Lc H.length H0 H' [(H.length,.box ((enc_TIns y).map .p)),(HA.length,.box ([Ia 0,Ia 0,Ia 0,Ia 0,Ia 0,Ia 0,Ia 0,Ia 0].map .p)),(HC.length,.box [.ptr H.length 1,.ptr H.length 2,.ptr H.length 3])] [] →
      L55_21 [.ptr H.length 0,.ptr HA.length 0] (H.length :: lo) H' = some ([tiV y],H0) := by
    intro H0 H' y hl0 hL
    have hy := hL.cx.at (id := H.length) (o := .box ((enc_TIns y).map .p)) (by simp)
    have hr := hL.cx.at (id := HA.length) (o := .box ([Ia 0,Ia 0,Ia 0,Ia 0,Ia 0,Ia 0,Ia 0,Ia 0].map .p)) (by simp)
    have x1:ld true 8 (.ptr H.length 0) H' = some (tiV y) := by rw [ldAgg_box hy (by simp [len_TIns8]) (by simp [len_TIns8])]; rfl
    have st := stEx hlo' (hL.ge (id := HA.length) (.box ([Ia 0,Ia 0,Ia 0,Ia 0,Ia 0,Ia 0,Ia 0,Ia 0].map .p)) (by simp)) hr rfl (ys := (enc_TIns y).map .p) (n := 8) (by simp [len_TIns8]) (by decide) (leaves_p _)
    have hrs:(H'.set HA.length (.box ((enc_TIns y).map .p)))[HA.length]? = some (.box ((enc_TIns y).map .p)) := List.getElem?_set_self (getElem?_lt hr)
    have x4:ld true 8 (.ptr HA.length 0) (H'.set HA.length (.box ((enc_TIns y).map .p))) = some (tiV y) := by rw [ldAgg_box hrs (by simp [len_TIns8]) (by simp [len_TIns8])]; rfl
    have hL1 := (hL.fperm (fx' := [(HA.length,.box ([Ia 0,Ia 0,Ia 0,Ia 0,Ia 0,Ia 0,Ia 0,Ia 0].map .p))]) (fun q hq => by simp at hq ⊢; simp [hq])).setBox (fun q hq => by cases hq) ((enc_TIns y).map .p)
    have fz:frzA (H'.set HA.length (.box ((enc_TIns y).map .p))) (tiV y) = some (.agg ((enc_TIns y).map .p),H'.set HA.length (.box ((enc_TIns y).map .p))) := rfl
    have lv := (leave7A (lo := lo) (n0 := H.length) fz).1
    rw [hL1.take] at lv
    rw [L55_21_eq]
    simp only [x1,st,x4,lv,core]
  rw [f55_eq]
  simp only [r1,r2,fldA_ptr,Nat.zero_add,x4,r5,extractA_tup,List.getElem?_cons_zero,List.getElem?_cons_succ,r8,r9,bu,r14,r15,x17,x18,core]
  have lb:lenA .slice (.bsl HC.length k) HD = some (I k) := rfl
  cases ho:isOp x.1 with
  | true =>
    obtain ⟨b',H0',H',k1,rfl,k3,k4⟩ := I55 (x := x) hlo' hk3 (xid := H.length) (rid := HA.length) (fid := 0) (aid := HC.length) (by omega) (by omega) k 0 b H HD rfl (by omega) hQ hL6 (.inr trivial)
    rw [Nat.sub_zero,okK_range] at k1
    subst k1
    simp only [lb,core]
    refine k3.trans ((fin _ _ _ (by simp) k4).trans ?_)
    rw [insM,okI,hkv]
  | false =>
    have hk0:k = 0 := by
      have:fmOf x.1 = fm0 := by
        rw [fmOf,if_neg]
        intro hh
        rw [isOp,decide_eq_true hh] at ho
        cases ho
      rw [this] at hk
      exact (Int.ofNat.inj hk).symm
    subst hk0
    simp only [core]
    refine (fin H _ x rfl hL6).trans ?_
    rw [insM,okI,hkv]
    show _ = some ([tiV x],H.set cid (.box [ah,B (b && true)]))
    rw [Bool.and_true,set_same hQ.box]
end Ir
end Go.Proofs.YtnjfpnoamgipjaaDoor
set_option linter.unusedVariables false
set_option linter.unusedSimpArgs false
set_option linter.unusedSectionVars false
set_option maxRecDepth 100000
namespace Go.Proofs.YtnjfpnoamgipjaaDoor
open Go Go.AM
namespace Ir
def keptL (pl:Int → Int)(to:List Int)(ins:List A_TIns):Nat → List A_TIns
  | 0 => []
  | i + 1 => keptL pl to ins i ++ (match ins[i]? with | some x => if keptI to i = true then [insM pl x] else [] | none => [])
def okL (pl:Int → Int)(to:List Int)(ins:List A_TIns):Nat → Bool
  | 0 => true
  | i + 1 => okL pl to ins i && (match ins[i]? with | some x => !keptI to i || okI pl x | none => true)
theorem keptL_len (pl:Int → Int)(to:List Int)(ins:List A_TIns):∀ i,i ≤ ins.length → (keptL pl to ins i).length = cnt to i
  | 0,_ => rfl
  | i + 1,h => by
    rw [keptL,List.length_append,keptL_len pl to ins i (by omega),cnt,List.getElem?_eq_getElem (by omega)]
    simp only
    cases keptI to i <;> rfl
theorem keptL_le (pl:Int → Int)(to:List Int)(ins:List A_TIns){i:Nat}(h:i ≤ ins.length):(keptL pl to ins i).length ≤ i := by
  rw [keptL_len pl to ins i h]; exact cnt_le to i
def lpO (to:List Int)(L:Int)(i:Nat):Int := if 0 ≤ L ∧ L < i then cnt to L.toNat else 0
def kT (c:TrC):TrD := ⟨c.fn,c.at',c.loop,cN c.ins.length,cT c.ins.length,c.ins,cN c.exits.length,cT c.exits.length,c.exits.map kX,kX c.turn,kX c.back⟩
def eTc (c:TrC):List PV := eTr (kT c)
theorem eTc_eq (c:TrC):eTc c = [Ia c.fn,Ia c.at',Ia c.loop,.sl (cN c.ins.length) (cT c.ins.length) c.ins.length (c.ins.flatMap enc_TIns),.sl (cN c.exits.length) (cT c.exits.length) c.exits.length (c.exits.flatMap eXc)] ++ eXc c.turn ++ eXc c.back := by
  simp only [eTc,eTr,kT,List.length_map,List.flatMap_map]
  rfl
def zeroC:TrC := ⟨0,0,0,[],[],(0,0,[],[]),(0,0,[],[])⟩
def cutC (t:TrD)(to:List Int):TrC :=
  ⟨t.fn,t.at',cnt to (min t.loop.toNat t.ins.length),keptL (on (atN to t.ins.length)) to t.ins t.ins.length,t.exits.map (pX (on (atN to t.ins.length))),pX (on (atN to t.ins.length)) t.turn,pX (on (atN to t.ins.length)) t.back⟩
def cutOk (t:TrD)(to:List Int):Bool :=
  ((okL (on (atN to t.ins.length)) to t.ins t.ins.length && t.exits.all (okX (on (atN to t.ins.length)))) && okX (on (atN to t.ins.length)) t.turn) && okX (on (atN to t.ins.length)) t.back
def Ahead (ins:List A_TIns):Prop := ∀ (i:Nat) x,ins[i]? = some x → ∀ j,j < (vals x.1).toNat → argI x j ≤ i
theorem insK_congr {p q:Int → Int}(x:A_TIns):∀ k,(∀ j,j < k → p (argI x j) = q (argI x j)) → insK p x k = insK q x k
  | 0,_ => rfl
  | k + 1,h => by rw [insK,insK,insK_congr x k (fun j hj => h j (by omega)),h k (by omega)]
theorem okK_congr {p q:Int → Int}(x:A_TIns):∀ k,(∀ j,j < k → p (argI x j) = q (argI x j)) → okK p x k = okK q x k
  | 0,_ => rfl
  | k + 1,h => by rw [okK,okK,okK_congr x k (fun j hj => h j (by omega)),okV,okV,h k (by omega)]
abbrev z13:List PV := [Ia 0,Ia 0,Ia 0,nilS,nilS,Ia 0,Ia 0,nilS,nilS,Ia 0,Ia 0,nilS,nilS]
def oB (t:TrD)(lp:Int)(ih:AV):List AV := [I t.fn,I t.at',I lp,ih,.p nilS,I 0,I 0,.p nilS,.p nilS,I 0,I 0,.p nilS,.p nilS]
variable {t:TrD}{to:List Int}
abbrev plT (t:TrD)(to:List Int):Int → Int := on (atN to t.ins.length)
structure S24 (t:TrD)(to:List Int)(i:Nat)(H:Heap)(ah ih:AV):Prop where
  lc:Lc 0 [] H [(3,.box (oB t (lpO to t.loop i) ih)),(2,.box [ah,B (okL (plT t to) to t.ins i)]),(0,.box ((eTr t).map .p)),(1,.box (z13.map .p))]
    [(ah,1,(atN to i).length,(atN to i).map Ia),(ih,8,(keptL (plT t to) to t.ins i).length,(keptL (plT t to) to t.ins i).flatMap enc_TIns)]
  can:Can ih (keptL (plT t to) to t.ins i).length
theorem lpO_succ (to:List Int)(L:Int)(i:Nat):lpO to L (i + 1) = if (i:Int) = L then (cnt to i:Int) else lpO to L i := by
  unfold lpO
  by_cases e:(i:Int) = L
  · subst e
    rw [if_pos ⟨by omega,by omega⟩,if_pos rfl,Int.toNat_natCast]
  · rw [if_neg e]
    by_cases h:0 ≤ L ∧ L < i
    · rw [if_pos h,if_pos ⟨h.1,by omega⟩]
    · rw [if_neg h,if_neg (by omega)]
theorem litP (xs:List PV){sz:Nat}(h:xs.length = sz)(H:Heap):litA false sz [.agg (xs.map .p)] H = some (.p (.sl (some false) true 1 xs),H) := by
  have h1:toPVs H (xs.map .p) = some (xs,H) := by
    clear h
    induction xs with
    | nil => rfl
    | cons x xs ih =>
      rw [List.map_cons]
      show (toPV H (.p x)).bind _ = _
      show (toPVs H (xs.map .p)).map _ = _
      rw [ih]; rfl
  have h2:litCells sz [.agg (xs.map .p)] = xs.map .p := by
    show AV.cells _ ++ [] = _
    rw [List.append_nil]; rfl
  unfold litA
  rw [h2,h1,if_pos (by simp [AV.cells,h])]
  rfl
variable (ht:t.Sm) (hn:to.length = t.ins.length) (hA:Ahead t.ins)
include ht hn hA
theorem G24 {nl:Option Bool}{tg:Bool}{i:Nat}{H:Heap}{ah ih:AV}(h:S24 t to i H ah ih)(hi:i < t.ins.length){tv:Int}(hto:to[i]? = some tv)(hok:-1 ≤ tv ∧ tv ≤ i) :
    ∃ H' ah' ih',S24 t to (i + 1) H' ah' ih' ∧ L24_14 [V nl tg to,.ptr 0 0,.ptr 1 0,.ptr 2 0,.ptr 3 0,Rw enc_TIns t.iN t.iT t.ins,I t.ins.length,I i] [] H =
      L24_14 [V nl tg to,.ptr 0 0,.ptr 1 0,.ptr 2 0,.ptr 3 0,Rw enc_TIns t.iN t.iT t.ins,I t.ins.length,I ((i + 1:Nat):Int)] [] H' := by
  have hs := ht.ins
  have hlt:(i:Int) < t.ins.length := by omega
  obtain ⟨x,hx⟩:∃ x,t.ins[i] = x := ⟨_,rfl⟩
  have hx?:t.ins[i]? = some x := by rw [List.getElem?_eq_getElem hi,hx]
  have hL := h.lc
  have h3 := getElem?_lt (hL.cx.at (id := 3) (o := .box (oB t (lpO to t.loop i) ih)) (by simp))
  have x2 := idxR (enc := enc_TIns) (k := 8) (nl := t.iN) (tg := t.iT) hi
  have x3:ld true 8 (.fp (t.ins.flatMap enc_TIns) (i * 8)) H = some (tiV x) := by rw [ldR len_TIns8 hi,hx]
  have r4 := box8 H
  have r5 := st8 x [] H
  have hL1 := hL.newBox ((enc_TIns x).map .p)
  generalize hHA:H ++ [AObj.box ((enc_TIns x).map .p)] = HA at r5 hL1
  have ht0 := hL1.cx.at (id := 0) (o := .box ((eTr t).map .p)) (by simp)
  have ho0 := hL1.cx.at (id := 3) (o := .box (oB t (lpO to t.loop i) ih)) (by simp)
  have x7:ld false 1 (.ptr 0 2) HA = some (I t.loop) := by rw [ld_box ht0]; rfl
  have x10:ld false 1 (.ptr 3 3) HA = some ih := by rw [ld_box ho0]; rfl
  have hlen := (hL1.cx.lst (ih,8,(keptL (plT t to) to t.ins i).length,(keptL (plT t to) to t.ins i).flatMap enc_TIns) (by simp)).len HA
  have klen := keptL_len (plT t to) to t.ins i (by omega)
  have st12:stA 1 (.ptr 3 2) (I (keptL (plT t to) to t.ins i).length) [] HA = some (HA.set 3 (.box (oB t (keptL (plT t to) to t.ins i).length ih))) := stA_box ho0 rfl (by simp [oB]) rfl rfl (by simp [oB])
  -- the loop's place
  obtain ⟨HB,e1,hLB⟩:∃ HB,L24_14 [V nl tg to,.ptr 0 0,.ptr 1 0,.ptr 2 0,.ptr 3 0,Rw enc_TIns t.iN t.iT t.ins,I t.ins.length,I i] [] H =
      L24_23 [V nl tg to,.ptr 0 0,.ptr 1 0,.ptr 2 0,.ptr 3 0,I i,.ptr H.length 0,Rw enc_TIns t.iN t.iT t.ins,I t.ins.length,I i] [] HB ∧
      Lc 0 [] HB [(3,.box (oB t (lpO to t.loop (i + 1)) ih)),(2,.box [ah,B (okL (plT t to) to t.ins i)]),(H.length,.box ((enc_TIns x).map .p)),(0,.box ((eTr t).map .p)),(1,.box (z13.map .p))]
        [(ah,1,(atN to i).length,(atN to i).map Ia),(ih,8,(keptL (plT t to) to t.ins i).length,(keptL (plT t to) to t.ins i).flatMap enc_TIns)] := by
    have hL2 := hL1.fperm (fx' := [(3,.box (oB t (lpO to t.loop i) ih)),(2,.box [ah,B (okL (plT t to) to t.ins i)]),(H.length,.box ((enc_TIns x).map .p)),(0,.box ((eTr t).map .p)),(1,.box (z13.map .p))]) (fun q hq => by simp only [List.mem_cons,List.not_mem_nil,or_false] at hq ⊢; rcases hq with h | h | h | h | h <;> simp [h])
    rw [L24_14_eq,lpO_succ]
    by_cases e:(i:Int) = t.loop
    · refine ⟨HA.set 3 (.box (oB t (keptL (plT t to) to t.ins i).length ih)),?_,?_⟩
      · simp only [hlt,x2,x3,r4,r5,fldA_ptr,Nat.zero_add,x7,decide_eq_true e,x10,hlen,st12,core]
      · rw [if_pos e,← klen]
        exact hL2.setBox (by
          intro q hq
          simp only [List.mem_cons,List.not_mem_nil,or_false] at hq
          rcases hq with h | h | h | h <;> subst h <;> simp only <;> omega) _
    · refine ⟨HA,?_,?_⟩
      · simp only [hlt,x2,x3,r4,r5,fldA_ptr,Nat.zero_add,x7,decide_eq_false e,core]
      · rw [if_neg e]; exact hL2
  have hj:i < to.length := by omega
  have htv:to[i] = tv := by rw [List.getElem?_eq_getElem hj] at hto; exact Option.some.inj hto
  have y1 := idxV (nl := nl) (tg := tg) hj
  have y2:ld false 1 (.fp (to.map Ia) i) HB = some (I tv) := by rw [ldV hj,htv]
  have hc2 := hLB.cx.at (id := 2) (o := .box [ah,B (okL (plT t to) to t.ins i)]) (by simp)
  have ho2 := hLB.cx.at (id := 3) (o := .box (oB t (lpO to t.loop (i + 1)) ih)) (by simp)
  have y6:ld false 1 (.ptr 2 0) HB = some ah := by rw [ld_box hc2]; rfl
  have y6S:ldS false 1 (.ptr 2 0) HB = some ah := by rw [ldS_ptr]; exact y6
  have y8:ld false 1 (.ptr 3 3) HB = some ih := by rw [ld_box ho2]; rfl
  have w := wrapN (show i < 2 ^ 63 - 1 by omega)
  have lenA' := atN_len to i
  -- a place is put
  have put:∀ p:Int,nx to (atN to i) i = p → ∃ (ah':AV) (HC:Heap),appA 1 8 ah (.p (.sl (some false) true 1 [Ia p])) HB = some (ah',HC) ∧
      ∃ HD,stA 1 (.ptr 2 0) ah' [] HC = some HD ∧
      Lc 0 [] HD [(3,.box (oB t (lpO to t.loop (i + 1)) ih)),(2,.box [ah',B (okL (plT t to) to t.ins i)]),(H.length,.box ((enc_TIns x).map .p)),(0,.box ((eTr t).map .p)),(1,.box (z13.map .p))]
        [(ah',1,(atN to (i + 1)).length,(atN to (i + 1)).map Ia),(ih,8,(keptL (plT t to) to t.ins i).length,(keptL (plT t to) to t.ins i).flatMap enc_TIns)] := by
    intro p hp
    obtain ⟨ah',HC,e,hLC,id,g,rfl⟩ := hLB.app (bytes := 8) (y := .p (.sl (some false) true 1 [Ia p])) (k := 1) (new := [Ia p]) [] rfl rfl (by decide) (by unfold room; omega)
    have hcC := hLC.cx.at (id := 2) (o := .box [ah,B (okL (plT t to) to t.ins i)]) (by simp)
    have st:stA 1 (.ptr 2 0) (.row id g 0 ((atN to i).length + 1)) [] HC = some (HC.set 2 (.box [.row id g 0 ((atN to i).length + 1),B (okL (plT t to) to t.ins i)])) := stA_box hcC rfl (by simp) rfl rfl
    have hLD := (hLC.fperm (fx' := [(2,.box [ah,B (okL (plT t to) to t.ins i)]),(3,.box (oB t (lpO to t.loop (i + 1)) ih)),(H.length,.box ((enc_TIns x).map .p)),(0,.box ((eTr t).map .p)),(1,.box (z13.map .p))]) (fun q hq => by simp only [List.mem_cons,List.not_mem_nil,or_false] at hq ⊢; rcases hq with h | h | h | h | h <;> simp [h])).setBox (by
          intro q hq
          simp only [List.mem_cons,List.not_mem_nil,or_false] at hq
          rcases hq with h | h | h | h <;> subst h <;> simp only <;> omega) [.row id g 0 ((atN to i).length + 1),B (okL (plT t to) to t.ins i)]
    refine ⟨_,HC,e,_,st,?_⟩
    have hLE := hLD.fperm (fx' := [(3,.box (oB t (lpO to t.loop (i + 1)) ih)),(2,.box [.row id g 0 ((atN to i).length + 1),B (okL (plT t to) to t.ins i)]),(H.length,.box ((enc_TIns x).map .p)),(0,.box ((eTr t).map .p)),(1,.box (z13.map .p))]) (fun q hq => by simp only [List.mem_cons,List.not_mem_nil,or_false] at hq ⊢; rcases hq with h | h | h | h | h <;> simp [h])
    rw [atN,hp,List.length_append,List.map_append]
    exact hLE
  by_cases ek:tv = (i:Int)
  · -- kept
    have hkp:keptI to i = true := by rw [keptI,hto]; simp [ek]
    have hnx:nx to (atN to i) i = (keptL (plT t to) to t.ins i).length := by rw [nx,hto,klen]; simp [ek]
    obtain ⟨ah',HC,p1,HD,p2,hLD⟩ := put _ hnx
    have hQ:QP 2 ah' (atN to (i + 1)) (okL (plT t to) to t.ins i) HD :=
      ⟨hLD.cx.at (by simp),hLD.cx.hd,atN_low to _,by rw [atN_len]; omega⟩
    have hoD := hLD.cx.at (id := 3) (o := .box (oB t (lpO to t.loop (i + 1)) ih)) (by simp)
    have hxD := hLD.cx.at (id := H.length) (o := .box ((enc_TIns x).map .p)) (by simp)
    have z16:ldN false 1 (.ptr 3 3) HD = some ih := ldN_ptr (by rw [ld_box hoD]; rfl) (hLD.cx.lst (ih,8,(keptL (plT t to) to t.ins i).length,(keptL (plT t to) to t.ins i).flatMap enc_TIns) (by simp)).noB
    have z17:ld true 8 (.ptr H.length 0) HD = some (tiV x) := by rw [ldAgg_box hxD (by simp [len_TIns8]) (by simp [len_TIns8])]; rfl
    have z18 := call55 hQ x (lo := []) (by simp)
    have cg:∀ j,j < (vals x.1).toNat → on (atN to (i + 1)) (argI x j) = plT t to (argI x j) := fun j hj => (on_lt to (by have := hA i x hx? j hj; omega) (by omega)).symm
    rw [show insM (on (atN to (i + 1))) x = insM (plT t to) x from insK_congr x _ cg,show okI (on (atN to (i + 1))) x = okI (plT t to) x from okK_congr x _ cg] at z18
    have hLE := (hLD.fperm (fx' := [(2,.box [ah',B (okL (plT t to) to t.ins i)]),(3,.box (oB t (lpO to t.loop (i + 1)) ih)),(0,.box ((eTr t).map .p)),(1,.box (z13.map .p))]) (fun q hq => by simp only [List.mem_cons,List.not_mem_nil,or_false] at hq ⊢; rcases hq with h | h | h | h <;> simp [h])).setBox (by
          intro q hq
          simp only [List.mem_cons,List.not_mem_nil,or_false] at hq
          rcases hq with h | h | h <;> subst h <;> simp only <;> omega) [ah',B (okL (plT t to) to t.ins i && okI (plT t to) x)]
    generalize hHE:HD.set 2 (.box [ah',B (okL (plT t to) to t.ins i && okI (plT t to) x)]) = HE at z18 hLE
    have z19 := litP (enc_TIns (insM (plT t to) x)) (len_TIns8 _) HE
    have kle := keptL_le (plT t to) to t.ins (i := i) (by omega)
    obtain ⟨ih',HF,z20,hLF,id,g,rfl⟩ := (hLE.perm (ls' := [(ih,8,(keptL (plT t to) to t.ins i).length,(keptL (plT t to) to t.ins i).flatMap enc_TIns),(ah',1,(atN to (i + 1)).length,(atN to (i + 1)).map Ia)]) (List.Perm.swap _ _ _)).app (bytes := 64) (y := .p (.sl (some false) true 1 (enc_TIns (insM (plT t to) x)))) (k := 1) (new := enc_TIns (insM (plT t to) x)) [] rfl rfl (by decide) (by unfold room; omega)
    have hoF := hLF.cx.at (id := 3) (o := .box (oB t (lpO to t.loop (i + 1)) ih)) (by simp)
    have z22:stA 1 (.ptr 3 3) (.row id g 0 ((keptL (plT t to) to t.ins i).length + 1)) [] HF = some (HF.set 3 (.box (oB t (lpO to t.loop (i + 1)) (.row id g 0 ((keptL (plT t to) to t.ins i).length + 1))))) := stA_box hoF rfl (by simp [oB]) rfl rfl (by simp [oB])
    have hLG := (hLF.fperm (fx' := [(3,.box (oB t (lpO to t.loop (i + 1)) ih)),(2,.box [ah',B (okL (plT t to) to t.ins i && okI (plT t to) x)]),(0,.box ((eTr t).map .p)),(1,.box (z13.map .p))]) (fun q hq => by simp only [List.mem_cons,List.not_mem_nil,or_false] at hq ⊢; rcases hq with h | h | h | h <;> simp [h])).setBox (by
          intro q hq
          simp only [List.mem_cons,List.not_mem_nil,or_false] at hq
          rcases hq with h | h | h <;> subst h <;> simp only <;> omega) (oB t (lpO to t.loop (i + 1)) (.row id g 0 ((keptL (plT t to) to t.ins i).length + 1)))
    have ekl:keptL (plT t to) to t.ins (i + 1) = keptL (plT t to) to t.ins i ++ [insM (plT t to) x] := by rw [keptL,hx?]; simp only [hkp,if_true]
    have eol:okL (plT t to) to t.ins (i + 1) = (okL (plT t to) to t.ins i && okI (plT t to) x) := by rw [okL,hx?]; simp only [hkp,Bool.not_true,Bool.false_or]
    refine ⟨HF.set 3 (.box (oB t (lpO to t.loop (i + 1)) (.row id g 0 ((keptL (plT t to) to t.ins i).length + 1)))),ah',.row id g 0 ((keptL (plT t to) to t.ins i).length + 1),⟨?_,?_⟩,?_⟩
    · rw [eol,ekl,List.length_append,List.flatMap_append]
      have := hLG.perm (List.Perm.swap _ _ _)
      simpa using this
    · rw [ekl,List.length_append]; exact Can.row (by simp)
    · rw [e1,L24_23_eq]
      simp only [y1,y2,decide_eq_true ek,nilc,fldA_ptr,Nat.zero_add,y6,y6S,y8,(hLB.cx.lst (ih,8,(keptL (plT t to) to t.ins i).length,(keptL (plT t to) to t.ins i).flatMap enc_TIns) (by simp)).len HB,lit1,p1,p2,z16,z17,z18,z19,z20,z22,core]
      rw [L24_41_eq]
      simp only [w,core]
  · have hkp:keptI to i = false := by rw [keptI,hto]; simp [ek]
    have ekl:keptL (plT t to) to t.ins (i + 1) = keptL (plT t to) to t.ins i := by rw [keptL,hx?]; simp [hkp]
    have eol:okL (plT t to) to t.ins (i + 1) = okL (plT t to) to t.ins i := by rw [okL,hx?]; simp [hkp]
    have hnx:nx to (atN to i) i = on (atN to i) tv := by rw [nx,hto]; simp [ek]
    obtain ⟨ah',HC,p1,HD,p2,hLD⟩ := put _ hnx
    refine ⟨HD,ah',ih,⟨?_,?_⟩,?_⟩
    · rw [eol,ekl]
      exact hLD.fperm (fun q hq => by simp only [List.mem_cons,List.not_mem_nil,or_false] at hq ⊢; rcases hq with h | h | h | h <;> simp [h])
    · rw [ekl]; exact h.can
    · rw [e1,L24_23_eq]
      by_cases em:tv = -1
      · have:on (atN to i) tv = -1 := by rw [on,if_neg (by omega)]
        rw [this] at p1
        have em':¬ ((-1:Int) = (i:Int)) := by omega
        subst em
        simp only [y1,y2,decide_eq_false em',nilc,fldA_ptr,Nat.zero_add,y6,y6S,lit1,p1,p2,core]
        rw [L24_41_eq]
        simp only [w,core]
      · have h0:0 ≤ tv := by omega
        have hlt2:tv < i := by omega
        have hgt:tv.toNat < (atN to i).length := by rw [atN_len]; omega
        have hv:∃ p,idxA 1 ah (I tv) = some p ∧ ld false 1 p HB = some (I (on (atN to i) tv)) := by
          have e:on (atN to i) tv = (atN to i)[tv.toNat] := by rw [on,if_pos h0,List.getElem?_eq_getElem hgt]; rfl
          have hg:((atN to i).map Ia)[tv.toNat]? = some (Ia (atN to i)[tv.toNat]) := by rw [List.getElem?_map,List.getElem?_eq_getElem hgt]; rfl
          rw [e]
          obtain ⟨hl,⟨nl,rfl,h1⟩ | ⟨id,g,rfl,ho⟩⟩ := hLB.cx.hd
          · refine ⟨.fp ((atN to i).map Ia) (tv.toNat * 1),idxL ⟨by omega,by omega⟩,?_⟩
            rw [Nat.mul_one,ld_fp,hg]; rfl
          · refine ⟨.rptr id g (0 + tv.toNat * 1),?_,?_⟩
            · simp only [idxA]; rw [if_pos ⟨by omega,by omega⟩]
            · rw [Nat.mul_one,Nat.zero_add,ld_row ho,hg]; rfl
        obtain ⟨p,q1,q2⟩ := hv
        simp only [y1,y2,decide_eq_false ek,decide_eq_false em,h0,hlt2,nilc,fldA_ptr,Nat.zero_add,y6,y6S,q1,q2,lit1,p1,p2,core]
        rw [L24_41_eq]
        simp only [w,core]
end Ir
end Go.Proofs.YtnjfpnoamgipjaaDoor

