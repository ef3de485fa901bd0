import Derived.Test.YtnjfpnoamgipjaaDoorKnA
set_option linter.unusedVariables false
set_option linter.unusedSimpArgs false
set_option maxRecDepth 100000
namespace Go.Proofs.YtnjfpnoamgipjaaDoor
open Go Go.AM
namespace Ir
def hs (l:List Int)(x:Int):Bool := decide (x ∈ l)
theorem ent42 {nl:Option Bool}{tg:Bool}(l:List Int)(x:Int)(hl:l.length < 2 ^ 63):O.ent 42 [V nl tg l,I x] [] [] = some ([B (hs l x)],[]) := by
  have go:∀ (c i:Nat),l.length - i = c → i ≤ l.length → L42_6 [I x,V nl tg l,I l.length,I i] [] [] = some ([B (decide (x ∈ l.drop i))],[]) := by
    intro c
    induction c with
    | zero =>
      intro i hc hi
      have:i = l.length := by omega
      subst this
      rw [L42_6_eq]
      simp only [Int.lt_irrefl,List.drop_length,List.not_mem_nil,core,leave0_B]
    | succ c ih =>
      intro i hc hi
      have h1:i < l.length := by omega
      have hlt:(i:Int) < l.length := by omega
      have w:IntKind.i64.wrap ((i:Int) + 1) = ((i + 1:Nat):Int) := by rw [wrap_id (by omega),nxt]
      rw [L42_6_eq,List.drop_eq_getElem_cons h1]
      by_cases he:x = l[i]
      · simp only [hlt,idxV h1,ldV h1,he,List.mem_cons,true_or,core,leave0_B]
      · simp only [hlt,idxV h1,ldV h1,he,w,List.mem_cons,false_or,core]
        exact ih (i + 1) (by omega) (by omega)
  have := go l.length 0 (by omega) (by omega)
  rw [f42_eq]
  simp only [core]
  exact this
theorem call42 {nl:Option Bool}{tg:Bool}(l:List Int)(hl:l.length < 2 ^ 63 := by decide)(x:Int)(lo:List Nat)(H:Heap):callA cfg O 42 [V nl tg l,I x] lo H = some (B (hs l x),H) :=
  callA_pure (xs := [.sl nl tg l.length (l.map Ia),Ia x]) (rs := [B (hs l x)]) (H' := []) rfl (ent42 l x hl) rfl
def tells (op:Int):Bool := hs [1,2,3,7,8,10,13,15,16,18] op
def vals (op:Int):Int := if hs [4,5,6,8,9,10,15] op = true then 1 else if hs [7,11,12,13,17] op = true then 2 else if op = 14 then 3 else 0
def mst (op:Int):Bool := hs [4,5,6,9,12,13,14,16,18,19] op
def myR (op:Int):Bool := hs [7,8,17] op
theorem lit10 (a b c d e f g h i j:Int)(H:Heap):litA false 1 [I a,I b,I c,I d,I e,I f,I g,I h,I i,I j] H = some (V (some false) true [a,b,c,d,e,f,g,h,i,j],H) := rfl
theorem lit7 (a b c d e f g:Int)(H:Heap):litA false 1 [I a,I b,I c,I d,I e,I f,I g] H = some (V (some false) true [a,b,c,d,e,f,g],H) := rfl
theorem lit5 (a b c d e:Int)(H:Heap):litA false 1 [I a,I b,I c,I d,I e] H = some (V (some false) true [a,b,c,d,e],H) := rfl
theorem lit3 (a b c:Int)(H:Heap):litA false 1 [I a,I b,I c] H = some (V (some false) true [a,b,c],H) := rfl
theorem call1 {g:FuncId}{x y:PV}(hm:cfg.mode g = 0)(h:O.ent g [.p x] [] [] = some ([.p y],[]))(lo:List Nat)(H:Heap):callA cfg O g [.p x] lo H = some (.p y,H) :=
  callA_pure (xs := [x]) (rs := [.p y]) hm h rfl
theorem call16 (op:Int)(lo:List Nat)(H:Heap):callA cfg O 16 [I op] lo H = some (B (tells op),H) := by
  refine call1 rfl ?_ lo H
  rw [f16_eq]
  simp only [lit10,obs,call42 [1,2,3,7,8,10,13,15,16,18]]
  rfl
theorem call41 (op:Int)(lo:List Nat)(H:Heap):callA cfg O 41 [I op] lo H = some (I (vals op),H) := by
  refine call1 rfl ?_ lo H
  rw [f41_eq,vals]
  simp only [lit7,lit5,obs,call42 [4,5,6,8,9,10,15],call42 [7,11,12,13,17]]
  by_cases h1:hs [4,5,6,8,9,10,15] op = true
  · simp only [h1,core,leave0_I]
  by_cases h2:hs [7,11,12,13,17] op = true
  · simp only [h1,h2,core,leave0_I]
  by_cases h3:op = 14
  · subst h3; rfl
  · simp only [h1,h2,h3,core,leave0_I]
abbrev trV (t:A_TTrace):AV := .agg ((enc_TTrace t).map .p)
abbrev tiV (x:A_TIns):AV := .agg ((enc_TIns x).map .p)
abbrev exV (x:A_TExit):AV := .agg ((enc_TExit x).map .p)
theorem len_TTrace13 (t:A_TTrace):(enc_TTrace t).length = 13 := rfl
theorem len_TIns8 (x:A_TIns):(enc_TIns x).length = 8 := rfl
theorem len_TExit4 (x:A_TExit):(enc_TExit x).length = 4 := rfl
theorem len_TSet2 (x:A_TSet):(enc_TSet x).length = 2 := rfl
theorem len_TMake4 (x:A_TMake):(enc_TMake x).length = 4 := rfl
section
variable (t:A_TTrace) (x:A_TIns) (e:A_TExit) (m:A_TMake) (s:A_TSet)
theorem tr0:(enc_TTrace t)[0]? = some (Ia t.1) := _root_.id rfl
theorem tr1:(enc_TTrace t)[1]? = some (Ia t.2.1) := _root_.id rfl
theorem tr2:(enc_TTrace t)[2]? = some (Ia t.2.2.1) := _root_.id rfl
theorem tr3:(enc_TTrace t)[3]? = some (.sl t.2.2.2.1.1 false t.2.2.2.1.2.length (t.2.2.2.1.2.flatMap enc_TIns)) := _root_.id rfl
theorem tr4:(enc_TTrace t)[4]? = some (.sl t.2.2.2.2.1.1 false t.2.2.2.2.1.2.length (t.2.2.2.2.1.2.flatMap enc_TExit)) := _root_.id rfl
theorem tr5:(enc_TTrace t)[5]? = some (Ia t.2.2.2.2.2.1.1) := _root_.id rfl
theorem tr9:(enc_TTrace t)[9]? = some (Ia t.2.2.2.2.2.2.1) := _root_.id rfl
theorem ti0:(enc_TIns x)[0]? = some (Ia x.1) := _root_.id rfl
theorem ti1:(enc_TIns x)[1]? = some (Ia x.2.1) := _root_.id rfl
theorem ti2:(enc_TIns x)[2]? = some (Ia x.2.2.1) := _root_.id rfl
theorem ti3:(enc_TIns x)[3]? = some (Ia x.2.2.2.1) := _root_.id rfl
theorem ti4:(enc_TIns x)[4]? = some (Ia x.2.2.2.2.1) := _root_.id rfl
theorem ti5:(enc_TIns x)[5]? = some (Ia x.2.2.2.2.2.1) := _root_.id rfl
theorem ti6:(enc_TIns x)[6]? = some (Ia x.2.2.2.2.2.2.1) := _root_.id rfl
theorem te0:(enc_TExit e)[0]? = some (Ia e.1) := _root_.id rfl
theorem te1:(enc_TExit e)[1]? = some (Ia e.2.1) := _root_.id rfl
theorem te2:(enc_TExit e)[2]? = some (.sl e.2.2.1.1 false e.2.2.1.2.length (e.2.2.1.2.flatMap enc_TSet)) := _root_.id rfl
theorem te3:(enc_TExit e)[3]? = some (.sl e.2.2.2.1 false e.2.2.2.2.length (e.2.2.2.2.flatMap enc_TMake)) := _root_.id rfl
theorem tm0:(enc_TMake m)[0]? = some (Ia m.1) := _root_.id rfl
theorem tm1:(enc_TMake m)[1]? = some (Ia m.2.1) := _root_.id rfl
theorem tm2:(enc_TMake m)[2]? = some (Ia m.2.2.1) := _root_.id rfl
theorem tm3:(enc_TMake m)[3]? = some (.sl m.2.2.2.1 false m.2.2.2.2.length (m.2.2.2.2.map Ia)) := _root_.id rfl
theorem ts0:(enc_TSet s)[0]? = some (Ia s.1) := _root_.id rfl
theorem ts1:(enc_TSet s)[1]? = some (Ia s.2) := _root_.id rfl
end
theorem idxI {sz:Nat}{nl:Option Bool}{t:Bool}{n:Nat}{xs:List PV}{i:Nat}(h:i < n):idxA sz (.p (.sl nl t n xs)) (I i) = some (.fp xs (i * sz)) := by
  rw [idxL ⟨by omega,by omega⟩,Int.toNat_natCast]
theorem ldCell {α:Type}{enc:α → List PV}{k:Nat}(he:∀ x,(enc x).length = k){l:List α}{i j:Nat}(h:i < l.length)(hj:j < k)(n:Nat)(H:Heap):ld false n (.fp (l.flatMap enc) (i * k + j)) H = ((enc l[i])[j]?).map .p := by
  rw [ld_fp,rows_get he (List.getElem?_eq_getElem h) hj]
theorem ldCell0 {α:Type}{enc:α → List PV}{k:Nat}(he:∀ x,(enc x).length = k)(hk:0 < k){l:List α}{i:Nat}(h:i < l.length)(n:Nat)(H:Heap):ld false n (.fp (l.flatMap enc) (i * k)) H = ((enc l[i])[0]?).map .p := ldCell he h hk n H
def valR (ins:List A_TIns)(v at':Int):Bool := decide (0 ≤ v) && decide (v < at') && decide (v < ins.length) && (match ins[v.toNat]? with | some x => tells x.1 | none => false)
theorem valR_of {ins:List A_TIns}{v at':Int}(h1:0 ≤ v)(h2:v < at')(h3:v.toNat < ins.length):valR ins v at' = tells ins[v.toNat].1 := by
  have h4:v < ins.length := by omega
  simp only [valR,h1,h2,h4,List.getElem?_eq_getElem h3,decide_true,Bool.true_and]
def lims (op regs:Int):Int × Int :=
  if op = 1 then (0,wr (regs - 1)) else if op = 4 then (0,6) else if op = 5 then (0,1) else if op = 7 then (3,10) else if op = 8 then (11,12) else if op = 9 then (1,7)
  else if op = 10 ∨ op = 11 then (0,99) else if op = 12 ∨ op = 19 then (1,1073741824) else if op = 16 then (1,3) else (0,0)
def numR (x:A_TIns)(regs:Int):Bool := wi x.2.2.2.2.1 (lims x.1 regs).1 (lims x.1 regs).2
def andZ (a b:Int):Int := wr (BitVec.ofInt 64 a &&& BitVec.ofInt 64 b).toNat
def fltR (n:Int):Bool := !decide (andZ n 9218868437227405312 = 9218868437227405312) || (decide (andZ n 4503599627370495 = 0) || decide (n = 9221120237041090561))
def rightR (v:A_Val):Bool :=
  if v.1 = 0 then decide (v.2 = 0) else if v.1 = 1 then (decide (v.2 = 0) || decide (v.2 = 1)) else if v.1 = 2 then (decide (-2147483648 ≤ v.2) && decide (v.2 < 2147483648))
  else if v.1 = 3 then fltR v.2 else if v.1 = 4 ∨ v.1 = 5 then decide (0 ≤ v.2) else if v.1 = 6 then (decide (0 ≤ v.2) && decide (v.2 < 16)) else false
end Ir
end Go.Proofs.YtnjfpnoamgipjaaDoor
set_option linter.unusedVariables false
set_option linter.unusedSimpArgs false
set_option maxRecDepth 100000
namespace Go.Proofs.YtnjfpnoamgipjaaDoor
open Go Go.AM
namespace Ir
def btw (q:Option Int)(x:Int):Bool := match q with | none => true | some y => decide (y < x)
def opAt (ins:List A_TIns)(v:Int):Int := match ins[v.toNat]? with | some x => x.1 | none => 0
def set1 (ins:List A_TIns)(regs at':Int)(q:Option Int)(s:A_TSet):Bool := ((decide (0 ≤ s.1) && decide (s.1 < regs)) && valR ins s.2 at') && btw q s.1
def setsR (ins:List A_TIns)(regs at':Int):Option Int → List A_TSet → Bool
  | _,[] => true
  | q,s :: r => set1 ins regs at' q s && setsR ins regs at' (some s.1) r
def make1 (ins:List A_TIns)(at':Int)(q:Option Int)(m:A_TMake):Bool :=
  ((((((valR ins m.1 at' && decide (opAt ins m.1 = 18)) && btw q m.1) && hs [1,2,3] m.2.1) && decide (0 ≤ m.2.2.1)) && (decide (m.2.1 = 1) || decide (m.2.2.1 = 0))) && decide (m.2.2.2.2.length ≤ 100))
def makesR (ins:List A_TIns)(at':Int):Option Int → List A_TMake → Bool
  | _,[] => true
  | q,m :: r => (make1 ins at' q m && m.2.2.2.2.all fun v => valR ins v at') && makesR ins at' (some m.1) r
def exitR (ins:List A_TIns)(regs clen at':Int)(x:A_TExit):Bool :=
  (((((decide (0 ≤ x.1) && decide (x.1 < clen)) && decide (0 ≤ x.2.1)) && decide (x.2.1 ≤ 200)) && setsR ins regs at' none x.2.2.1.2) && makesR ins at' none x.2.2.2.2)
def prv {α:Type}(f:α → Int)(l:List α):Nat → Option Int
  | 0 => none
  | j + 1 => (l[j]?).map f
theorem valR_idx {ins:List A_TIns}{v at':Int}(h:valR ins v at' = true):0 ≤ v ∧ v < ins.length := by
  simp only [valR,Bool.and_eq_true,decide_eq_true_eq] at h
  exact ⟨h.1.1.1,h.1.2⟩
theorem ldT13 {t:A_TTrace}{H:Heap}{id:Nat}(h:H[id]? = some (.box ((enc_TTrace t).map .p))):ld true 13 (.ptr id 0) H = some (trV t) := by
  rw [ldAgg_box h (by rw [List.length_map,len_TTrace13]; decide) (by rw [List.length_map,len_TTrace13]; decide)]; rfl
theorem ldBx {xs:List PV}{H:Heap}{id:Nat}(h:H[id]? = some (.box (xs.map .p)))(n j:Nat):ld false n (.ptr id j) H = (xs[j]?).map .p := by rw [ld_box h,List.getElem?_map]
theorem wrapN {n:Nat}(h:n < 2 ^ 63 - 1):IntKind.i64.wrap ((n:Int) + 1) = ((n + 1:Nat):Int) := by rw [wrap_id (by omega),nxt]
end Ir
end Go.Proofs.YtnjfpnoamgipjaaDoor
set_option linter.unusedVariables false
set_option linter.unusedSimpArgs false
set_option maxRecDepth 100000
namespace Go.Proofs.YtnjfpnoamgipjaaDoor
open Go Go.AM
namespace Ir
def EOk (x:A_TExit):Prop := x.2.2.1.2.length < 2 ^ 63 ∧ x.2.2.2.2.length < 2 ^ 63 ∧ ∀ m ∈ x.2.2.2.2,m.2.2.2.2.length < 2 ^ 63
def noExit (x:A_TExit):Bool := ((decide (x.1 = 0) && decide (x.2.1 = 0)) && decide (x.2.2.1.2.length = 0)) && decide (x.2.2.2.2.length = 0)
end Ir
end Go.Proofs.YtnjfpnoamgipjaaDoor
set_option linter.unusedVariables false
set_option linter.unusedSimpArgs false
set_option maxRecDepth 100000
namespace Go.Proofs.YtnjfpnoamgipjaaDoor
open Go Go.AM
namespace Ir
def shp (x:A_TIns):Bool := decide (x.1 = 19) || (decide (x.1 = 9) && decide (x.2.2.2.2.1 = 1))
def argk (ins:List A_TIns)(x:A_TIns)(at' k v:Int):Bool := if k < vals x.1 then valR ins v at' else if k = 1 ∧ shp x = true then decide (0 ≤ v) else decide (v = -1)
def kOk (x:A_TIns):Bool := if x.1 = 2 ∨ x.1 = 6 then (rightR x.2.2.2.2.2.2 && !(decide (x.1 = 2) && decide (x.2.2.2.2.2.2.1 = 5))) else (x.2.2.2.2.2.2.1 == 0 && (x.2.2.2.2.2.2.2 == 0 && true))
def exOk (ins:List A_TIns)(exits:List A_TExit)(regs clen at':Int)(x:A_TIns):Bool :=
  if (!mst x.1 && (decide (x.2.2.2.2.2.1 = -1) || !myR x.1)) = true then decide (x.2.2.2.2.2.1 = -1)
  else (decide (0 ≤ x.2.2.2.2.2.1) && decide (x.2.2.2.2.2.1 < exits.length)) && (match exits[x.2.2.2.2.2.1.toNat]? with | some e => exitR ins regs clen at' e | none => false)
def tailR (ins:List A_TIns)(exits:List A_TExit)(regs clen at':Int)(x:A_TIns):Bool := (numR x regs && kOk x) && exOk ins exits regs clen at' x
def formR (ins:List A_TIns)(exits:List A_TExit)(regs clen at':Int)(x:A_TIns):Bool :=
  if argk ins x at' 0 x.2.1 = true then (if argk ins x at' 1 x.2.2.1 = true then (if argk ins x at' 2 x.2.2.2.1 = true then tailR ins exits regs clen at' x else false) else false) else false
variable (p:A_Prog) (t:A_TTrace) (x:A_TIns)
def Hf:Heap := [.box ((enc_Prog p).map .p),.box ((enc_TTrace t).map .p),.box ((enc_TIns x).map .p)]
theorem hf2 (n j:Nat):ld false n (.ptr 2 j) (Hf p t x) = ((enc_TIns x)[j]?).map .p := ldBx (H := Hf p t x) rfl n j
theorem hf3:ld true 3 (.ptr 0 0) (Hf p t x) = some (pgV p) := by
  rw [ldAgg_box (H := Hf p t x) (xs := (enc_Prog p).map .p) rfl (by rw [List.length_map,len_Prog3]; decide) (by rw [List.length_map,len_Prog3]; decide)]; rfl
structure TOk (t:A_TTrace):Prop where
  ins:t.2.2.2.1.2.length < 2 ^ 63
  exits:t.2.2.2.2.1.2.length < 2 ^ 63
  each:∀ e ∈ t.2.2.2.2.1.2,EOk e
  turn:EOk t.2.2.2.2.2.1
  back:EOk t.2.2.2.2.2.2
theorem neqV (a b c d:Int):bin .neq (.agg 2 [(0,.int),(1,.int)]) (.agg [I a,I b]) (.agg [I c,I d]) = some (B !(a == c && (b == d && true))) := rfl
end Ir
end Go.Proofs.YtnjfpnoamgipjaaDoor
set_option linter.unusedVariables false
set_option linter.unusedSimpArgs false
set_option maxRecDepth 100000
namespace Go.Proofs.YtnjfpnoamgipjaaDoor
open Go Go.AM
namespace Ir
def insE (ins:List A_TIns)(exits:List A_TExit)(regs clen k:Int):Nat → List A_TIns → Int
  | _,[] => k
  | i,x :: r => if x.1 < 1 ∨ 19 < x.1 then 7 else if formR ins exits regs clen i x = true then insE ins exits regs clen k (i + 1) r else 3
def turnOk (t:A_TTrace)(regs clen:Int):Bool := if 0 < t.2.2.1 then (decide (t.2.2.2.2.2.1.1 = t.2.1) && exitR t.2.2.2.1.2 regs clen t.2.2.1 t.2.2.2.2.2.1) else noExit t.2.2.2.2.2.1
def endE (t:A_TTrace)(regs clen:Int):Int :=
  if (((decide (t.2.2.2.2.2.2.1 = t.2.1) && exitR t.2.2.2.1.2 regs clen t.2.2.2.1.2.length t.2.2.2.2.2.2) && turnOk t regs clen) && t.2.2.2.2.1.2.all fun e => exitR t.2.2.2.1.2 regs clen t.2.2.2.1.2.length e) = true then 0 else 3
def chkR (p:A_Prog)(t:A_TTrace):Int :=
  if 300 < t.2.2.2.1.2.length ∨ 200 < t.2.2.2.2.1.2.length then 2
  else match (if 0 ≤ t.1 then p.1.2[t.1.toNat]? else none) with
    | none => 3
    | some f => if t.2.1 < 0 ∨ (f.2.2.2.2.2.length:Int) ≤ t.2.1 ∨ t.2.2.1 < 0 ∨ (t.2.2.2.1.2.length:Int) < t.2.2.1 then 3
      else insE t.2.2.2.1.2 t.2.2.2.2.1.2 f.2.1 f.2.2.2.2.2.length (endE t f.2.1 f.2.2.2.2.2.length) 0 t.2.2.2.1.2
variable {p:A_Prog}{t:A_TTrace}{f:A_Fn} (ht:TOk t) (h0:0 ≤ t.1) (hf:p.1.2[t.1.toNat]? = some f)
theorem ldBack {H:Heap}{id:Nat}(h:H[id]? = some (.box ((enc_TTrace t).map .p))):ld true 4 (.ptr id 9) H = some (exV t.2.2.2.2.2.2) := by
  rw [ldAgg_box h (by rw [List.length_map,len_TTrace13]; decide) (by rw [List.length_map,len_TTrace13]; decide)]; rfl
theorem ldTurn {H:Heap}{id:Nat}(h:H[id]? = some (.box ((enc_TTrace t).map .p))):ld true 4 (.ptr id 5) H = some (exV t.2.2.2.2.2.1) := by
  rw [ldAgg_box h (by rw [List.length_map,len_TTrace13]; decide) (by rw [List.length_map,len_TTrace13]; decide)]; rfl
end Ir
end Go.Proofs.YtnjfpnoamgipjaaDoor
set_option linter.unusedVariables false
set_option linter.unusedSimpArgs false
set_option maxRecDepth 100000
namespace Go.Proofs.YtnjfpnoamgipjaaDoor
open Go Go.AM
namespace Ir
abbrev Fm:Type := Int × Int × Int × Bool × Bool × Int
def formT:List Fm := [(0,0,1073741824,false,true,0),(0,0,0,true,true,0),(0,0,0,false,true,0),(1,0,6,false,false,2),(1,0,1,false,false,2),(1,0,0,true,false,2),(2,3,10,false,true,1),(1,11,12,false,true,1),(1,1,7,false,false,2),(1,0,99,false,true,0),(2,0,99,false,false,0),(2,1,1073741824,false,false,2),(2,0,0,false,true,2),(3,0,0,false,false,2),(1,0,0,false,true,0),(0,1,3,false,true,2),(2,0,0,false,false,1),(0,0,0,false,true,2),(0,1,1073741824,false,false,2)]
def fm0:Fm := (0,0,0,false,false,0)
def fmOf (op:Int):Fm := if 1 ≤ op ∧ op ≤ 19 then formT.getD (op.toNat - 1) fm0 else fm0
def isOp (op:Int):Bool := decide (1 ≤ op ∧ op ≤ 19)
def eFm (f:Fm):List PV := [Ia f.1,Ia f.2.1,Ia f.2.2.1,.v (.bool f.2.2.2.1),.v (.bool f.2.2.2.2.1),Ia f.2.2.2.2.2]
abbrev fmV (f:Fm):AV := .agg ((eFm f).map .p)
theorem len_Fm6 (f:Fm):(eFm f).length = 6 := rfl
theorem nat19:∀ k:Nat,1 ≤ k → k ≤ 19 → O.ent 40 [I k] [] [] = some ([fmV (fmOf k),B true],[])
  | 0,h,_ => absurd h (by omega)
  | 1,_,_ => by rw [f40_eq]; kernel_rfl
  | 2,_,_ => by rw [f40_eq]; kernel_rfl
  | 3,_,_ => by rw [f40_eq]; kernel_rfl
  | 4,_,_ => by rw [f40_eq]; kernel_rfl
  | 5,_,_ => by rw [f40_eq]; kernel_rfl
  | 6,_,_ => by rw [f40_eq]; kernel_rfl
  | 7,_,_ => by rw [f40_eq]; kernel_rfl
  | 8,_,_ => by rw [f40_eq]; kernel_rfl
  | 9,_,_ => by rw [f40_eq]; kernel_rfl
  | 10,_,_ => by rw [f40_eq]; kernel_rfl
  | 11,_,_ => by rw [f40_eq]; kernel_rfl
  | 12,_,_ => by rw [f40_eq]; kernel_rfl
  | 13,_,_ => by rw [f40_eq]; kernel_rfl
  | 14,_,_ => by rw [f40_eq]; kernel_rfl
  | 15,_,_ => by rw [f40_eq]; kernel_rfl
  | 16,_,_ => by rw [f40_eq]; kernel_rfl
  | 17,_,_ => by rw [f40_eq]; kernel_rfl
  | 18,_,_ => by rw [f40_eq]; kernel_rfl
  | 19,_,_ => by rw [f40_eq]; kernel_rfl
  | n + 20,_,h => absurd h (by omega)
theorem ent40 (op:Int):O.ent 40 [I op] [] [] = some ([fmV (fmOf op),B (isOp op)],[]) := by
  by_cases h:1 ≤ op ∧ op ≤ 19
  · have := nat19 op.toNat (by omega) (by omega)
    rw [show ((op.toNat:Nat):Int) = op by omega] at this
    rw [this,isOp,decide_eq_true h]
  · rw [f40_eq,isOp,decide_eq_false h,fmOf,if_neg h]
    have n1:¬ op = 1 := by omega
    have n2:¬ op = 2 := by omega
    have n3:¬ op = 3 := by omega
    have n4:¬ op = 4 := by omega
    have n5:¬ op = 5 := by omega
    have n6:¬ op = 6 := by omega
    have n7:¬ op = 7 := by omega
    have n8:¬ op = 8 := by omega
    have n9:¬ op = 9 := by omega
    have n10:¬ op = 10 := by omega
    have n11:¬ op = 11 := by omega
    have n12:¬ op = 12 := by omega
    have n13:¬ op = 13 := by omega
    have n14:¬ op = 14 := by omega
    have n15:¬ op = 15 := by omega
    have n16:¬ op = 16 := by omega
    have n17:¬ op = 17 := by omega
    have n18:¬ op = 18 := by omega
    have n19:¬ op = 19 := by omega
    simp only [n1,n2,n3,n4,n5,n6,n7,n8,n9,n10,n11,n12,n13,n14,n15,n16,n17,n18,n19,core]
    rfl
theorem call40 (op:Int)(lo:List Nat)(H:Heap):callA cfg O 40 [I op] lo H = some (.tup [fmV (fmOf op),B (isOp op)],H) :=
  callA_pure (xs := [Ia op]) (rs := [fmV (fmOf op),B (isOp op)]) (H' := []) rfl (ent40 op) rfl
theorem box6 (H:Heap):boxO [] [I 0,I 0,I 0,B false,B false,I 0] H = some (.ptr H.length 0,H ++ [.box ([Ia 0,Ia 0,Ia 0,.v (.bool false),.v (.bool false),Ia 0].map .p)]) := boxO_p [Ia 0,Ia 0,Ia 0,.v (.bool false),.v (.bool false),Ia 0] H
theorem st6 (f:Fm)(lo:List Nat)(H:Heap):stA 6 (.ptr H.length 0) (fmV f) lo (H ++ [.box ([Ia 0,Ia 0,Ia 0,.v (.bool false),.v (.bool false),Ia 0].map .p)]) = some (H ++ [.box ((eFm f).map .p)]) := stA_new rfl rfl (by decide)
def tellI (op:Int):Bool := (fmOf op).2.2.2.2.1
theorem call15 (op:Int)(lo:List Nat)(H:Heap):callA cfg O 15 [I op] lo H = some (B (tellI op),H) := by
  refine call1 rfl ?_ lo H
  rw [f15_eq]
  have b6 := box6 []
  have s6 := st6 (fmOf op) [] []
  have g4:ld false 1 (.ptr 0 4) [.box ((eFm (fmOf op)).map .p)] = some (B (tellI op)) := by rw [ldB0]; rfl
  simp only [List.length_nil,List.nil_append] at b6 s6
  simp only [call40,b6,s6,g4,Nat.zero_add,core,leave0_B]
theorem tell19:∀ k:Nat,1 ≤ k → k ≤ 19 → tellI k = tells k
  | 0,h,_ => absurd h (by omega)
  | 1,_,_ => rfl
  | 2,_,_ => rfl
  | 3,_,_ => rfl
  | 4,_,_ => rfl
  | 5,_,_ => rfl
  | 6,_,_ => rfl
  | 7,_,_ => rfl
  | 8,_,_ => rfl
  | 9,_,_ => rfl
  | 10,_,_ => rfl
  | 11,_,_ => rfl
  | 12,_,_ => rfl
  | 13,_,_ => rfl
  | 14,_,_ => rfl
  | 15,_,_ => rfl
  | 16,_,_ => rfl
  | 17,_,_ => rfl
  | 18,_,_ => rfl
  | 19,_,_ => rfl
  | n + 20,_,h => absurd h (by omega)
theorem tell_eq (op:Int):tellI op = tells op := by
  by_cases h:1 ≤ op ∧ op ≤ 19
  · have := tell19 op.toNat (by omega) (by omega)
    rwa [show ((op.toNat:Nat):Int) = op by omega] at this
  · have e1:tellI op = false := by rw [tellI,fmOf,if_neg h]; rfl
    have e2:tells op = false := by
      refine decide_eq_false ?_
      simp only [List.mem_cons,List.not_mem_nil,or_false]
      omega
    rw [e1,e2]
theorem asks_le:∀ op:Int,0 ≤ (fmOf op).1 ∧ (fmOf op).1 ≤ 3 := by
  intro op
  by_cases h:1 ≤ op ∧ op ≤ 19
  · have go:∀ k:Nat,k < 19 → 0 ≤ (formT.getD k fm0).1 ∧ (formT.getD k fm0).1 ≤ 3 := by decide
    rw [fmOf,if_pos h]
    exact go _ (by omega)
  · rw [fmOf,if_neg h]; decide
def asksL (x:A_TIns):List Int := [x.2.1,x.2.2.1,x.2.2.2.1].take (fmOf x.1).1.toNat
theorem call13 (x:A_TIns)(lo:List Nat)(H:Heap):∃ nl tg,callA cfg O 13 [tiV x] lo H = some (V nl tg (asksL x),H) := by
  obtain ⟨a0,a3⟩ := asks_le x.1
  suffices h:∃ nl tg,O.ent 13 [tiV x] [] [] = some ([V nl tg (asksL x)],[]) by
    obtain ⟨nl,tg,h⟩ := h
    exact ⟨nl,tg,callA_args (rs := [V nl tg (asksL x)]) rfl (pureArgs1 (pureAgg _ _)) h rfl⟩
  have b6 := fun o:AObj => box6 [o]
  have s6 := fun o:AObj => st6 (fmOf x.1) [] [o]
  simp only [List.length_cons,List.length_nil,Nat.zero_add,List.cons_append,List.nil_append] at b6 s6
  cases hi:isOp x.1 with
  | false =>
    have e:fmOf x.1 = fm0 := by
      rw [fmOf,if_neg]
      intro h
      rw [isOp,decide_eq_true h] at hi; cases hi
    have el:asksL x = [] := by rw [asksL,e]; rfl
    refine ⟨some true,true,?_⟩
    rw [f13_eq,el]
    simp only [boxAgg0,ldB0,ti0,Nat.zero_add,call40,b6,s6,hi,core]
    rfl
  | true =>
    rw [f13_eq]
    have g1:∀ (o:AObj) j,ld false 1 (.ptr 0 j) [.box ((enc_TIns x).map .p),o] = ((enc_TIns x)[j]?).map .p := fun o j => ldB02 _ _ _ _
    have bu:buildA [I 0,I 0,I 0] [(0,1,I x.2.1),(1,1,I x.2.2.1),(2,1,I x.2.2.2.1)] = some (.agg [I x.2.1,I x.2.2.1,I x.2.2.2.1]) := rfl
    have ma:∀ o1 o2:AObj,mkArr 1 [(.v (.int .i64 0)),(.v (.int .i64 0)),(.v (.int .i64 0))] [o1,o2] = (.rptr 2 0 0,[o1,o2,.row 0 1 [Ia 0,Ia 0,Ia 0]]) := fun _ _ => rfl
    have sa:∀ o1 o2:AObj,stA 3 (.rptr 2 0 0) (.agg [I x.2.1,I x.2.2.1,I x.2.2.2.1]) [] [o1,o2,.row 0 1 [Ia 0,Ia 0,Ia 0]] = some [o1,o2,.row 0 1 [Ia x.2.1,Ia x.2.2.1,Ia x.2.2.2.1]] := fun _ _ => rfl
    have g2:∀ (o1 o3:AObj),ld false 1 (.ptr 1 0) [o1,.box ((eFm (fmOf x.1)).map .p),o3] = some (I (fmOf x.1).1) := fun o1 o3 => ldBx (xs := eFm (fmOf x.1)) (H := [o1,.box ((eFm (fmOf x.1)).map .p),o3]) (id := 1) rfl 1 0
    have ca:∀ o1 o2:AObj,cutArr 1 3 (.rptr 2 0 0) none (some (I (fmOf x.1).1)) [o1,o2,.row 0 1 [Ia x.2.1,Ia x.2.2.1,Ia x.2.2.2.1]] = some (.row 2 0 0 (fmOf x.1).1.toNat) := fun o1 o2 => by
      show (if _ then _ else _) = _
      rw [if_pos ⟨rfl,rfl,by simp,by omega,a0,by omega,by decide⟩]
      simp
    have hc:∀ o1 o2:AObj,cellsA 1 (.row 2 0 0 (fmOf x.1).1.toNat) [o1,o2,.row 0 1 [Ia x.2.1,Ia x.2.2.1,Ia x.2.2.2.1]] = some ((fmOf x.1).1.toNat,(asksL x).map Ia) := fun o1 o2 => by
      show (if _ then _ else _) = _
      rw [if_pos ⟨rfl,rfl,by simp; omega⟩,asksL,List.map_take]
      simp
    have hl:(asksL x).length = (fmOf x.1).1.toNat := by rw [asksL,List.length_take]; simp; omega
    by_cases hz:(fmOf x.1).1.toNat = 0
    · have el:asksL x = [] := by rw [asksL,hz]; rfl
      have ap:∀ o1 o2:AObj,appA 1 8 (.p nilS) (.row 2 0 0 (fmOf x.1).1.toNat) [o1,o2,.row 0 1 [Ia x.2.1,Ia x.2.2.1,Ia x.2.2.2.1]] = some (.p nilS,[o1,o2,.row 0 1 [Ia x.2.1,Ia x.2.2.1,Ia x.2.2.2.1]]) := fun o1 o2 => by
        rw [appA,hc,obs,hz]; rfl
      refine ⟨some true,true,?_⟩
      rw [el]
      simp only [boxAgg0,ldB0,g1,g2,ti0,ti1,ti2,ti3,Nat.zero_add,call40,b6,s6,hi,bu,ma,sa,ca,ap,core]
      rfl
    · have ap:∀ o1 o2:AObj,appA 1 8 (.p nilS) (.row 2 0 0 (fmOf x.1).1.toNat) [o1,o2,.row 0 1 [Ia x.2.1,Ia x.2.2.1,Ia x.2.2.2.1]] = some (.row 3 0 0 (fmOf x.1).1.toNat,[o1,o2,.row 0 1 [Ia x.2.1,Ia x.2.2.1,Ia x.2.2.2.1],.row 0 1 ((asksL x).map Ia)]) := fun o1 o2 => by
        rw [appA,hc,obs]
        show (if _ then _ else if _ then _ else _) = _
        rw [if_neg hz,if_pos (by unfold room; omega)]
        rfl
      have lv:∀ o1 o2 o3:AObj,leave 0 [] [.row 3 0 0 (fmOf x.1).1.toNat] [o1,o2,o3,.row 0 1 ((asksL x).map Ia)] = some ([V (some false) false (asksL x)],[]) := fun o1 o2 o3 => by
        refine leave0_all (ps := [.sl (some false) false (asksL x).length ((asksL x).map Ia)]) (H' := [o1,o2,o3,.row 1 1 []]) ?_
        have:toPV [o1,o2,o3,.row 0 1 ((asksL x).map Ia)] (.row 3 0 0 (fmOf x.1).1.toNat) = some (.sl (some false) false (asksL x).length ((asksL x).map Ia),[o1,o2,o3,.row 1 1 []]) := by
          show (if _ then _ else _) = _
          rw [if_pos ⟨rfl,by rw [List.length_map,hl]; omega⟩,if_pos (by omega),hl,List.drop_zero,List.take_of_length_le (by rw [List.length_map,hl]; omega)]
          rfl
        show ((toPV _ _).map _).bind _ = _
        rw [this]; rfl
      refine ⟨some false,false,?_⟩
      simp only [boxAgg0,ldB0,g1,g2,ti0,ti1,ti2,ti3,Nat.zero_add,call40,b6,s6,hi,bu,ma,sa,ca,ap,lv,core]
theorem drop_iff {a b:List Int}{i:Nat}(ha:i < a.length)(hb:i < b.length):a.drop i = b.drop i ↔ a[i] = b[i] ∧ a.drop (i + 1) = b.drop (i + 1) := by
  rw [List.drop_eq_getElem_cons ha,List.drop_eq_getElem_cons hb,List.cons.injEq]
theorem call12 {n1 n2:Option Bool}{t1 t2:Bool}(a b:List Int)(hl:a.length < 2 ^ 63)(lo:List Nat)(H:Heap):callA cfg O 12 [V n1 t1 a,V n2 t2 b] lo H = some (B (decide (a = b)),H) := by
  refine callA_pure (xs := [.sl n1 t1 a.length (a.map Ia),.sl n2 t2 b.length (b.map Ia)]) (rs := [B _]) (H' := []) rfl ?_ rfl
  show O.ent 12 [V n1 t1 a,V n2 t2 b] [] [] = _
  rw [f12_eq]
  by_cases h:a.length = b.length
  · have h':(a.length:Int) = b.length := by omega
    have go:∀ (c i:Nat),a.length - i = c → i ≤ a.length → L12_10 [V n2 t2 b,V n1 t1 a,I a.length,I i] [] [] = some ([B (decide (a.drop i = b.drop i))],[]) := by
      intro c
      induction c with
      | zero =>
        intro i hc hi
        have:i = a.length := by omega
        subst this
        rw [L12_10_eq,decide_eq_true (show a.drop a.length = b.drop a.length by rw [List.drop_length,h,List.drop_length])]
        simp only [Int.lt_irrefl,core,leave0_B]
      | succ c ih =>
        intro i hc hi
        have ha:i < a.length := by omega
        have hb:i < b.length := by omega
        have hlt:(i:Int) < a.length := by omega
        have w := wrapN (show i < 2 ^ 63 - 1 by omega)
        rw [L12_10_eq]
        by_cases he:a[i] = b[i]
        · have fin := ih (i + 1) (by omega) (by omega)
          rw [decide_eq_decide.mpr (show a.drop (i + 1) = b.drop (i + 1) ↔ a.drop i = b.drop i by rw [drop_iff ha hb]; simp [he])] at fin
          simp only [hlt,idxV ha,ldV ha,idxV hb,ldV hb,he,w,core]
          exact fin
        · rw [decide_eq_false fun h => he ((drop_iff ha hb).mp h).1]
          simp only [hlt,idxV ha,ldV ha,idxV hb,ldV hb,he,core,leave0_B]
    have := go a.length 0 rfl (by omega)
    rw [List.drop_zero,List.drop_zero] at this
    simp only [decide_eq_true h',core]
    exact this
  · have h':¬ (a.length:Int) = b.length := by omega
    rw [decide_eq_false fun e => h (by rw [e])]
    simp only [h',core,leave0_B]
theorem call18 (lo:List Nat)(H:Heap):callA cfg O 18 [] lo H = some (B true,H) := by
  refine callA_pure (xs := []) (rs := [B true]) (H' := []) rfl ?_ rfl
  show O.ent 18 [] [] [] = _
  rw [f18_eq]
  obtain ⟨nl,tg,h13⟩ := call13 (14,4,5,6,0,0,0,0) [] []
  have bu:buildA [(I 0),(I 0),(I 0),(I 0),(I 0),(I 0),(I 0),(I 0)] [(0,1,I 14),(1,1,I 4),(2,1,I 5),(3,1,I 6)] = some (tiV (14,4,5,6,0,0,0,0)) := rfl
  have ea:asksL (14,4,5,6,0,0,0,0) = [4,5,6] := rfl
  rw [ea] at h13
  have e1:tellI 13 = true := rfl
  have e2:tellI 11 = false := rfl
  simp only [bu,h13,lit3,call12 [4,5,6] [4,5,6] (by decide),call15,e1,e2,core,leave0_B]
end Ir
end Go.Proofs.YtnjfpnoamgipjaaDoor
set_option linter.unusedVariables false
set_option linter.unusedSimpArgs false
set_option maxRecDepth 100000
namespace Go.Proofs.YtnjfpnoamgipjaaDoor
open Go Go.AM
namespace Ir
theorem box8 (H:Heap):boxO [] [I 0,I 0,I 0,I 0,I 0,I 0,I 0,I 0] H = some (.ptr H.length 0,H ++ [.box ([Ia 0,Ia 0,Ia 0,Ia 0,Ia 0,Ia 0,Ia 0,Ia 0].map .p)]) := boxO_p [Ia 0,Ia 0,Ia 0,Ia 0,Ia 0,Ia 0,Ia 0,Ia 0] H
theorem st8 (x:A_TIns)(lo:List Nat)(H:Heap):stA 8 (.ptr H.length 0) (tiV x) lo (H ++ [.box ([Ia 0,Ia 0,Ia 0,Ia 0,Ia 0,Ia 0,Ia 0,Ia 0].map .p)]) = some (H ++ [.box ((enc_TIns x).map .p)]) := stA_new rfl rfl (by decide)
theorem tbl:∀ k:Nat,1 ≤ k → k ≤ 19 → (fmOf k).1 = vals k ∧ (fmOf k).2.2.2.1 = (decide ((k:Int) = 2) || decide ((k:Int) = 6)) ∧ (fmOf k).2.2.2.2.2 = (if mst k = true then 2 else if myR k = true then 1 else 0) ∧ (k ≠ 1 → ∀ r,lims k r = ((fmOf k).2.1,(fmOf k).2.2.1))
  | 0,h,_ => absurd h (by omega)
  | 1,_,_ => ⟨rfl,rfl,rfl,fun h => absurd rfl h⟩
  | 2,_,_ => ⟨rfl,rfl,rfl,fun _ _ => rfl⟩
  | 3,_,_ => ⟨rfl,rfl,rfl,fun _ _ => rfl⟩
  | 4,_,_ => ⟨rfl,rfl,rfl,fun _ _ => rfl⟩
  | 5,_,_ => ⟨rfl,rfl,rfl,fun _ _ => rfl⟩
  | 6,_,_ => ⟨rfl,rfl,rfl,fun _ _ => rfl⟩
  | 7,_,_ => ⟨rfl,rfl,rfl,fun _ _ => rfl⟩
  | 8,_,_ => ⟨rfl,rfl,rfl,fun _ _ => rfl⟩
  | 9,_,_ => ⟨rfl,rfl,rfl,fun _ _ => rfl⟩
  | 10,_,_ => ⟨rfl,rfl,rfl,fun _ _ => rfl⟩
  | 11,_,_ => ⟨rfl,rfl,rfl,fun _ _ => rfl⟩
  | 12,_,_ => ⟨rfl,rfl,rfl,fun _ _ => rfl⟩
  | 13,_,_ => ⟨rfl,rfl,rfl,fun _ _ => rfl⟩
  | 14,_,_ => ⟨rfl,rfl,rfl,fun _ _ => rfl⟩
  | 15,_,_ => ⟨rfl,rfl,rfl,fun _ _ => rfl⟩
  | 16,_,_ => ⟨rfl,rfl,rfl,fun _ _ => rfl⟩
  | 17,_,_ => ⟨rfl,rfl,rfl,fun _ _ => rfl⟩
  | 18,_,_ => ⟨rfl,rfl,rfl,fun _ _ => rfl⟩
  | 19,_,_ => ⟨rfl,rfl,rfl,fun _ _ => rfl⟩
  | n + 20,_,h => absurd h (by omega)
theorem tblI {op:Int}(h:isOp op = true):(fmOf op).1 = vals op ∧ (fmOf op).2.2.2.1 = (decide (op = 2) || decide (op = 6)) ∧ (fmOf op).2.2.2.2.2 = (if mst op = true then 2 else if myR op = true then 1 else 0) ∧ (op ≠ 1 → ∀ r,lims op r = ((fmOf op).2.1,(fmOf op).2.2.1)) := by
  have h' := of_decide_eq_true h
  have := tbl op.toNat (by omega) (by omega)
  rw [show ((op.toNat:Nat):Int) = op by omega] at this
  exact ⟨this.1,this.2.1,this.2.2.1,fun h1 => this.2.2.2 (by omega)⟩
theorem asks_vals (op:Int):(fmOf op).1 = vals op := by
  cases h:isOp op with
  | true => exact (tblI h).1
  | false =>
    have h' := of_decide_eq_false h
    rw [fmOf,if_neg h']
    have e:vals op = 0 := by
      unfold vals
      have n1:¬ hs [4,5,6,8,9,10,15] op = true := by
        simp only [hs,decide_eq_true_eq,List.mem_cons,List.not_mem_nil,or_false]; omega
      have n2:¬ hs [7,11,12,13,17] op = true := by
        simp only [hs,decide_eq_true_eq,List.mem_cons,List.not_mem_nil,or_false]; omega
      rw [if_neg n1,if_neg n2,if_neg (by omega)]
    rw [e]; rfl
theorem pok_of {p:A_Prog}(h:ok_Prog p):POk2 p := by
  obtain ⟨⟨h1,h2⟩,⟨h3,_⟩,⟨h4,_⟩⟩ := h
  unfold maxLen at *
  refine ⟨⟨by omega,fun g hg => ?_⟩,by omega,by omega⟩
  obtain ⟨_,_,_,⟨h5,_⟩,⟨h6,_⟩⟩ := h2 g hg
  unfold maxLen at *
  exact ⟨by omega,by omega⟩
theorem eok_of {x:A_TExit}(h:ok_TExit x):EOk x := by
  obtain ⟨_,_,⟨h1,_⟩,⟨h2,h3⟩⟩ := h
  unfold maxLen at *
  refine ⟨by omega,by omega,fun m hm => ?_⟩
  obtain ⟨_,_,_,⟨h4,_⟩⟩ := h3 m hm
  unfold maxLen at *
  omega
theorem tok_of {t:A_TTrace}(h:ok_TTrace t):TOk t := by
  obtain ⟨_,_,_,⟨h1,_⟩,⟨h2,h3⟩,h4,h5⟩ := h
  unfold maxLen at *
  exact ⟨by omega,by omega,fun e he => eok_of (h3 e he),eok_of h4,eok_of h5⟩
end Ir
end Go.Proofs.YtnjfpnoamgipjaaDoor
set_option linter.unusedVariables false
set_option linter.unusedSimpArgs false
set_option maxRecDepth 100000
namespace Go.Proofs.YtnjfpnoamgipjaaDoor
open Go Go.AM
namespace Ir
def mt (x:A_TIns)(v:Int):Option Int := if x.2.1 = v then (if x.1 = 4 then some x.2.2.2.2.1 else if x.1 = 6 then some x.2.2.2.2.2.2.1 else if x.1 = 9 then some 5 else none) else none
def up (k v:Int):List A_TIns → Int
  | [] => k
  | x :: r => match mt x v with | some q => q | none => up k v r
def ownN (rec:Int → Int → Int)(x:A_TIns)(v:Int):Int :=
  if x.1 = 2 then x.2.2.2.2.2.2.1 else if x.1 = 15 then 2 else if x.1 = 16 ∨ x.1 = 18 then 5
  else if x.1 = 7 ∨ x.1 = 8 then (if (8 ≤ x.2.2.2.2.1 ∧ x.2.2.2.2.1 ≤ 10 ∧ x.1 = 7) ∨ (x.2.2.2.2.1 = 11 ∧ x.1 = 8) then 1 else if rec x.2.1 v = 2 ∨ rec x.2.1 v = 3 then rec x.2.1 v else -1) else -1
def kN (ins:List A_TIns):Nat → Int → Int → Int
  | 0,_,_ => -1
  | n + 1,v,at' =>
    if v < 0 ∨ at' ≤ v ∨ (ins.length:Int) < at' then -1 else
    match ins[v.toNat]? with
    | none => -1
    | some x => if tells x.1 = true then (if 0 ≤ ownN (kN ins n) x v then ownN (kN ins n) x v else up (-1) v ((ins.take at'.toNat).drop (v.toNat + 1))) else -1
theorem up_snoc (v:Int)(x:A_TIns):∀ (l:List A_TIns)(k:Int),up k v (l ++ [x]) = up ((mt x v).getD k) v l
  | [],k => by
    simp only [List.nil_append,up]
    cases mt x v <;> rfl
  | y :: l,k => by
    simp only [List.cons_append,up]
    cases mt y v with
    | none => exact up_snoc v x l k
    | some q => rfl
variable (t:A_TTrace)
section
variable {t}{H:Heap}{x:A_TIns}{i:Nat}
end
theorem L22 (ht:TOk t)(v:Int){n:Nat}(hn:n ≤ t.2.2.2.1.2.length):∀ (c i:Nat)(H:Heap),n - i = c → i ≤ n → H[0]? = some (.box ((enc_TTrace t).map .p)) → L22_16 [I v,I n,.ptr 0 0,I i] [] H = some ([I (up (-1) v ((t.2.2.2.1.2.take n).drop i))],[]) := by
  intro c
  have hx := ht.ins
  induction c with
  | zero =>
    intro i H hc hi h0
    have:i = n := by omega
    subst this
    rw [L22_16_eq,List.drop_of_length_le (by rw [List.length_take]; omega)]
    simp only [Int.lt_irrefl,up,core,leave0_I]
  | succ c ih =>
    intro i H hc hi h0
    have h:i < t.2.2.2.1.2.length := by omega
    have hlt:(i:Int) < n := by omega
    obtain ⟨x,hm⟩:∃ x,t.2.2.2.1.2[i] = x := ⟨_,rfl⟩
    have x3:ld true 8 (.fp (t.2.2.2.1.2.flatMap enc_TIns) (i * 8)) H = some (tiV x) := by rw [ldRow len_TIns8 (by decide) h,hm]
    have hc1 := idxI (sz := 8) (nl := t.2.2.2.1.1) (t := false) (xs := t.2.2.2.1.2.flatMap enc_TIns) h
    have b0:(H ++ [AObj.box ((enc_TIns x).map .p)])[0]? = some (.box ((enc_TTrace t).map .p)) := push_get? h0 _
    have fx := fun j => ldBx h0 1 j
    have fm:∀ n j,ld false n (.ptr H.length j) (H ++ [AObj.box ((enc_TIns x).map .p)]) = ((enc_TIns x)[j]?).map .p := fun n j => ldB _ _ _ _
    have r4 := box8 H
    have r5 := st8 x [] H
    have w := wrapN (show i < 2 ^ 63 - 1 by omega)
    have e19:L22_19 [I v,I n,.ptr 0 0,I i] [] (H ++ [AObj.box ((enc_TIns x).map .p)]) = some ([I (up (-1) v ((t.2.2.2.1.2.take n).drop (i + 1)))],[]) := by
      rw [L22_19_eq]
      simp only [w,core]
      exact ih (i + 1) _ (by omega) (by omega) b0
    have ed:(t.2.2.2.1.2.take n).drop i = x :: (t.2.2.2.1.2.take n).drop (i + 1) := by
      have hl:i < (t.2.2.2.1.2.take n).length := by rw [List.length_take]; omega
      rw [List.drop_eq_getElem_cons hl,List.getElem_take,hm]
    rw [L22_16_eq,ed,up,mt]
    by_cases c1:x.2.1 = v
    · by_cases c2:x.1 = 4
      · simp only [hlt,fx,tr3,hc1,x3,r4,r5,fm,ti0,ti1,ti4,c1,c2,Nat.zero_add,core,leave0_I]
      by_cases c3:x.1 = 6
      · simp only [hlt,fx,tr3,hc1,x3,r4,r5,fm,ti0,ti1,ti4,ti6,c1,c3,Int.reduceEq,Nat.zero_add,Nat.add_zero,core,leave0_I]
      by_cases c4:x.1 = 9
      · simp only [hlt,fx,tr3,hc1,x3,r4,r5,fm,ti0,ti1,ti4,ti6,c1,c4,Int.reduceEq,Nat.zero_add,Nat.add_zero,core,leave0_I]
      · simp only [hlt,fx,tr3,hc1,x3,r4,r5,fm,ti0,ti1,ti4,ti6,c1,c2,c3,c4,e19,Nat.zero_add,Nat.add_zero,core]
    · simp only [hlt,fx,tr3,hc1,x3,r4,r5,fm,ti0,ti1,c1,e19,Nat.zero_add,Nat.add_zero,core]
theorem L23 (ht:TOk t){v:Nat}{n:Nat}(hn:n ≤ t.2.2.2.1.2.length):∀ (c i:Nat)(k:Int)(H:Heap),i - v = c → v ≤ i → i < n → H[0]? = some (.box ((enc_TTrace t).map .p)) → L23_42 [I v,.ptr 0 0,I k,I i] [] H = some ([I (up k v ((t.2.2.2.1.2.take (i + 1)).drop (v + 1)))],[]) := by
  intro c
  have hx := ht.ins
  induction c with
  | zero =>
    intro i k H hc hi hin h0
    have:i = v := by omega
    subst this
    rw [L23_42_eq,List.drop_of_length_le (by rw [List.length_take]; omega)]
    simp only [Int.lt_irrefl,up,core,leave0_I]
  | succ c ih =>
    intro i k H hc hi hin h0
    have h:i < t.2.2.2.1.2.length := by omega
    have hlt:(v:Int) < i := by omega
    obtain ⟨x,hm⟩:∃ x,t.2.2.2.1.2[i] = x := ⟨_,rfl⟩
    have x3:ld true 8 (.fp (t.2.2.2.1.2.flatMap enc_TIns) (i * 8)) H = some (tiV x) := by rw [ldRow len_TIns8 (by decide) h,hm]
    have hc1 := idxI (sz := 8) (nl := t.2.2.2.1.1) (t := false) (xs := t.2.2.2.1.2.flatMap enc_TIns) h
    have b0:(H ++ [AObj.box ((enc_TIns x).map .p)])[0]? = some (.box ((enc_TTrace t).map .p)) := push_get? h0 _
    have fx := fun j => ldBx h0 1 j
    have fm:∀ n j,ld false n (.ptr H.length j) (H ++ [AObj.box ((enc_TIns x).map .p)]) = ((enc_TIns x)[j]?).map .p := fun n j => ldB _ _ _ _
    have r4 := box8 H
    have r5 := st8 x [] H
    have w:IntKind.i64.wrap ((i:Int) - 1) = ((i - 1:Nat):Int) := by rw [wrap_id (by omega)]; omega
    have e45:∀ q:Int,L23_45 [I v,.ptr 0 0,I q,I i] [] (H ++ [AObj.box ((enc_TIns x).map .p)]) = some ([I (up q v ((t.2.2.2.1.2.take i).drop (v + 1)))],[]) := fun q => by
      rw [L23_45_eq]
      simp only [w,core]
      have := ih (i - 1) q _ (by omega) (by omega) (by omega) b0
      rwa [show i - 1 + 1 = i by omega] at this
    have ed:(t.2.2.2.1.2.take (i + 1)).drop (v + 1) = (t.2.2.2.1.2.take i).drop (v + 1) ++ [x] := by
      rw [List.take_succ_eq_append_getElem h,hm,List.drop_append_of_le_length (by rw [List.length_take]; omega)]
    rw [L23_42_eq,ed,up_snoc,mt]
    by_cases c1:x.2.1 = v
    · by_cases c2:x.1 = 4
      · simp only [hlt,fx,tr3,hc1,x3,r4,r5,fm,ti0,ti1,ti4,c1,c2,e45,Option.getD_some,Nat.zero_add,Nat.add_zero,core]
      by_cases c3:x.1 = 6
      · simp only [hlt,fx,tr3,hc1,x3,r4,r5,fm,ti0,ti1,ti4,ti6,c1,c3,e45,Int.reduceEq,Option.getD_some,Nat.zero_add,Nat.add_zero,core]
      by_cases c4:x.1 = 9
      · simp only [hlt,fx,tr3,hc1,x3,r4,r5,fm,ti0,ti1,ti4,ti6,c1,c4,e45,Int.reduceEq,Option.getD_some,Nat.zero_add,Nat.add_zero,core]
      · simp only [hlt,fx,tr3,hc1,x3,r4,r5,fm,ti0,ti1,ti4,ti6,c1,c2,c3,c4,e45,Option.getD_none,Nat.zero_add,Nat.add_zero,core]
    · simp only [hlt,fx,tr3,hc1,x3,r4,r5,fm,ti0,ti1,c1,e45,Option.getD_none,Nat.zero_add,Nat.add_zero,core]
theorem callK {g:FuncId}{a b r:Int}(hm:cfg.mode g = 0)(h:O.ent g [trV t,I a,I b] [] [] = some ([I r],[]))(lo:List Nat)(H:Heap):callA cfg O g [trV t,I a,I b] lo H = some (I r,H) :=
  callA_args (rs := [I r]) hm (pureArgsC (pureAgg _ _) (pureArgsC (pureP _ _) (pureArgs1 (pureP _ _)))) h rfl
theorem call54 (x:A_TIns){v:Nat}(hv:v < t.2.2.2.1.2.length)(hx:t.2.2.2.1.2[v] = x)(rec:Int → Int → Int)(hr:∀ lo H,callA cfg O 22 [trV t,I x.2.1,I v] lo H = some (I (rec x.2.1 v),H))(lo:List Nat)(H:Heap):callA cfg O 54 [trV t,I v] lo H = some (I (ownN rec x v),H) := by
  refine callA_args (rs := [I _]) rfl (pureArgsC (pureAgg _ _) (pureArgs1 (pureP _ _))) (H' := []) ?_ rfl
  have x3:∀ H,ld true 8 (.fp (t.2.2.2.1.2.flatMap enc_TIns) (v * 8)) H = some (tiV x) := fun H => by rw [ldRow len_TIns8 (by decide) hv,hx]
  have hc1 := idxI (sz := 8) (nl := t.2.2.2.1.1) (t := false) (xs := t.2.2.2.1.2.flatMap enc_TIns) hv
  have r4:∀ o:AObj,boxO [] [I 0,I 0,I 0,I 0,I 0,I 0,I 0,I 0] [o] = some (.ptr 1 0,[o,.box ([Ia 0,Ia 0,Ia 0,Ia 0,Ia 0,Ia 0,Ia 0,Ia 0].map .p)]) := fun o => box8 [o]
  have r5:∀ o:AObj,stA 8 (.ptr 1 0) (tiV x) [] [o,.box ([Ia 0,Ia 0,Ia 0,Ia 0,Ia 0,Ia 0,Ia 0,Ia 0].map .p)] = some [o,.box ((enc_TIns x).map .p)] := fun o => st8 x [] [o]
  have g1:∀ (o:AObj) n j,ld false n (.ptr 1 j) [o,.box ((enc_TIns x).map .p)] = ((enc_TIns x)[j]?).map .p := fun o n j => ldB12 _ _ _ _
  have t13:∀ o:AObj,ld true 13 (.ptr 0 0) [.box ((enc_TTrace t).map .p),o] = some (trV t) := fun o => ldA02 (len_TTrace13 t) (by decide) o
  have e37:∀ H,L54_37 [] [] H = some ([I (-1)],[]) := fun H => by rw [L54_37_eq]; rfl
  rw [f54_eq,ownN]
  by_cases c1:x.1 = 2
  · simp only [boxAgg0,ldB0,tr3,hc1,x3,r4,r5,g1,ti0,ti1,ti4,ti6,Nat.zero_add,Nat.add_zero,c1,core,leave0_I]
  by_cases c2:x.1 = 15
  · simp only [boxAgg0,ldB0,tr3,hc1,x3,r4,r5,g1,ti0,ti1,ti4,ti6,Nat.zero_add,Nat.add_zero,c2,Int.reduceEq,core,leave0_I]
  by_cases c3:x.1 = 16
  · simp only [boxAgg0,ldB0,tr3,hc1,x3,r4,r5,g1,ti0,ti1,ti4,ti6,Nat.zero_add,Nat.add_zero,c3,Int.reduceEq,true_or,core,leave0_I]
  by_cases c4:x.1 = 18
  · simp only [boxAgg0,ldB0,tr3,hc1,x3,r4,r5,g1,ti0,ti1,ti4,ti6,Nat.zero_add,Nat.add_zero,c4,Int.reduceEq,or_true,core,leave0_I]
  by_cases c5:x.1 = 7
  · simp only [boxAgg0,ldB0,tr3,hc1,x3,r4,r5,g1,ti0,ti1,ti4,ti6,Nat.zero_add,Nat.add_zero,c5,Int.reduceEq,or_self,or_false,true_or,and_true,and_false,core]
    by_cases d1:8 ≤ x.2.2.2.2.1
    · by_cases d2:x.2.2.2.2.1 ≤ 10
      · simp only [boxAgg0,ldB0,tr3,hc1,x3,r4,r5,g1,ti0,ti1,ti4,ti6,Nat.zero_add,Nat.add_zero,c5,d1,d2,and_self,Int.reduceEq,core,leave0_I]
      · have d3:¬ x.2.2.2.2.1 ≤ 10 := d2
        by_cases d4:x.2.2.2.2.1 = 11
        · by_cases k2:rec x.2.1 v = 2
          · simp only [boxAgg0,ldB0,tr3,hc1,x3,r4,r5,g1,ti0,ti1,ti4,ti6,Nat.zero_add,Nat.add_zero,c5,d1,d2,d4,t13,hr,k2,and_false,true_or,Int.reduceEq,Int.reduceLE,core,leave0_I]
          by_cases k3:rec x.2.1 v = 3
          · simp only [boxAgg0,ldB0,tr3,hc1,x3,r4,r5,g1,ti0,ti1,ti4,ti6,Nat.zero_add,Nat.add_zero,c5,d1,d2,d4,t13,hr,k3,and_false,or_true,Int.reduceEq,Int.reduceLE,core,leave0_I]
          · simp only [boxAgg0,ldB0,tr3,hc1,x3,r4,r5,g1,ti0,ti1,ti4,ti6,Nat.zero_add,Nat.add_zero,c5,d1,d2,d4,t13,hr,k2,k3,e37,and_false,or_self,Int.reduceEq,Int.reduceLE,core,leave0_I]
        · by_cases k2:rec x.2.1 v = 2
          · simp only [boxAgg0,ldB0,tr3,hc1,x3,r4,r5,g1,ti0,ti1,ti4,ti6,Nat.zero_add,Nat.add_zero,c5,d1,d2,d4,t13,hr,k2,and_false,true_or,Int.reduceEq,core,leave0_I]
          by_cases k3:rec x.2.1 v = 3
          · simp only [boxAgg0,ldB0,tr3,hc1,x3,r4,r5,g1,ti0,ti1,ti4,ti6,Nat.zero_add,Nat.add_zero,c5,d1,d2,d4,t13,hr,k3,and_false,or_true,Int.reduceEq,core,leave0_I]
          · simp only [boxAgg0,ldB0,tr3,hc1,x3,r4,r5,g1,ti0,ti1,ti4,ti6,Nat.zero_add,Nat.add_zero,c5,d1,d2,d4,t13,hr,k2,k3,e37,and_false,or_self,Int.reduceEq,core,leave0_I]
    · have d4:¬ x.2.2.2.2.1 = 11 := by omega
      by_cases k2:rec x.2.1 v = 2
      · simp only [boxAgg0,ldB0,tr3,hc1,x3,r4,r5,g1,ti0,ti1,ti4,ti6,Nat.zero_add,Nat.add_zero,c5,d1,d4,t13,hr,k2,false_and,true_or,Int.reduceEq,core,leave0_I]
      by_cases k3:rec x.2.1 v = 3
      · simp only [boxAgg0,ldB0,tr3,hc1,x3,r4,r5,g1,ti0,ti1,ti4,ti6,Nat.zero_add,Nat.add_zero,c5,d1,d4,t13,hr,k3,false_and,or_true,Int.reduceEq,core,leave0_I]
      · simp only [boxAgg0,ldB0,tr3,hc1,x3,r4,r5,g1,ti0,ti1,ti4,ti6,Nat.zero_add,Nat.add_zero,c5,d1,d4,t13,hr,k2,k3,e37,false_and,or_self,Int.reduceEq,core,leave0_I]
  by_cases c6:x.1 = 8
  · simp only [boxAgg0,ldB0,tr3,hc1,x3,r4,r5,g1,ti0,ti1,ti4,ti6,Nat.zero_add,Nat.add_zero,c6,Int.reduceEq,or_self,false_or,or_true,and_true,and_false,core]
    by_cases d4:x.2.2.2.2.1 = 11
    · simp only [boxAgg0,ldB0,tr3,hc1,x3,r4,r5,g1,ti0,ti1,ti4,ti6,Nat.zero_add,Nat.add_zero,c6,d4,Int.reduceEq,Int.reduceLE,core,leave0_I]
    · by_cases d1:8 ≤ x.2.2.2.2.1
      · by_cases d2:x.2.2.2.2.1 ≤ 10
        · by_cases k2:rec x.2.1 v = 2
          · simp only [boxAgg0,ldB0,tr3,hc1,x3,r4,r5,g1,ti0,ti1,ti4,ti6,Nat.zero_add,Nat.add_zero,c6,d1,d2,d4,t13,hr,k2,true_or,Int.reduceEq,core,leave0_I]
          by_cases k3:rec x.2.1 v = 3
          · simp only [boxAgg0,ldB0,tr3,hc1,x3,r4,r5,g1,ti0,ti1,ti4,ti6,Nat.zero_add,Nat.add_zero,c6,d1,d2,d4,t13,hr,k3,or_true,Int.reduceEq,core,leave0_I]
          · simp only [boxAgg0,ldB0,tr3,hc1,x3,r4,r5,g1,ti0,ti1,ti4,ti6,Nat.zero_add,Nat.add_zero,c6,d1,d2,d4,t13,hr,k2,k3,e37,or_self,Int.reduceEq,core,leave0_I]
        · by_cases k2:rec x.2.1 v = 2
          · simp only [boxAgg0,ldB0,tr3,hc1,x3,r4,r5,g1,ti0,ti1,ti4,ti6,Nat.zero_add,Nat.add_zero,c6,d1,d2,d4,t13,hr,k2,true_or,Int.reduceEq,core,leave0_I]
          by_cases k3:rec x.2.1 v = 3
          · simp only [boxAgg0,ldB0,tr3,hc1,x3,r4,r5,g1,ti0,ti1,ti4,ti6,Nat.zero_add,Nat.add_zero,c6,d1,d2,d4,t13,hr,k3,or_true,Int.reduceEq,core,leave0_I]
          · simp only [boxAgg0,ldB0,tr3,hc1,x3,r4,r5,g1,ti0,ti1,ti4,ti6,Nat.zero_add,Nat.add_zero,c6,d1,d2,d4,t13,hr,k2,k3,e37,or_self,Int.reduceEq,core,leave0_I]
      · by_cases k2:rec x.2.1 v = 2
        · simp only [boxAgg0,ldB0,tr3,hc1,x3,r4,r5,g1,ti0,ti1,ti4,ti6,Nat.zero_add,Nat.add_zero,c6,d1,d4,t13,hr,k2,true_or,Int.reduceEq,core,leave0_I]
        by_cases k3:rec x.2.1 v = 3
        · simp only [boxAgg0,ldB0,tr3,hc1,x3,r4,r5,g1,ti0,ti1,ti4,ti6,Nat.zero_add,Nat.add_zero,c6,d1,d4,t13,hr,k3,or_true,Int.reduceEq,core,leave0_I]
        · simp only [boxAgg0,ldB0,tr3,hc1,x3,r4,r5,g1,ti0,ti1,ti4,ti6,Nat.zero_add,Nat.add_zero,c6,d1,d4,t13,hr,k2,k3,e37,or_self,Int.reduceEq,core,leave0_I]
  simp only [boxAgg0,ldB0,tr3,hc1,x3,r4,r5,g1,ti0,ti1,ti4,ti6,Nat.zero_add,Nat.add_zero,c1,c2,c3,c4,c5,c6,e37,or_self,core]
theorem call22 (ht:TOk t):∀ (n:Nat)(v at':Int),at' ≤ n → ∀ lo H,callA cfg O 22 [trV t,I v,I at'] lo H = some (I (kN t.2.2.2.1.2 n v at'),H) := by
  intro n
  have hti := ht.ins
  induction n with
  | zero =>
    intro v at' ha lo H
    refine callK t rfl ?_ lo H
    rw [f22_eq,kN]
    by_cases c1:v < 0
    · simp only [boxAgg0,c1,core,leave0_I]
    · have c2:at' ≤ v := by omega
      simp only [boxAgg0,c1,c2,core,leave0_I]
  | succ n ih =>
    intro v at' ha lo H
    refine callK t rfl ?_ lo H
    rw [f22_eq,kN]
    by_cases c1:v < 0
    · simp only [boxAgg0,c1,true_or,core,leave0_I]
    by_cases c2:at' ≤ v
    · simp only [boxAgg0,c1,c2,true_or,or_true,core,leave0_I]
    by_cases c3:(t.2.2.2.1.2.length:Int) < at'
    · simp only [boxAgg0,ldB0,tr3,c1,c2,c3,or_true,Nat.zero_add,core,leave0_I]
    have hj:v.toNat < t.2.2.2.1.2.length := by omega
    obtain ⟨x,hx⟩:∃ x,t.2.2.2.1.2[v.toNat] = x := ⟨_,rfl⟩
    have i16 := idxL (sz := 8) (nl := t.2.2.2.1.1) (t := false) (xs := t.2.2.2.1.2.flatMap enc_TIns) (n := t.2.2.2.1.2.length) (i := v) ⟨by omega,by omega⟩
    have x18:∀ H n,ld false n (.fp (t.2.2.2.1.2.flatMap enc_TIns) (v.toNat * 8)) H = some (I x.1) := fun H n => by rw [ldCell0 len_TIns8 (by decide) hj,hx,ti0]; rfl
    have hget:t.2.2.2.1.2[v.toNat]? = some x := by rw [List.getElem?_eq_getElem hj,hx]
    cases c4:tells x.1 with
    | false => simp only [boxAgg0,ldB0,tr3,c1,c2,c3,or_self,i16,x18,hget,call15,tell_eq,c4,Nat.zero_add,Nat.add_zero,core,leave0_I]
    | true =>
      have e54 := call54 t x hj hx (kN t.2.2.2.1.2 n) (fun lo H => by
        rw [show ((v.toNat:Nat):Int) = v by omega]
        exact ih x.2.1 v (by omega) lo H)
      rw [show ((v.toNat:Nat):Int) = v by omega] at e54
      have t13:ld true 13 (.ptr 0 0) [.box ((enc_TTrace t).map .p)] = some (trV t) := ldA0 (len_TTrace13 t) (by decide)
      by_cases c5:0 ≤ ownN (kN t.2.2.2.1.2 n) x v
      · simp only [boxAgg0,ldB0,tr3,c1,c2,c3,or_self,i16,x18,hget,call15,tell_eq,c4,c5,t13,e54,Nat.zero_add,Nat.add_zero,core,leave0_I]
      · have w:IntKind.i64.wrap (v + 1) = ((v.toNat + 1:Nat):Int) := by rw [wrap_id (by omega)]; omega
        have lp := L22 t ht v (n := at'.toNat) (by omega) (at'.toNat - (v.toNat + 1)) (v.toNat + 1) [.box ((enc_TTrace t).map .p)] rfl (by omega) rfl
        rw [show ((at'.toNat:Nat):Int) = at' by omega] at lp
        simp only [boxAgg0,ldB0,tr3,c1,c2,c3,or_self,i16,x18,hget,call15,tell_eq,c4,c5,t13,e54,w,lp,Nat.zero_add,Nat.add_zero,core]
theorem call23 (ht:TOk t)(hk:∀ x ∈ t.2.2.2.1.2,x.1 = 2 → 0 ≤ x.2.2.2.2.2.2.1):∀ (n:Nat)(v at':Int),at' ≤ n → ∀ lo H,callA cfg O 23 [trV t,I v,I at'] lo H = some (I (kN t.2.2.2.1.2 n v at'),H) := by
  intro n
  have hti := ht.ins
  induction n with
  | zero =>
    intro v at' ha lo H
    refine callK t rfl ?_ lo H
    rw [f23_eq,kN]
    by_cases c1:v < 0
    · simp only [boxAgg0,c1,core,leave0_I]
    · have c2:at' ≤ v := by omega
      simp only [boxAgg0,c1,c2,core,leave0_I]
  | succ n ih =>
    intro v at' ha lo H
    refine callK t rfl ?_ lo H
    rw [f23_eq,kN]
    by_cases c1:v < 0
    · simp only [boxAgg0,c1,true_or,core,leave0_I]
    by_cases c2:at' ≤ v
    · simp only [boxAgg0,c1,c2,true_or,or_true,core,leave0_I]
    by_cases c3:(t.2.2.2.1.2.length:Int) < at'
    · simp only [boxAgg0,ldB0,tr3,c1,c2,c3,or_true,Nat.zero_add,core,leave0_I]
    have hj:v.toNat < t.2.2.2.1.2.length := by omega
    obtain ⟨x,hx⟩:∃ x,t.2.2.2.1.2[v.toNat] = x := ⟨_,rfl⟩
    have i16 := idxL (sz := 8) (nl := t.2.2.2.1.1) (t := false) (xs := t.2.2.2.1.2.flatMap enc_TIns) (n := t.2.2.2.1.2.length) (i := v) ⟨by omega,by omega⟩
    have x18:∀ H n,ld false n (.fp (t.2.2.2.1.2.flatMap enc_TIns) (v.toNat * 8)) H = some (I x.1) := fun H n => by rw [ldCell0 len_TIns8 (by decide) hj,hx,ti0]; rfl
    have x25:∀ H,ld true 8 (.fp (t.2.2.2.1.2.flatMap enc_TIns) (v.toNat * 8)) H = some (tiV x) := fun H => by rw [ldRow len_TIns8 (by decide) hj,hx]
    have hget:t.2.2.2.1.2[v.toNat]? = some x := by rw [List.getElem?_eq_getElem hj,hx]
    cases c4:tells x.1 with
    | false => simp only [boxAgg0,ldB0,tr3,c1,c2,c3,or_self,i16,x18,hget,call16,c4,Nat.zero_add,Nat.add_zero,core,leave0_I]
    | true =>
      have hr := fun lo H => ih x.2.1 v (by omega) lo H
      have t13:∀ o:AObj,ld true 13 (.ptr 0 0) [.box ((enc_TTrace t).map .p),o] = some (trV t) := fun o => ldA02 (len_TTrace13 t) (by decide) o
      have r4:∀ o:AObj,boxO [] [I 0,I 0,I 0,I 0,I 0,I 0,I 0,I 0] [o] = some (.ptr 1 0,[o,.box ([Ia 0,Ia 0,Ia 0,Ia 0,Ia 0,Ia 0,Ia 0,Ia 0].map .p)]) := fun o => box8 [o]
      have r5:∀ o:AObj,stA 8 (.ptr 1 0) (tiV x) [] [o,.box ([Ia 0,Ia 0,Ia 0,Ia 0,Ia 0,Ia 0,Ia 0,Ia 0].map .p)] = some [o,.box ((enc_TIns x).map .p)] := fun o => st8 x [] [o]
      have g1:∀ (o:AObj) n j,ld false n (.ptr 1 j) [o,.box ((enc_TIns x).map .p)] = ((enc_TIns x)[j]?).map .p := fun o n j => ldB12 _ _ _ _
      -- the end: a kind that is known,or the search
      have fin:∀ (k:Int) (o:AObj),k = ownN (kN t.2.2.2.1.2 n) x v → (k < 0 → k = -1) → L23_37 [I v,I at',.ptr 0 0,I k] [] [.box ((enc_TTrace t).map .p),o] = some ([I (if 0 ≤ ownN (kN t.2.2.2.1.2 n) x v then ownN (kN t.2.2.2.1.2 n) x v else up (-1) v ((t.2.2.2.1.2.take at'.toNat).drop (v.toNat + 1)))],[]) := fun k o hk1 hk2 => by
        rw [L23_37_eq,← hk1]
        by_cases q:0 ≤ k
        · simp only [q,core,leave0_I]
        · have e:k = -1 := hk2 (by omega)
          have w:IntKind.i64.wrap (at' - 1) = ((at'.toNat - 1:Nat):Int) := by rw [wrap_id (by omega)]; omega
          have lp := L23 t ht (v := v.toNat) (n := t.2.2.2.1.2.length) (Nat.le_refl _) (at'.toNat - 1 - v.toNat) (at'.toNat - 1) k [.box ((enc_TTrace t).map .p),o] rfl (by omega) (by omega) rfl
          rw [show ((v.toNat:Nat):Int) = v by omega,show at'.toNat - 1 + 1 = at'.toNat by omega,e] at lp
          rw [e] at q ⊢
          simp only [q,w,lp,core]
      have o1:∀ k,k = ownN (kN t.2.2.2.1.2 n) x v → 0 ≤ k → ∀ o,L23_37 [I v,I at',.ptr 0 0,I k] [] [.box ((enc_TTrace t).map .p),o] = some ([I (if 0 ≤ ownN (kN t.2.2.2.1.2 n) x v then ownN (kN t.2.2.2.1.2 n) x v else up (-1) v ((t.2.2.2.1.2.take at'.toNat).drop (v.toNat + 1)))],[]) := fun k h1 h2 o => fin k o h1 (fun h => absurd h2 (by omega))
      have lm:litA false 1 [I 8,I 9,I 10] = fun H => some (V (some false) true [8,9,10],H) := rfl
      by_cases d1:x.1 = 2
      · have e1:x.2.2.2.2.2.2.1 = ownN (kN t.2.2.2.1.2 n) x v := by rw [ownN,if_pos d1]
        have e := o1 _ e1 (hk x (hx ▸ List.getElem_mem hj) d1)
        simp only [boxAgg0,ldB0,tr3,c1,c2,c3,or_self,i16,x18,x25,hget,call16,c4,r4,r5,g1,ti0,ti1,ti4,ti6,Nat.zero_add,Nat.add_zero,decide_eq_true d1,e,core]
      by_cases d2:x.1 = 15
      · have e := o1 2 (by rw [ownN,if_neg d1,if_pos d2]) (by decide)
        simp only [boxAgg0,ldB0,tr3,c1,c2,c3,or_self,i16,x18,x25,hget,call16,c4,r4,r5,g1,ti0,ti1,ti4,ti6,Nat.zero_add,Nat.add_zero,decide_eq_false d1,decide_eq_true d2,e,core]
      by_cases d3:x.1 = 16
      · have e := o1 5 (by rw [ownN,if_neg d1,if_neg d2,if_pos (.inl d3)]) (by decide)
        simp only [boxAgg0,ldB0,tr3,c1,c2,c3,or_self,i16,x18,x25,hget,call16,c4,r4,r5,g1,ti0,ti1,ti4,ti6,Nat.zero_add,Nat.add_zero,decide_eq_false d1,decide_eq_false d2,decide_eq_true d3,e,core]
      by_cases d4:x.1 = 18
      · have e := o1 5 (by rw [ownN,if_neg d1,if_neg d2,if_pos (.inr d4)]) (by decide)
        simp only [boxAgg0,ldB0,tr3,c1,c2,c3,or_self,i16,x18,x25,hget,call16,c4,r4,r5,g1,ti0,ti1,ti4,ti6,Nat.zero_add,Nat.add_zero,decide_eq_false d1,decide_eq_false d2,decide_eq_false d3,decide_eq_true d4,e,core]
      have n5:¬ (x.1 = 16 ∨ x.1 = 18) := fun h => h.elim d3 d4
      have hd1 := decide_eq_false d1
      have hd2 := decide_eq_false d2
      have hd3 := decide_eq_false d3
      have hd4 := decide_eq_false d4
      -- the kind of what is reckoned with
      have recK:∀ o,(x.1 = 7 ∨ x.1 = 8) → ¬ ((8 ≤ x.2.2.2.2.1 ∧ x.2.2.2.2.1 ≤ 10 ∧ x.1 = 7) ∨ (x.2.2.2.2.1 = 11 ∧ x.1 = 8)) →
          (if (kN t.2.2.2.1.2 n x.2.1 v = 2 ∨ kN t.2.2.2.1.2 n x.2.1 v = 3) then L23_37 [I v,I at',.ptr 0 0,I (kN t.2.2.2.1.2 n x.2.1 v)] [] [.box ((enc_TTrace t).map .p),o] else L23_37 [I v,I at',.ptr 0 0,I (-1)] [] [.box ((enc_TTrace t).map .p),o])
            = some ([I (if 0 ≤ ownN (kN t.2.2.2.1.2 n) x v then ownN (kN t.2.2.2.1.2 n) x v else up (-1) v ((t.2.2.2.1.2.take at'.toNat).drop (v.toNat + 1)))],[]) := fun o h7 h8 => by
        split
        · rename_i hq
          exact fin _ o (by rw [ownN,if_neg d1,if_neg d2,if_neg n5,if_pos h7,if_neg h8,if_pos hq]) (fun h => by omega)
        · rename_i hq
          exact fin _ o (by rw [ownN,if_neg d1,if_neg d2,if_neg n5,if_pos h7,if_neg h8,if_neg hq]) (fun _ => rfl)
      by_cases d7:x.1 = 7
      · have hd7 := decide_eq_true d7
        have hd8:decide (x.1 = 8) = false := decide_eq_false (by omega)
        cases hh:hs [8,9,10] x.2.2.2.2.1 with
        | true =>
          have hm:x.2.2.2.2.1 = 8 ∨ x.2.2.2.2.1 = 9 ∨ x.2.2.2.2.1 = 10 := by simpa [hs] using hh
          have e := o1 1 (by rw [ownN,if_neg d1,if_neg d2,if_neg n5,if_pos (.inl d7),if_pos (.inl ⟨by omega,by omega,d7⟩)]) (by decide)
          simp only [boxAgg0,ldB0,tr3,c1,c2,c3,or_self,i16,x18,x25,hget,call16,c4,r4,r5,g1,ti0,ti1,ti4,ti6,Nat.zero_add,Nat.add_zero,hd1,hd2,hd3,hd4,hd7,lit3,call42 [8,9,10],hh,e,core]
        | false =>
          have hm:¬ (x.2.2.2.2.1 = 8 ∨ x.2.2.2.2.1 = 9 ∨ x.2.2.2.2.1 = 10) := by
            intro h
            have:hs [8,9,10] x.2.2.2.2.1 = true := by simpa [hs] using h
            rw [this] at hh; cases hh
          have e := fun o => recK o (.inl d7) (fun h => h.elim (fun h => hm (by omega)) (fun h => by omega))
          by_cases k2:kN t.2.2.2.1.2 n x.2.1 v = 2
          · have e' := fun o => e o
            simp only [k2,true_or,if_true] at e'
            simp only [boxAgg0,ldB0,tr3,c1,c2,c3,or_self,i16,x18,x25,hget,call16,c4,r4,r5,g1,ti0,ti1,ti4,ti6,Nat.zero_add,Nat.add_zero,hd1,hd2,hd3,hd4,hd7,hd8,lit3,call42 [8,9,10],hh,t13,hr,k2,e',core]
          by_cases k3:kN t.2.2.2.1.2 n x.2.1 v = 3
          · have e' := fun o => e o
            simp only [k3,or_true,if_true] at e'
            simp only [boxAgg0,ldB0,tr3,c1,c2,c3,or_self,i16,x18,x25,hget,call16,c4,r4,r5,g1,ti0,ti1,ti4,ti6,Nat.zero_add,Nat.add_zero,hd1,hd2,hd3,hd4,hd7,hd8,lit3,call42 [8,9,10],hh,t13,hr,k3,e',Int.reduceEq,core]
          · have e' := fun o => e o
            simp only [k2,k3,or_self,if_false] at e'
            simp only [boxAgg0,ldB0,tr3,c1,c2,c3,or_self,i16,x18,x25,hget,call16,c4,r4,r5,g1,ti0,ti1,ti4,ti6,Nat.zero_add,Nat.add_zero,hd1,hd2,hd3,hd4,hd7,hd8,lit3,call42 [8,9,10],hh,t13,hr,k2,k3,e',core]
      have hd7 := decide_eq_false d7
      by_cases d8:x.1 = 8
      · have hd8 := decide_eq_true d8
        by_cases hh:x.2.2.2.2.1 = 11
        · have e := o1 1 (by rw [ownN,if_neg d1,if_neg d2,if_neg n5,if_pos (.inr d8),if_pos (.inr ⟨hh,d8⟩)]) (by decide)
          simp only [boxAgg0,ldB0,tr3,c1,c2,c3,or_self,i16,x18,x25,hget,call16,c4,r4,r5,g1,ti0,ti1,ti4,ti6,Nat.zero_add,Nat.add_zero,hd1,hd2,hd3,hd4,hd7,hd8,decide_eq_true hh,e,core]
        · have e := fun o => recK o (.inr d8) (fun h => h.elim (fun h => d7 h.2.2) (fun h => hh h.1))
          have hh' := decide_eq_false hh
          by_cases k2:kN t.2.2.2.1.2 n x.2.1 v = 2
          · have e' := fun o => e o
            simp only [k2,true_or,if_true] at e'
            simp only [boxAgg0,ldB0,tr3,c1,c2,c3,or_self,i16,x18,x25,hget,call16,c4,r4,r5,g1,ti0,ti1,ti4,ti6,Nat.zero_add,Nat.add_zero,hd1,hd2,hd3,hd4,hd7,hd8,hh',t13,hr,k2,e',core]
          by_cases k3:kN t.2.2.2.1.2 n x.2.1 v = 3
          · have e' := fun o => e o
            simp only [k3,or_true,if_true] at e'
            simp only [boxAgg0,ldB0,tr3,c1,c2,c3,or_self,i16,x18,x25,hget,call16,c4,r4,r5,g1,ti0,ti1,ti4,ti6,Nat.zero_add,Nat.add_zero,hd1,hd2,hd3,hd4,hd7,hd8,hh',t13,hr,k3,e',Int.reduceEq,core]
          · have e' := fun o => e o
            simp only [k2,k3,or_self,if_false] at e'
            simp only [boxAgg0,ldB0,tr3,c1,c2,c3,or_self,i16,x18,x25,hget,call16,c4,r4,r5,g1,ti0,ti1,ti4,ti6,Nat.zero_add,Nat.add_zero,hd1,hd2,hd3,hd4,hd7,hd8,hh',t13,hr,k2,k3,e',core]
      · have hd8 := decide_eq_false d8
        have e := fun o => fin (-1) o (by rw [ownN,if_neg d1,if_neg d2,if_neg n5,if_neg (fun h:x.1 = 7 ∨ x.1 = 8 => h.elim d7 d8)]) (fun _ => rfl)
        simp only [boxAgg0,ldB0,tr3,c1,c2,c3,or_self,i16,x18,x25,hget,call16,c4,r4,r5,g1,ti0,ti1,ti4,ti6,Nat.zero_add,Nat.add_zero,hd1,hd2,hd3,hd4,hd7,hd8,e,core]
end Ir
end Go.Proofs.YtnjfpnoamgipjaaDoor
set_option linter.unusedVariables false
set_option linter.unusedSimpArgs false
set_option maxRecDepth 100000
namespace Go.Proofs.YtnjfpnoamgipjaaDoor
open Go Go.AM
namespace Ir
theorem rightR_kind {v:A_Val}(h:rightR v = true):0 ≤ v.1 := by
  refine Classical.byContradiction fun hn => ?_
  have h0:¬ v.1 = 0 := by omega
  have h1:¬ v.1 = 1 := by omega
  have h2:¬ v.1 = 2 := by omega
  have h3:¬ v.1 = 3 := by omega
  have h4:¬ v.1 = 4 := by omega
  have h5:¬ v.1 = 5 := by omega
  have h6:¬ v.1 = 6 := by omega
  simp only [rightR,h0,h1,h2,h3,h4,h5,h6,or_self,if_false] at h
  cases h
theorem formR_kind {ins:List A_TIns}{exits:List A_TExit}{regs clen at':Int}{x:A_TIns}(h:formR ins exits regs clen at' x = true)(h2:x.1 = 2):0 ≤ x.2.2.2.2.2.2.1 := by
  unfold formR at h
  split at h
  · split at h
    · split at h
      · simp only [tailR,Bool.and_eq_true] at h
        have hk := h.1.2
        rw [kOk,if_pos (.inl h2)] at hk
        simp only [Bool.and_eq_true] at hk
        exact rightR_kind hk.1
      · cases h
    · cases h
  · cases h
theorem insE_all {ins:List A_TIns}{exits:List A_TExit}{regs clen k:Int}:∀ (l:List A_TIns)(i:Nat),insE ins exits regs clen k i l = 0 → ∀ x ∈ l,x.1 = 2 → 0 ≤ x.2.2.2.2.2.2.1
  | [],_,_,x,hx,_ => by cases hx
  | y :: l,i,h,x,hx,h2 => by
    unfold insE at h
    split at h
    · cases h
    · split at h
      · rename_i hf
        rcases List.mem_cons.mp hx with rfl | hx
        · exact formR_kind hf h2
        · exact insE_all l (i + 1) h x hx h2
      · cases h
theorem chk_kinds {p:A_Prog}{t:A_TTrace}(h:chkR p t = 0):∀ x ∈ t.2.2.2.1.2,x.1 = 2 → 0 ≤ x.2.2.2.2.2.2.1 := by
  unfold chkR at h
  split at h
  · cases h
  · split at h
    · cases h
    · split at h
      · cases h
      · exact insE_all _ _ h
end Ir
end Go.Proofs.YtnjfpnoamgipjaaDoor

