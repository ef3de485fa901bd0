/-
The abstract machine's run: regions, code, labels, calls; and what it comes to for whatever fuel.
-/
import Derived.Test.YtfdnamedmjhcfaaDoorAm0
import Derived.Orders
import Derived.Sort.Statements
import Derived.Lib.BitFns
import Derived.Lib.Fields
namespace Go.AM

/-- A range over slices.Backward's function: which function that is; its elements; does what a round makes go at its end (the level)?; the places that are filled; the text ahead of a round, and its own. -/
structure Rng where
  g : FuncId
  agg : Bool
  sz : Nat
  b : Option Nat
  ps : Array Tmp
  x : Code
  y : Code

inductive It where
  | code (c : Code)
  | blk (id : Nat)
  | lp (c : Code) (b : Option Nat)
  | jn
  /-- Between two rounds of a range over a function. -/
  | rf (R : Rng)

abbrev Slots := Nat → AV

structure Oracle where
  ent : FuncId → List AV → List Nat → Heap → Res
  lab : FuncId → List Nat → List It → List AV → List Nat → Heap → Res

/-- At a label: the slots that are kept; the places among them that are owned from here on (with their elements' cells); is what was made since let go at each round's end? -/
structure LabCfg where
  keep : List Nat
  own : List (Nat × Nat)
  trunc : Bool

/-- What the shelf's contracts speak of: slices.SortFunc of rows of so many cells (are they structs?); slices.Sort of ints. -/
inductive ExtK where
  | sort (agg : Bool) (k : Nat)
  | ints
  | del
  | fields

/-- What the model answers by itself. -/
inductive Prim where
  | f64from | f64bits

def primNm (n : String) : Option Prim := if (n == "math.Float64frombits") = true then some .f64from else if (n == "math.Float64bits") = true then some .f64bits else none

def primOf (P : Program) (g : FuncId) : Option Prim :=
  match P.funcs[g]? with
  | some fn => if (fn.body.isNone && fn.origin == "" && !(fn.name == "runtime.NumGoroutine")) = true then primNm fn.name else none
  | none => none

def primA (k : Prim) (args : List AV) : Option AV :=
  match k, args with
  | .f64from, [.p (.v (.int .u64 n))] => some (.p (.v (.float .f64 n.toNat)))
  | .f64bits, [.p (.v (.float .f64 b))] => some (.p (.v (.int .u64 b)))
  | _, _ => none

/-- Operations of drawn regions that are taken otherwise: a read not out of the last object; a write into it; a row at a place kept; a read of what holds no truth value; a call that is pure at this place (or the length of what is no map); a read out of the first object; a write not into it; a call over no heap whose rows are laid at places kept. -/
inductive Sp where
  | ldx | stx | ldn | pc | ld0 | st1
  | frow (m r : Nat)
  | thw (m r k : Nat)

/-- What is said of a closure that is called: it changes truth values alone; so, and may change places with a variable of these cells; it gives the heap back as it was. -/
inductive ClK where
  | bools
  | past (zs : List PV)
  | same

structure Cfg where
  /-- 0: a pure call; 1: the whole heap goes with it; 2: so, but what it made is let go at its return; 3: so, and the heap is then as it was; 4: as 1, and the heap has then at most one object more; 5: as 0, but rows that are handed in are frozen for good; 6: as 1, and no box is changed; 9: so, and a variable may be made ahead of it; 7: as 2, and of what was in variables truth values alone may be other; 10: so, and a variable may be made ahead of it. -/
  mode : FuncId → Nat
  lab : FuncId → Nat → Option LabCfg
  ownLit : FuncId → Nat → Bool
  /-- At a variable in memory: which of its cells are owned at once, with their elements' cells. -/
  ownBox : FuncId → Nat → List (Nat × Nat)
  /-- Functions whose contracts are the shelf's. -/
  ext : FuncId → Option ExtK := fun _ => none
  /-- Reads out of frozen lists alone; slice literals of pure values: neither hangs on the heap. -/
  flat : FuncId → Nat → Bool := fun _ _ => false
  /-- Of a drawn region: how many places are kept for variables that it makes; of such a variable: that number, and which place it takes. -/
  holes : FuncId → Nat → Nat := fun _ _ => 0
  hole : FuncId → Nat → Option (Nat × Nat) := fun _ _ => none
  /-- Of a function in mode 9: the cells of the variable that may come ahead of its call. -/
  holeZ : FuncId → List PV := fun _ => []
  spec : FuncId → Nat → Option Sp := fun _ _ => none
  clos : FuncId → Nat → Option ClK := fun _ _ => none
  /-- Ranges over slices.Backward's function: that function, and the elements (are they structs? of how many cells?). -/
  rng : FuncId → Nat → Option (FuncId × Bool × Nat) := fun _ _ => none

def upd (s : Slots) (d : Nat) (x : AV) : Slots := fun i => bif Nat.beq i d then x else s i

def mkS : List Nat → List AV → Slots
  | k :: ks, v :: vs => upd (mkS ks vs) k v
  | _, _ => fun _ => .any

def setDst (d : Option Tmp) (x : AV) (s : Slots) : Slots :=
  match d with
  | some d => upd s d x
  | none => s

def ev (s : Slots) : Operand → AV
  | .tmp t => s t
  | .const v => ofValue v
  | .func f => .fn f [] []
  | .global g => .p (.v (.pointer (some ⟨g, 0, none⟩)))

def ret : List AV → AV
  | [x] => x
  | xs => .tup xs

/-! ### Freezing what is handed on -/
def frzLeaf (H : Heap) (x : AV) : Option (AV × Heap) :=
  match x with
  | .row _ _ _ _ => (toPV H x).map fun r => (.p r.1, r.2)
  | .bsl id n => (frzBox id n H).map fun r => (.p r.1, r.2)
  | x => some (x, H)

def frzLeaves : Heap → List AV → Option (List AV × Heap)
  | H, [] => some ([], H)
  | H, x :: xs => (frzLeaf H x).bind fun r => (frzLeaves r.2 xs).map fun q => (r.1 :: q.1, q.2)

def frzA (H : Heap) (x : AV) : Option (AV × Heap) :=
  match x with
  | .agg xs => (frzLeaves H xs).map fun q => (.agg q.1, q.2)
  | x => frzLeaf H x

def frzAll : Heap → List AV → Option (List AV × Heap)
  | H, [] => some ([], H)
  | H, x :: xs => (frzA H x).bind fun r => (frzAll r.2 xs).map fun q => (r.1 :: q.1, q.2)

/-! ### Calls -/
def pureLeaf (H : Heap) (x : AV) : Option (AV × Bool) :=
  match x with
  | .p y => some (.p y, false)
  | .fp xs off => some (.fp xs off, false)
  | .row id g off n =>
    match H[id]? with
    | some (.row g' sz xs) => if g' = g ∧ off + n * sz ≤ xs.length then some (.p (.sl none false n ((xs.drop off).take (n * sz))), true) else none
    | _ => none
  | .fn f a c => if (a.all (AV.ltd 0) && c.all (AV.ltd 0)) = true then some (.fn f a c, false) else none
  | _ => none

def pureLeaves (H : Heap) : List AV → Option (List AV × Bool)
  | [] => some ([], false)
  | x :: xs => (pureLeaf H x).bind fun r => (pureLeaves H xs).map fun q => (r.1 :: q.1, r.2 || q.2)

def pureArg (H : Heap) (x : AV) : Option (AV × Bool) :=
  match x with
  | .agg xs => (pureLeaves H xs).map fun q => (.agg q.1, q.2)
  | x => pureLeaf H x

def pureArgs (H : Heap) : List AV → Option (List AV × Bool)
  | [] => some ([], false)
  | x :: xs => (pureArg H x).bind fun r => (pureArgs H xs).map fun q => (r.1 :: q.1, r.2 || q.2)

def scalarLeaf : AV → Bool
  | .p (.v _) => true
  | _ => false

def scalarA : AV → Bool
  | .agg xs => xs.all scalarLeaf
  | x => scalarLeaf x

open Classical in
/-- Is a heap the one that was? -/
noncomputable def sameH (H : Heap) (x : AV) (H' : Heap) : Option (AV × Heap) := if H' = H then some (x, H) else none

open Classical in
/-- Is a heap the one that was, or has it one object more? -/
noncomputable def oneH (H : Heap) (x : AV) (H' : Heap) : Option (AV × Heap) := if H' = H ∨ ∃ o, H' = H ++ [o] then some (x, H') else none

open Classical in
/-- Are no boxes but those that were, each as it was? -/
noncomputable def rowsH (H : Heap) (x : AV) (H' : Heap) : Option (AV × Heap) := if H.length ≤ H'.length ∧ ∀ (id : Nat) zs, H[id]? = some (.box zs) ↔ H'[id]? = some (.box zs) then some (x, H') else none

open Classical in
/-- Is it, but for truth values, what it was? -/
noncomputable def boolsH (H : Heap) (x : AV) (H' : Heap) : Option (AV × Heap) := if H.length ≤ H'.length ∧ ∀ id : Nat, hideO H[id]? = hideO H'[id]? then some (x, H') else none

open Classical in
/-- Is the answer the same where the place that is kept is taken? -/
noncomputable def holeH (O : Oracle) (g : FuncId) (args : List AV) (lo : List Nat) (H : Heap) (zs : List PV) (rs : List AV) (H' : Heap) : Option (AV × Heap) :=
  if H[H.findIdx isHole]? = some .hole then
    (O.ent g args lo (H.set (H.findIdx isHole) (.box (zs.map .p)))).bind fun r =>
      if r = (rs, H'.set (H.findIdx isHole) (.box (zs.map .p))) ∧ H'.findIdx isHole = H.findIdx isHole ∧ H'[H.findIdx isHole]? = some .hole ∧ (∀ o ∈ H.set (H.findIdx isHole) (.box (zs.map .p)), isHole o = false) ∧ (∀ o ∈ H'.set (H.findIdx isHole) (.box (zs.map .p)), isHole o = false) then some (ret rs, H') else none
  else if (∀ o ∈ H, isHole o = false) ∧ ∀ o ∈ H', isHole o = false then some (ret rs, H') else none

open Classical in
/-- Is the answer the same where the last place is taken? -/
noncomputable def lastH (O : Oracle) (g : FuncId) (args : List AV) (lo : List Nat) (H : Heap) (zs : List PV) (rs : List AV) (H' : Heap) : Option (AV × Heap) :=
  if H'.length = H.length then
    if H[H.length - 1]? = some .hole then
      (O.ent g args lo (H.set (H.length - 1) (.box (zs.map .p)))).bind fun r => if r = (rs, H'.set (H.length - 1) (.box (zs.map .p))) ∧ H'[H.length - 1]? = some .hole then some (ret rs, H') else none
    else if H'[H.length - 1]? = some .hole then none else some (ret rs, H')
  else none

noncomputable def callA (cfg : Cfg) (O : Oracle) (g : FuncId) (args : List AV) (lo : List Nat) (H : Heap) : Option (AV × Heap) :=
  match cfg.mode g with
  | 0 =>
    (pureArgs H args).bind fun q => (O.ent g q.1 [] []).bind fun r =>
      if (r.1.all (AV.ltd 0) && (!q.2 || r.1.all scalarA)) = true then some (ret r.1, H) else none
  | 3 => (O.ent g args lo H).bind fun r => sameH H (ret r.1) r.2
  | 4 => (O.ent g args lo H).bind fun r => oneH H (ret r.1) r.2
  | 6 => (O.ent g args lo H).bind fun r => rowsH H (ret r.1) r.2
  | 9 => (O.ent g args lo H).bind fun r => (rowsH H (ret r.1) r.2).bind fun _ => holeH O g args lo H (cfg.holeZ g) r.1 r.2
  | 7 => (O.ent g args lo H).bind fun r => boolsH H (ret r.1) r.2
  | 10 => (O.ent g args lo H).bind fun r => (boolsH H (ret r.1) r.2).bind fun _ => lastH O g args lo H (cfg.holeZ g) r.1 r.2
  | 5 => (frzAll H args).bind fun q => if q.1.all (AV.ltd 0) = true then (O.ent g q.1 [] []).bind fun r => if r.1.all (AV.ltd 0) = true then some (ret r.1, q.2) else none else none
  | _ => (O.ent g args lo H).map fun r => (ret r.1, r.2)

noncomputable def callV (cfg : Cfg) (O : Oracle) (f : AV) (args : List AV) (lo : List Nat) (H : Heap) : Option (AV × Heap) :=
  match f with
  | .fn g first cap => callA cfg O g (first ++ args ++ cap) lo H
  | _ => none

def isSameK : Option ClK → Bool
  | some .same => true
  | _ => false
def isBoolsK : Option ClK → Bool
  | some .bools => true
  | some (.past _) => true
  | _ => false
def isPastK (zs : List PV) : Option ClK → Bool
  | some (.past ys) => pvsSame ys zs
  | _ => false

def closV (cfg : Cfg) (q : Option ClK) (x : AV) : Bool :=
  match q with
  | none => true
  | some k =>
    match x with
    | .fn g _ _ =>
      (match k with
       | .bools => Nat.beq (cfg.mode g) 7 || Nat.beq (cfg.mode g) 10
       | .past zs => Nat.beq (cfg.mode g) 10 && pvsSame (cfg.holeZ g) zs
       | .same => Nat.beq (cfg.mode g) 3 || Nat.beq (cfg.mode g) 0)
    | _ => false

noncomputable def callC (cfg : Cfg) (O : Oracle) (q : Option ClK) (f : AV) (args : List AV) (lo : List Nat) (H : Heap) : Option (AV × Heap) := if closV cfg q f = true then callV cfg O f args lo H else none

/-! ### Sorts -/
noncomputable def cmpOne (cfg : Cfg) (O : Oracle) (cl a b : AV) : Option Int :=
  (callV cfg O cl [a, b] [] []).bind fun r => match r with | (.p (.v (.int .i64 z)), []) => some z | _ => none

noncomputable def cmpRow (cfg : Cfg) (O : Oracle) (cl a : AV) : List AV → Option (List Int)
  | [] => some []
  | b :: bs => (cmpOne cfg O cl a b).bind fun z => (cmpRow cfg O cl a bs).bind fun zs => some (z :: zs)

noncomputable def cmpTab (cfg : Cfg) (O : Oracle) (cl : AV) (all : List AV) : List AV → Option (List (List Int))
  | [] => some []
  | a :: as => (cmpRow cfg O cl a all).bind fun r => (cmpTab cfg O cl all as).bind fun rs => some (r :: rs)

def elemA (agg : Bool) (c : List PV) : AV := if agg then .agg (c.map .p) else match c with | [x] => .p x | _ => .any
def rowAt (sz : Nat) (xs : List PV) (i : Nat) : List PV := (xs.drop (i * sz)).take sz
def tabLt {n : Nat} (tab : List (List Int)) (i j : Fin n) : Bool := decide (((tab.getD i.val []).getD j.val 0) < 0)

open Classical in
/-- The places, in the order that slices.SortFunc brings them into. -/
noncomputable def sortP (n : Nat) (tab : List (List Int)) : Option (List Nat) :=
  match n with
  | 0 => some []
  | m + 1 => if Sort.SWO (tabLt (n := m + 1) tab) then some ((Sort.pdq (tabLt tab) (Array.ofFn (n := m + 1) id) 0 (m + 1) (Lib.bitLen (m + 1)) true true).toList.map Fin.val) else none

noncomputable def sortRun (cfg : Cfg) (O : Oracle) (k : Bool × Nat) (args : List AV) (H : Heap) : Res :=
  match args with
  | [.p (.sl _ _ 0 _), .fn _ _ _] => some ([], H)
  | [.row id g off n, .fn c [] cap] =>
    match H[id]? with
    | some (.row g' sz' xs) =>
      if g' = g ∧ sz' = k.2 ∧ 0 < k.2 ∧ off + n * k.2 ≤ xs.length ∧ 0 < n ∧ n < 2 ^ 40 ∧ cap.all (AV.ltd 0) = true then
        (cmpTab cfg O (.fn c [] cap) ((List.range n).map fun i => elemA k.1 (rowAt k.2 (xs.drop off) i)) ((List.range n).map fun i => elemA k.1 (rowAt k.2 (xs.drop off) i))).bind fun tab =>
          (sortP n tab).bind fun p => some ([], H.set id (.row g k.2 (splice xs off (p.flatMap fun i => rowAt k.2 (xs.drop off) i))))
      else none
    | _ => none
  | _ => none

def intsOf : List PV → Option (List Int)
  | [] => some []
  | .v (.int .i64 n) :: xs => (intsOf xs).map fun r => n :: r
  | _ => none

def intsRun (args : List AV) (H : Heap) : Res :=
  match args with
  | [.p (.sl _ _ 0 _)] => some ([], H)
  | [.row id g off n] =>
    match H[id]? with
    | some (.row g' sz' xs) =>
      if g' = g ∧ sz' = 1 ∧ off + n ≤ xs.length ∧ 0 < n ∧ n < 2 ^ 40 then
        (intsOf ((xs.drop off).take n)).bind fun zs => some ([], H.set id (.row g 1 (splice xs off ((zs.mergeSort fun x y => decide (x ≤ y)).map fun z => .v (.int .i64 z)))))
      else none
    | _ => none
  | _ => none

/-- slices.Delete at []int. -/
def delRun (args : List AV) (H : Heap) : Res :=
  match args with
  | [.row id g off n, .p (.v (.int .i64 i)), .p (.v (.int .i64 j))] =>
    match H[id]? with
    | some (.row g' sz' xs) =>
      if g' = g ∧ sz' = 1 ∧ off = 0 ∧ n = xs.length ∧ 0 ≤ i ∧ i ≤ j ∧ j ≤ n ∧ 0 < n ∧ n < 2 ^ 40 then
        (intsOf xs).bind fun zs => some ([.row id (g + 1) 0 (n - (j.toNat - i.toNat))], H.set id (.row (g + 1) 1 ((zs.take i.toNat ++ zs.drop j.toNat).map fun z => .v (.int .i64 z))))
      else none
    | _ => none
  | _ => none

/-- strings.Fields of a text of plain letters: the words. -/
def strWords (s : ByteArray) : List PV := (Lib.fields s.data.toList).map fun l => .v (.string ⟨l.toArray⟩)
def fieldsRun (args : List AV) (H : Heap) : Res :=
  match args with
  | [.p (.v (.string s))] => if (decide (s.size < 65536) && s.data.toList.all (fun b => decide (b.toNat < 128)) && !(strWords s).isEmpty) = true then some ([.p (.sl (some false) true (strWords s).length (strWords s))], H) else none
  | _ => none

noncomputable def extRun (cfg : Cfg) (O : Oracle) (k : ExtK) (args : List AV) (H : Heap) : Res :=
  match k with
  | .sort a n => sortRun cfg O (a, n) args H
  | .ints => intsRun args H
  | .del => delRun args H
  | .fields => fieldsRun args H

/-! ### Results -/
def leave (mode : Nat) (lo : List Nat) (xs : List AV) (H : Heap) : Res :=
  match mode with
  | 0 => (frzAll H xs).bind fun r => if r.1.all (AV.ltd 0) = true then some (r.1, []) else none
  | 5 => (frzAll H xs).bind fun r => if r.1.all (AV.ltd 0) = true then some (r.1, []) else none
  | 1 => some (xs, H)
  | 4 => some (xs, H)
  | 6 => some (xs, H)
  | 9 => some (xs, H)
  | _ =>
    match lo with
    | l :: _ => (frzAll H xs).bind fun r => if r.1.all (AV.ltd l) = true then some (r.1, r.2.take l) else none
    | [] => none

def okT (P : Program) (t : TypeId) : Bool := (P.underlying t).isSome

def resOf (P : Program) (s : Slots) (H : Heap) : List ResultVar → Option (List AV)
  | [] => some []
  | .tmp t :: rs => (resOf P s H rs).map fun q => s t :: q
  | .cell a t :: rs => if okT P t = true then (ld (isAggT P t) (P.cellsOf t) (s a) H).bind fun x => (resOf P s H rs).map fun q => x :: q else none

def finish (P : Program) (cfg : Cfg) (f : FuncId) (s : Slots) (lo : List Nat) (H : Heap) : Res :=
  match P.funcs[f]? with
  | some fn => (resOf P s H fn.results.toList).bind fun xs => leave (cfg.mode f) lo xs H
  | none => none

/-! ### Operations -/
inductive Out where
  | val (x : AV)
  | opt (x : Option AV)
  | heap (x : Option (AV × Heap))
  | no

def fieldsOk (P : Program) (fields : Array Field) : Bool := fields.toList.all fun f => (P.info? f.type).isSome

/-- The parts of a build, of a struct's type: offset, size, part. -/
def partsOf (P : Program) (s : Slots) (fields : Array Field) : List (Nat × Operand) → Option (List (Nat × Nat × AV))
  | [] => some []
  | (i, x) :: r =>
    match fields[i]?, partsOf P s fields r with
    | some f, some q => some ((f.offset, P.cellsOf f.type, ev s x) :: q)
    | _, _ => none

def zeroOf (P : Program) (t : TypeId) : Option AV :=
  match P.info? t with
  | some i => i.zero.map ofValue
  | none => none

def zeroCellsOf (P : Program) (t : TypeId) : Option (List PV) := (zeroOf P t).bind fun z => pvCells z.cells

/-- The cells of a new variable that are owned at once. -/
def ownCells : List (Nat × Nat) → List AV → Heap → Option (List AV × Heap)
  | [], xs, H => some (xs, H)
  | (j, sz) :: r, xs, H =>
    match xs[j]? with
    | some (.p (.sl (some true) _ _ _)) => ownCells r (xs.set j (.row H.length 0 0 0)) (H ++ [.row 0 sz []])
    | _ => none

def boxO (own : List (Nat × Nat)) (xs : List AV) (H : Heap) : Option (AV × Heap) :=
  if xs.all AV.leaf = true then
    match own with
    | [] => some (boxA xs H)
    | own => (ownCells own xs H).map fun r => boxA r.1 r.2
  else none

/-- Are a literal's parts all there, in order? -/
def inOrder : Nat → List (Nat × Operand) → Bool
  | _, [] => true
  | j, (i, _) :: r => Nat.beq i j && inOrder (j + 1) r

def mapOf (P : Program) (t : TypeId) : Option (TypeId × TypeId) :=
  match P.underlying t with
  | some (.map k e) => some (k, e)
  | _ => none

def dstNo (o : Oper) : Nat := o.dst.getD 0

/-- An array that is made as a row; where its cells may hold what this call owns (cfg.ownLit): none, it is a variable as any other. -/
def arrBox (P : Program) (cfg : Cfg) (f : FuncId) (o : Oper) (t : TypeId) : Option (Nat × TypeId) := if cfg.ownLit f (dstNo o) = true then none else arrOf P t

noncomputable def exec1 (P : Program) (cfg : Cfg) (O : Oracle) (f : FuncId) (lo : List Nat) (o : Oper) (s : Slots) (H : Heap) : Out :=
  match o.op with
  | .move x | .assign x => .val (ev s x)
  | .pick c a b => .opt (pickA (ev s c) (ev s a) (ev s b))
  | .binOp op t x y _ => .opt (bin op (tyOf P t) (ev s x) (ev s y))
  | .unOp op _ x => .opt (un op (ev s x))
  | .convert a b x => .opt (conv (cvOf P a b) (ev s x))
  | .extract t j => .opt (extractA (ev s t) j)
  | .nilCheck x => .opt (nilCheckA (ev s x))
  | .makeFunc (.func g) first cap => .val (.fn g (first.toList.map (ev s)) (cap.toList.map (ev s)))
  | .makeInterface t x =>
    (match P.underlying t, ev s x with
     | none, _ => .no
     | some (.interface _), _ => .no
     | _, .p (.v v) => .val (.p (.v (.iface t v)))
     | _, _ => .no)
  | .field t x j =>
    (match P.underlying t with
     | some (.struct fields) => (match fields[j]? with | some fd => if okT P fd.type = true then .opt (fieldA (isAggT P fd.type) fd.offset (P.cellsOf fd.type) (ev s x)) else .no | none => .no)
     | _ => .no)
  | .build t parts =>
    (match P.underlying t, zeroOf P t with
     | some (.struct fields), some z => if (fieldsOk P fields && z.cells.all AV.leaf) = true then (match partsOf P s fields parts.toList with | some q => .opt (buildA z.cells q) | none => .no) else .no
     | some (.array _ e), some z => if (okT P e && z.cells.all AV.leaf) = true then .opt (buildA z.cells (parts.toList.map fun p => (p.1 * P.cellsOf e, P.cellsOf e, ev s p.2))) else .no
     | _, _ => .no)
  | .load t a => if okT P t = true then .opt (bif cfg.flat f (dstNo o) then ldF (isAggT P t) (P.cellsOf t) (ev s a) else bif cfg.ownLit f (dstNo o) then ldS (isAggT P t) (P.cellsOf t) (ev s a) H else ld (isAggT P t) (P.cellsOf t) (ev s a) H) else .no
  | .store t a x => if okT P t = true then .heap ((stA (P.cellsOf t) (ev s a) (ev s x) lo H).map fun H' => (undefA, H')) else .no
  | .fieldAddr t x j =>
    (match P.underlying t with
     | some (.struct fields) => (match fields[j]? with | some fd => if (okT P fd.type && !(Nat.beq (P.cellsOf fd.type) 0)) = true then .opt (fldA fd.offset (ev s x)) else .no | none => .no)
     | _ => .no)
  | .indexAddr t x i =>
    (match sliceElem P t with
     | some e => if okT P e = true then .opt (idxA (P.cellsOf e) (ev s x) (ev s i)) else .no
     | none => (match arrOf P t with | some q => if okT P q.2 = true then .opt (idxArr (P.cellsOf q.2) q.1 (ev s x) (ev s i)) else .no | none => .no))
  | .index t x i =>
    (match tyOf P t with
     | .str => .opt (strAt (ev s x) (ev s i))
     | _ => (match arrOf P t with | some q => if okT P q.2 = true then .opt (arrAt (isAggT P q.2) (P.cellsOf q.2) q.1 (ev s x) (ev s i)) else .no | none => .no))
  | .makeMap t r =>
    (match tyOf P t, r with
     | .map, none => .heap (some (mkMap H))
     | .map, some n => .heap ((asI (ev s n)).map fun _ => mkMap H)
     | _, _ => .no)
  | .lookup t x i ok2 =>
    (match mapOf P t with
     | some (kt, et) => (match zeroOf P et with | some z => .opt (lookA (tyOf P kt) z ok2 (ev s x) (ev s i) H) | none => .no)
     | none => .no)
  | .mapUpdate t m k v =>
    (match mapOf P t with
     | some (kt, _) => .heap ((mapUpdA (tyOf P kt) (ev s m) (ev s k) (ev s v) lo H).map fun H' => (undefA, H'))
     | none => .no)
  | .mapEntry t m k =>
    (match mapOf P t with
     | some (kt, et) => (match zeroOf P et with | some z => .heap (mapEntA (tyOf P kt) z (ev s m) (ev s k) lo H) | none => .no)
     | none => .no)
  | .range t x => (match tyOf P t with | .map => .heap (rangeA (ev s x) H) | _ => .no)
  | .entry x => .opt (entryA (ev s x) H)
  | .entryStore _ m st v => .heap ((entStA (ev s m) (ev s st) (ev s v) lo H).map fun H' => (undefA, H'))
  | .slice t x l h m =>
    (match sliceElem P t, tyOf P t, m with
     | some e, _, _ => if okT P e = true then .opt (cutA (P.cellsOf e) (ev s x) (l.map (ev s)) (h.map (ev s)) (m.map (ev s)) H) else .no
     | none, .str, none => .opt (cutStr (ev s x) (l.map (ev s)) (h.map (ev s)))
     | none, _, none => (match arrOf P t with | some q => if okT P q.2 = true then .opt (cutArr (P.cellsOf q.2) q.1 (ev s x) (l.map (ev s)) (h.map (ev s)) H) else .no | none => .no)
     | _, _, _ => .no)
  | .alloc t =>
    (match zeroOf P t with
     | some z =>
       (match arrBox P cfg f o t with
        | some q => (match pvCells z.cells with | some cs => .heap (some (mkArr (P.cellsOf q.2) cs H)) | none => .no)
        | none => (match cfg.hole f (dstNo o) with | some q => .heap (fillA q.1 q.2 z.cells H) | none => .heap (boxO (cfg.ownBox f (dstNo o)) z.cells H)))
     | none => .no)
  | .box _ x => .heap (boxO (cfg.ownBox f (dstNo o)) (ev s x).cells H)
  | .makeSlice t l c =>
    (match sliceElem P t with
     | some e => if elemOk P e = true then (match zeroCellsOf P e with | some z => if cfg.ownLit f (dstNo o) = true then .heap (mkBsl (P.cellsOf e) (P.bytesOf e) z (ev s l) (ev s c) H) else .heap (mkRow (P.cellsOf e) (P.bytesOf e) z (ev s l) (ev s c) H) | none => .no) else .no
     | none => .no)
  | .buildSlice t n parts =>
    (match sliceElem P t with
     | some e => if (inOrder 0 parts.toList && Nat.beq n parts.size && elemOk P e && Nat.ble (n * (P.cellsOf e + 1)) 16777216) = true then (bif cfg.flat f (dstNo o) then .opt (litP (P.cellsOf e) (parts.toList.map fun x => ev s x.2)) else if (cfg.ownBox f (dstNo o)).isEmpty = true then .heap (litA (cfg.ownLit f (dstNo o)) (P.cellsOf e) (parts.toList.map fun x => ev s x.2) H) else .heap (litB (P.cellsOf e) (parts.toList.map fun x => ev s x.2) H)) else .no
     | none => .no)
  | .call c =>
    (match c.callee with
     | .builtin b =>
       (match b, c.args.toList with
        | .len, [x] => (match c.argTypes.toList with | [t] => .opt (lenA (tyOf P t) (ev s x) H) | _ => .no)
        | .cap, [x] => (match c.argTypes.toList with | [t] => (match tyOf P t with | .slice => .opt (capA (ev s x)) | _ => .no) | _ => .no)
        | .max, x :: xs => .opt (bests true (ev s x) (xs.map (ev s)))
        | .min, x :: xs => .opt (bests false (ev s x) (xs.map (ev s)))
        | .append, [x, y] =>
          (match (c.argTypes[0]?).bind (sliceElem P), (c.argTypes[1]?).map (tyOf P) with
           | some e, some .slice => if elemOk P e = true then .heap (appA (P.cellsOf e) (P.bytesOf e) (ev s x) (ev s y) H) else .no
           | some e, some .str => if elemOk P e = true then .heap (appA (P.cellsOf e) (P.bytesOf e) (ev s x) (ev s y) H) else .no
           | some e, some .int => if elemOk P e = true then (match zeroCellsOf P e with | some z => .heap (appZ (P.cellsOf e) (P.bytesOf e) z (ev s x) (ev s y) H) | none => .no) else .no
           | _, _ => .no)
        | .clear, [x] =>
          (match (c.argTypes[0]?).bind (sliceElem P) with
           | some e => if elemOk P e = true then (match zeroCellsOf P e with | some z => .heap ((clearA (P.cellsOf e) z (ev s x) H).map fun H' => (undefA, H')) | none => .no) else .no
           | none => .no)
        | .delete, [x, y] =>
          (match (c.argTypes[0]?).bind (mapOf P) with
           | some (kt, _) => .heap ((delA (tyOf P kt) (ev s x) (ev s y) H).map fun H' => (undefA, H'))
           | none => .no)
        | .copy, [x, y] => (match (c.argTypes[0]?).bind (sliceElem P) with | some e => if elemOk P e = true then .heap (copyA (P.cellsOf e) (ev s x) (ev s y) H) else .no | none => .no)
        | _, _ => .no)
     | .value g =>
       (match g with
        | .func g => .heap (callA cfg O g (c.args.toList.map (ev s)) lo H)
        | g => .heap (callC cfg O (cfg.clos f (dstNo o)) (ev s g) (c.args.toList.map (ev s)) lo H))
     | .invoke _ _ => .no)
  | _ => .no

/-- How an operation is taken otherwise: by its slot; a write by its address's. -/
def spOf (cfg : Cfg) (f : FuncId) (o : Oper) : Option Sp :=
  match o.op, o.guard with
  | .load .., none | .makeSlice .., none | .call .., none => cfg.spec f (dstNo o)
  | .load .., some _ => (match cfg.spec f (dstNo o) with | some .ldx => some .ldx | _ => none)
  | .store _ (.tmp a) _, none => cfg.spec f (1000000 + a)
  | _, _ => none

/-- A call over no heap, of pure values; what it answers is frozen. -/
noncomputable def callP (O : Oracle) (g : FuncId) (args : List AV) : Option AV :=
  if args.all (AV.ltd 0) = true then (O.ent g args [] []).bind fun r => (frzAll r.2 r.1).bind fun q => if q.1.all (AV.ltd 0) = true then some (ret q.1) else none else none

def thawLeaf (p : Nat) (S : Heap × List AObj) (x : AV) : Option (AV × Heap × List AObj) :=
  match x with
  | .row id g off n =>
    match S.1[id]? with
    | some (.row g' sz xs) => some (.row (p + S.2.length) g off n, S.1.set id .hole, S.2 ++ [.row g' sz xs])
    | _ => none
  | x => if AV.ltd 0 x = true then some (x, S) else none

def thawLeaves (p : Nat) : Heap × List AObj → List AV → Option (List AV × Heap × List AObj)
  | S, [] => some ([], S)
  | S, x :: xs => (thawLeaf p S x).bind fun r => (thawLeaves p r.2 xs).map fun q => (r.1 :: q.1, q.2)

def thawA (p : Nat) (S : Heap × List AObj) (x : AV) : Option (AV × Heap × List AObj) :=
  match x with
  | .agg xs => (thawLeaves p S xs).map fun q => (.agg q.1, q.2)
  | x => thawLeaf p S x

def thawAll (p : Nat) : Heap × List AObj → List AV → Option (List AV × Heap × List AObj)
  | S, [] => some ([], S)
  | S, x :: xs => (thawA p S x).bind fun r => (thawAll p r.2 xs).map fun q => (r.1 :: q.1, q.2)

/-- Laid one behind the other, at places that are kept. -/
def layAll : Nat → List AObj → Heap → Option Heap
  | _, [], H => some H
  | p, o :: os, H => match H[p]? with | some .hole => layAll (p + 1) os (H.set p o) | _ => none

/-- A call over no heap, of pure values; the rows that it answers are laid at k kept places from r on, of m. -/
noncomputable def fillC (O : Oracle) (m r k : Nat) (g : FuncId) (args : List AV) (H : Heap) : Option (AV × Heap) :=
  if (args.all (AV.ltd 0) && Nat.ble (r + k) m && Nat.ble m H.length) = true then
    (O.ent g args [] []).bind fun q => (thawAll (H.length - m + r) (q.2, []) q.1).bind fun t =>
      if Nat.ble t.2.2.length k = true then (layAll (H.length - m + r) t.2.2 H).map fun H' => (ret t.1, H') else none
  else none

noncomputable def spRun (P : Program) (O : Oracle) (k : Sp) (o : Oper) (lo : List Nat) (s : Slots) (H : Heap) : Out :=
  match k, o.op with
  | .ldx, .load t a => if okT P t = true then .opt (ldX (isAggT P t) (P.cellsOf t) (ev s a) H) else .no
  | .ldn, .load t a => if okT P t = true then .opt (ldN (isAggT P t) (P.cellsOf t) (ev s a) H) else .no
  | .stx, .store t a x => if okT P t = true then .heap ((stX (P.cellsOf t) (ev s a) (ev s x) lo H).map fun H' => (undefA, H')) else .no
  | .ld0, .load t a => if okT P t = true then .opt (ldZ (isAggT P t) (P.cellsOf t) (ev s a) H) else .no
  | .st1, .store t a x => if okT P t = true then .heap ((stZ (P.cellsOf t) (ev s a) (ev s x) lo H).map fun H' => (undefA, H')) else .no
  | .frow m r, .makeSlice t l c =>
    (match sliceElem P t with
     | some e => if elemOk P e = true then (match zeroCellsOf P e with | some z => .heap (fillRow m r (P.cellsOf e) (P.bytesOf e) z (ev s l) (ev s c) H) | none => .no) else .no
     | none => .no)
  | .pc, .call c =>
    (match c.callee with
     | .value (.func g) => .heap ((callP O g (c.args.toList.map (ev s))).map fun v => (v, H))
     | .builtin .len => (match c.args.toList, c.argTypes.toList with | [x], [t] => .opt (lenA (tyOf P t) (ev s x) []) | _, _ => .no)
     | _ => .no)
  | .thw m r k, .call c => (match c.callee with | .value (.func g) => .heap (fillC O m r k g (c.args.toList.map (ev s)) H) | _ => .no)
  | _, _ => .no

noncomputable def exec2 (P : Program) (cfg : Cfg) (O : Oracle) (f : FuncId) (lo : List Nat) (o : Oper) (s : Slots) (H : Heap) : Out :=
  match spOf cfg f o with
  | none => exec1 P cfg O f lo o s H
  | some k => spRun P O k o lo s H

noncomputable def runOp (P : Program) (cfg : Cfg) (O : Oracle) (f : FuncId) (lo : List Nat) (all : Array Oper) (o : Oper) (s : Slots) (H : Heap) (K : AV → Heap → Res) : Res :=
  match o.guard with
  | none =>
    (match exec2 P cfg O f lo o s H with
     | .val x => K x H
     | .opt x => x.bind fun r => K r H
     | .heap x => x.bind fun r => K r.1 r.2
     | .no => none)
  | some (j, want) =>
    (match (all[j]?).bind (·.dst) with
     | none => none
     | some d =>
       (match exec2 P cfg O f lo o s H with
        | .val x => (gd (s d) want (some x)).bind fun r => K r H
        | .opt x => (gd (s d) want x).bind fun r => K r H
        | .heap x => (gdH (s d) want x H).bind fun r => K r.1 r.2
        | .no => none))

open Classical in
noncomputable def agreeR (r : List AV × Heap) (K : AV → Heap → Res) : List (AV × Heap) → Res
  | [] => some r
  | y :: l => (K y.1 y.2).bind fun q => if q = r then agreeR r K l else none

/-- Whatever comes, the end is one. -/
noncomputable def agree (l : List (AV × Heap)) (K : AV → Heap → Res) : Res :=
  match l with
  | [] => none
  | x :: l => (K x.1 x.2).bind fun r => agreeR r K l

theorem agreeR_iff {r r' : List AV × Heap} {K : AV → Heap → Res} : ∀ (l : List (AV × Heap)), agreeR r K l = some r' ↔ r' = r ∧ ∀ y ∈ l, K y.1 y.2 = some r := by
  intro l
  induction l with
  | nil => simp [agreeR, eq_comm]
  | cons y l ih =>
    simp only [agreeR, Option.bind_eq_some_iff]
    refine ⟨fun ⟨q, h1, h2⟩ => ?_, fun ⟨h1, h2⟩ => ⟨r, h2 y (by simp), ?_⟩⟩
    · split at h2
      · rename_i e
        obtain ⟨k1, k2⟩ := ih.mp h2
        refine ⟨k1, fun z hz => ?_⟩
        rcases List.mem_cons.mp hz with e2 | e2
        · rw [e2, h1, e]
        · exact k2 z e2
      · cases h2
    · rw [if_pos rfl]
      exact ih.mpr ⟨h1, fun z hz => h2 z (by simp [hz])⟩

theorem agree_of {l : List (AV × Heap)} {K : AV → Heap → Res} {r : List AV × Heap} (h0 : l ≠ []) (h : ∀ y ∈ l, K y.1 y.2 = some r) : agree l K = some r := by
  cases l with
  | nil => exact (h0 rfl).elim
  | cons x l =>
    simp only [agree, h x (by simp), Option.bind_some]
    exact (agreeR_iff l).mpr ⟨rfl, fun y hy => h y (by simp [hy])⟩

/-- An operation in the text's order: a map's next entry may be any. -/
noncomputable def runOpN (P : Program) (cfg : Cfg) (O : Oracle) (f : FuncId) (lo : List Nat) (all : Array Oper) (o : Oper) (s : Slots) (H : Heap) (K : AV → Heap → Res) : Res :=
  match o.op with
  | .next x false =>
    (match o.guard with
     | none => (nextA (ev s x) H).bind fun l => agree l K
     | some _ => none)
  | _ => runOp P cfg O f lo all o s H K

noncomputable def opsRunN (P : Program) (cfg : Cfg) (O : Oracle) (f : FuncId) (lo : List Nat) (all : Array Oper) : List Oper → Slots → Heap → (Slots → Heap → Res) → Res
  | [], s, H, K => K s H
  | o :: rest, s, H, K => runOpN P cfg O f lo all o s H fun x H' => opsRunN P cfg O f lo all rest (setDst o.dst x s) H' K

noncomputable def opsRun (P : Program) (cfg : Cfg) (O : Oracle) (f : FuncId) (lo : List Nat) (all : Array Oper) : List Oper → Slots → Heap → (Slots → Heap → Res) → Res
  | [], s, H, K => K s H
  | o :: rest, s, H, K => runOp P cfg O f lo all o s H fun x H' => opsRun P cfg O f lo all rest (setDst o.dst x s) H' K

/-! ### Regions whose order is drawn: what makes the order idle -/
/-- Hangs on its operands alone. -/
def quiet0 (cfg : Cfg) (f : FuncId) (o : Oper) : Bool :=
  match o.op with
  | .load .. | .buildSlice .. => cfg.flat f (dstNo o)
  | .move _ | .assign _ | .pick .. | .binOp .. | .unOp .. | .convert .. | .extract .. | .nilCheck _ | .makeFunc .. | .makeInterface .. | .field .. | .build .. | .fieldAddr .. | .indexAddr .. | .index .. => true
  | .call c => (match c.callee with | .builtin .max | .builtin .min => true | _ => false)
  | _ => false

/-- Leaves the heap as it is. -/
def quiet1 (cfg : Cfg) (f : FuncId) (o : Oper) : Bool :=
  quiet0 cfg f o ||
    (match o.op with
     | .load .. | .slice .. | .lookup .. => true
     | .call c =>
       (match c.callee with
        | .value (.func g) => Nat.beq (cfg.mode g) 0
        | .builtin .len | .builtin .cap | .builtin .max | .builtin .min => true
        | _ => false)
     | _ => false)

/-- So too a call that gives the heap back as it was. -/
def quiet3 (cfg : Cfg) (f : FuncId) (o : Oper) : Bool :=
  quiet1 cfg f o ||
    (match o.op with
     | .call c => (match c.callee with | .value (.func g) => Nat.beq (cfg.mode g) 3 | .value _ => isSameK (cfg.clos f (dstNo o)) | _ => false)
     | _ => false)

/-- A call that changes rows alone. -/
def callRows (cfg : Cfg) (o : Oper) : Bool :=
  match o.op with
  | .call c => (match c.callee with | .value (.func g) => Nat.beq (cfg.mode g) 6 || Nat.beq (cfg.mode g) 9 | _ => false)
  | _ => false

/-- A call that changes truth values alone. -/
def callBools (cfg : Cfg) (f : FuncId) (o : Oper) : Bool :=
  match o.op with
  | .call c => (match c.callee with | .value (.func g) => Nat.beq (cfg.mode g) 7 || Nat.beq (cfg.mode g) 10 | .value _ => isBoolsK (cfg.clos f (dstNo o)) | _ => false)
  | _ => false

/-- A call that may change places with a variable of these cells that is made. -/
def callPast (cfg : Cfg) (zs : List PV) (o : Oper) : Bool :=
  match o.op with
  | .call c => (match c.callee with | .value (.func g) => Nat.beq (cfg.mode g) 9 && pvsSame (cfg.holeZ g) zs | _ => false)
  | _ => false

/-- So, where it takes the last place. -/
def callLast (cfg : Cfg) (f : FuncId) (zs : List PV) (o : Oper) : Bool :=
  match o.op with
  | .call c => (match c.callee with | .value (.func g) => Nat.beq (cfg.mode g) 10 && pvsSame (cfg.holeZ g) zs | .value _ => isPastK zs (cfg.clos f (dstNo o)) | _ => false)
  | _ => false

/-- Does no more than to lay one new object (or none, where its guard says no). -/
def pushes (cfg : Cfg) (f : FuncId) (o : Oper) : Bool :=
  match o.op with
  | .alloc _ => (cfg.ownBox f (dstNo o)).isEmpty && (cfg.hole f (dstNo o)).isNone
  | .box .. => (cfg.ownBox f (dstNo o)).isEmpty
  | .makeSlice .. | .makeMap .. => true
  | .call c => (match c.callee with | .value (.func g) => Nat.beq (cfg.mode g) 4 | _ => false)
  | _ => false

theorem ldB_ld {c b agg : Bool} {n : Nat} {p : AV} {H : Heap} {v : AV} (h : (bif c then ldF agg n p else bif b then ldS agg n p H else ld agg n p H) = some v) : ld agg n p H = some v := by
  cases c with
  | true => cases p <;> first | exact h | cases h
  | false =>
  cases b with
  | false => exact h
  | true => cases p <;> first | exact h | cases h

/-- A read that is never out of a row. -/
def strict (cfg : Cfg) (f : FuncId) (o : Oper) : Bool :=
  match o.op with
  | .load .. => cfg.ownLit f (dstNo o) && !cfg.flat f (dstNo o)
  | _ => false

/-- Leaves the variables as they are, and makes none. -/
def rowOnly (cfg : Cfg) (f : FuncId) (o : Oper) : Bool :=
  match o.op with
  | .buildSlice .. => (cfg.ownBox f (dstNo o)).isEmpty
  | .call c => (match c.callee with | .builtin .append | .builtin .copy | .builtin .clear => true | _ => false)
  | _ => false

/-- A cut of a slice. -/
def cutter (P : Program) (o : Oper) : Bool :=
  match o.op with
  | .slice t _ _ _ _ => (sliceElem P t).isSome
  | _ => false

/-- The place that a new variable takes among those kept. -/
def filler (P : Program) (cfg : Cfg) (f : FuncId) (o : Oper) : Option (Nat × Nat) :=
  match o.op with
  | .alloc t => if (arrOf P t).isNone = true then cfg.hole f (dstNo o) else none
  | _ => none

/-- x, then a variable that takes the only place kept. -/
def pastFill (P : Program) (cfg : Cfg) (f : FuncId) (x y : Oper) : Bool :=
  match filler P cfg f y, y.op with
  | some (0, _), .alloc t => (match zeroOf P t with | some z => (match pvCells z.cells with | some zs => strict cfg f x || callPast cfg zs x | none => false) | none => false)
  | _, _ => false

/-- Do two new variables take places apart? -/
def fillApart (x y : Option (Nat × Nat)) : Bool :=
  match x, y with
  | some a, some b => Nat.beq a.1 b.1 && Nat.blt a.2 a.1 && Nat.blt b.2 b.1 && !(Nat.beq a.2 b.2)
  | _, _ => false

/-- Must i come ahead of j? -/
def ordered (ops : Array Oper) (i : Nat) : Nat → Nat → Bool
  | 0, _ => false
  | n + 1, j =>
    match ops[j]? with
    | some o => o.after.any fun e => Region.binds .any e && (Nat.beq e.on i || (Nat.blt i e.on && ordered ops i n e.on))
    | none => false

def noSp (cfg : Cfg) (f : FuncId) (o : Oper) : Bool := (spOf cfg f o).isNone
def isLdx (cfg : Cfg) (f : FuncId) (o : Oper) : Bool := match spOf cfg f o with | some .ldx => true | _ => false
def isLdn (cfg : Cfg) (f : FuncId) (o : Oper) : Bool := match spOf cfg f o with | some .ldn => true | _ => false
def isPc (cfg : Cfg) (f : FuncId) (o : Oper) : Bool := match spOf cfg f o with | some .pc => true | _ => false
def isLd0 (cfg : Cfg) (f : FuncId) (o : Oper) : Bool := match spOf cfg f o with | some .ld0 => true | _ => false
def isSt1 (cfg : Cfg) (f : FuncId) (o : Oper) : Bool := match spOf cfg f o with | some .st1 => true | _ => false
def isStx (cfg : Cfg) (f : FuncId) (o : Oper) : Bool := match spOf cfg f o with | some .stx => true | _ => false
def rowFill (cfg : Cfg) (f : FuncId) (o : Oper) : Option (Nat × Nat) := match spOf cfg f o with | some (.frow m r) => some (m, r) | _ => none
/-- The length of what is no channel: it hangs on lists and maps alone. -/
def lenOp (o : Oper) : Bool :=
  match o.op with
  | .call c => (match c.callee with | .builtin .len => true | _ => false)
  | _ => false
def calm (cfg : Cfg) (f : FuncId) (o : Oper) : Bool := noSp cfg f o && (strict cfg f o || lenOp o)

/-- May y come ahead of x, which the text has first? Neither is taken otherwise. -/
def idle1 (P : Program) (cfg : Cfg) (f : FuncId) (x y : Oper) : Bool :=
  quiet0 cfg f x || quiet0 cfg f y || (quiet3 cfg f x && quiet3 cfg f y) || (quiet1 cfg f x && pushes cfg f y) || (strict cfg f x && (rowOnly cfg f y || callRows cfg y)) || ((rowOnly cfg f x || callRows cfg x) && strict cfg f y) ||
    (pushes cfg f x && quiet1 cfg f y) || (rowOnly cfg f x && cutter P y) || (cutter P x && rowOnly cfg f y) || fillApart (filler P cfg f x) (filler P cfg f y) || pastFill P cfg f x y

/-- What a read of what holds no truth value may change places with. -/
def pastLdn (cfg : Cfg) (f : FuncId) (o : Oper) : Bool := isLdn cfg f o || isLdx cfg f o || (noSp cfg f o && (quiet3 cfg f o || callBools cfg f o || callRows cfg o || rowOnly cfg f o))

def idle3 (cfg : Cfg) (f : FuncId) (x y : Oper) : Bool :=
  (noSp cfg f x && quiet0 cfg f x) || (noSp cfg f y && quiet0 cfg f y) || (isLdx cfg f x && isLdx cfg f y) || (isLdx cfg f x && noSp cfg f y && quiet3 cfg f y) || (noSp cfg f x && quiet3 cfg f x && isLdx cfg f y) ||
    (isLdx cfg f x && noSp cfg f y && pushes cfg f y) || (isLdx cfg f x && isStx cfg f y) || fillApart (rowFill cfg f x) (rowFill cfg f y) || ((rowFill cfg f x).isSome && calm cfg f y) || (calm cfg f x && (rowFill cfg f y).isSome)

/-- x, then a variable that takes the last place. -/
def lastFill (P : Program) (cfg : Cfg) (f : FuncId) (x y : Oper) : Bool :=
  match filler P cfg f y, y.op with
  | some (1, 0), .alloc t => (match zeroOf P t with | some z => (match pvCells z.cells with | some zs => callLast cfg f zs x | none => false) | none => false)
  | _, _ => false

/-- Rows that a call lays at kept places, and what stands beside them. -/
def isThw (cfg : Cfg) (f : FuncId) (o : Oper) : Option (Nat × Nat × Nat) := match spOf cfg f o with | some (.thw m r k) => some (m, r, k) | _ => none
def thwApart (x y : Option (Nat × Nat × Nat)) : Bool :=
  match x, y with
  | some a, some b => Nat.beq a.1 b.1 && (Nat.ble (a.2.1 + a.2.2) b.2.1 || Nat.ble (b.2.1 + b.2.2) a.2.1)
  | _, _ => false
def thwFill (x : Option (Nat × Nat × Nat)) (y : Option (Nat × Nat)) : Bool :=
  match x, y with
  | some a, some b => Nat.beq a.1 b.1 && Nat.blt b.2 b.1 && (Nat.ble (a.2.1 + a.2.2) b.2 || Nat.blt b.2 a.2.1)
  | _, _ => false
def idleT (P : Program) (cfg : Cfg) (f : FuncId) (x y : Oper) : Bool :=
  thwApart (isThw cfg f x) (isThw cfg f y) || (noSp cfg f y && thwFill (isThw cfg f x) (filler P cfg f y)) || ((isThw cfg f x).isSome && calm cfg f y) || (calm cfg f x && (isThw cfg f y).isSome) ||
    (calm cfg f x && noSp cfg f y && (filler P cfg f y).isSome)

/-- What a call that is pure may come ahead of. -/
def pcPast (cfg : Cfg) (f : FuncId) (o : Oper) : Bool := (isThw cfg f o).isSome || isLdn cfg f o || isLdx cfg f o || (noSp cfg f o && (quiet3 cfg f o || pushes cfg f o))

/-- What leaves the first object as it is. -/
def past0 (cfg : Cfg) (f : FuncId) (o : Oper) : Bool := isLd0 cfg f o || isSt1 cfg f o || isLdn cfg f o || isLdx cfg f o || (noSp cfg f o && quiet3 cfg f o)

/-- One of them is. -/
def idle2 (P : Program) (cfg : Cfg) (f : FuncId) (x y : Oper) : Bool :=
  idleT P cfg f x y || (isPc cfg f x || (isPc cfg f y && pcPast cfg f x)) || ((isLd0 cfg f x && past0 cfg f y) || (past0 cfg f x && isLd0 cfg f y)) || (isLdn cfg f x && (pastLdn cfg f y || (noSp cfg f y && (pushes cfg f y || (filler P cfg f y).isSome)))) || (pastLdn cfg f x && isLdn cfg f y) || (noSp cfg f x && noSp cfg f y && lastFill P cfg f x y) || idle3 cfg f x y

/-- May y come ahead of x, which the text has first? -/
def idle (P : Program) (cfg : Cfg) (f : FuncId) (ops : Array Oper) (x y : Oper) : Bool :=
  Oper.apart ops x y && ((noSp cfg f x && noSp cfg f y && idle1 P cfg f x y) || idle2 P cfg f x y)

def backward (ops : Array Oper) : Bool := (List.range ops.size).all fun j => match ops[j]? with | some o => o.after.all fun e => !Region.binds .any e || Nat.blt e.on j | none => true

def okDraw (P : Program) (cfg : Cfg) (f : FuncId) (ops : Array Oper) : Bool :=
  P.follows .mixedOrders && backward ops &&
    (List.range ops.size).all fun j => (List.range j).all fun i =>
      match ops[i]?, ops[j]? with
      | some x, some y => idle P cfg f ops x y || ordered ops i 12 j
      | _, _ => false

/-! ### Code -/
def keyOf : Code → Nat
  | .region id _ _ => id + 1
  | .seq a _ => keyOf a
  | .block id _ => 100000 + id
  | .rangeFunc _ _ _ y => keyOf y
  | .loop c => keyOf c
  | .scope c => keyOf c
  | .cond (.tmp t) _ _ => 200000 + t
  | _ => 0

def exitToA (id : Nat) : List It → Option (List It)
  | .blk id' :: k => if Nat.beq id' id then some k else exitToA id k
  | _ :: k => exitToA id k
  | [] => none

/-- The levels that must be kept: those of the loops that let go, and the frame's. -/
def levelsOf (lo : List Nat) : List It → List Nat
  | .lp _ (some b) :: k => b :: levelsOf lo k
  | _ :: k => levelsOf lo k
  | [] => lo

def ntOf (P : Program) (f : FuncId) : Nat := ((P.funcs[f]?).map (·.ntmps)).getD 0

def notDefer (o : Oper) : Bool :=
  match o.op with
  | .defer _ => false
  | _ => true

def dstsOk (nt : Nat) (ops : Array Oper) : Bool := ops.toList.all fun o => notDefer o && match o.dst with | some d => Nat.blt d nt | none => true

/-- The places that a region keeps. -/
def holesIn (cfg : Cfg) (f : FuncId) (id : Nat) (H : Heap) : Heap :=
  match cfg.holes f id with
  | 0 => H
  | n + 1 => H ++ List.replicate (n + 1) .hole

/-- A loop is come to. -/
noncomputable def loopIn (cfg : Cfg) (O : Oracle) (f : FuncId) (c : Code) (k : List It) (s : Slots) (lo : List Nat) (H : Heap) : Res :=
  match cfg.lab f (2 * keyOf c) with
  | none => none
  | some l =>
    match l.own with
    | [] => O.lab f l.keep (.lp c (if l.trunc then some H.length else none) :: k) (l.keep.map s) lo H
    | own => (ownCells own (l.keep.map s) H).bind fun r => O.lab f l.keep (.lp c (if l.trunc then some r.2.length else none) :: k) r.1 lo r.2

/-- A round has ended. -/
noncomputable def loopOn (cfg : Cfg) (O : Oracle) (f : FuncId) (c : Code) (b : Option Nat) (k : List It) (s : Slots) (lo : List Nat) (H : Heap) : Res :=
  match cfg.lab f (2 * keyOf c) with
  | none => none
  | some l =>
    match b with
    | none => O.lab f l.keep (.lp c none :: k) (l.keep.map s) lo H
    | some b => if (l.keep.all fun t => AV.ltd b (s t)) = true then O.lab f l.keep (.lp c (some b) :: k) (l.keep.map s) lo (H.take b) else none

/-- The function that is ranged over: the variable that holds its list. -/
def rngIn (x : AV) (gf : FuncId) : Option AV :=
  match x with
  | .fn g [] [q] => if Nat.beq g gf = true then some q else none
  | _ => none

def psOk (nt : Nat) (ps : Array Tmp) : Bool :=
  match ps.toList with
  | [p1, p2] => Nat.blt p1 nt && Nat.blt p2 nt
  | _ => false

def rngS (ps : Array Tmp) (i e : AV) (s : Slots) : Slots :=
  match ps.toList with
  | [p1, p2] => upd (upd s p1 i) p2 e
  | _ => s

noncomputable def arun (P : Program) (cfg : Cfg) (O : Oracle) (f : FuncId) (lo : List Nat) : Nat → List It → Slots → Heap → Res
  | 0, _, _, _ => none
  | _ + 1, [], s, H => finish P cfg f s lo H
  | n + 1, .blk _ :: k, s, H => arun P cfg O f lo n k s H
  | _ + 1, .jn :: k, s, H =>
    (match k with
     | .code c :: _ => (match cfg.lab f (2 * keyOf c + 1) with | some l => O.lab f l.keep k (l.keep.map s) lo H | none => none)
     | _ => none)
  | _ + 1, .lp c b :: k, s, H => loopOn cfg O f c b k s lo H
  | _ + 1, .rf _ :: _, _, _ => none
  | n + 1, .code c :: k, s, H =>
    match c with
    | .skip => arun P cfg O f lo n k s H
    | .seq a b => (match cfg.lab f (2 * keyOf b + 1) with | some _ => arun P cfg O f lo n (.code a :: .jn :: .code b :: k) s H | none => arun P cfg O f lo n (.code a :: .code b :: k) s H)
    | .region id ops draw => if (dstsOk (ntOf P f) ops && (!draw || okDraw P cfg f ops)) = true then (if draw = true then opsRun P cfg O f (levelsOf lo k) ops ops.toList s (holesIn cfg f id H) fun s' H' => arun P cfg O f lo n k s' H' else opsRunN P cfg O f (levelsOf lo k) ops ops.toList s H fun s' H' => arun P cfg O f lo n k s' H') else none
    | .cond x a b => cond (ev s x) (arun P cfg O f lo n (.code a :: k) s H) (arun P cfg O f lo n (.code b :: k) s H)
    | .block id c => arun P cfg O f lo n (.code c :: .blk id :: k) s H
    | .loop c => loopIn cfg O f c k s lo H
    | .exit id => (match exitToA id k with | some k' => arun P cfg O f lo n k' s H | none => none)
    | .ret => finish P cfg f s lo H
    | .rangeFunc g ps x y =>
      (match cfg.rng f (keyOf y), cfg.lab f (2 * keyOf y) with
       | some (gf, agg, sz), some l =>
         if (psOk (ntOf P f) ps && l.own.isEmpty) = true then
           (rngIn (ev s g) gf).bind fun q => (ld false 1 q H).bind fun sl => (lenA .slice sl H).bind fun m => (bin .sub .int m (I 1)).bind fun i =>
             O.lab f (0 :: 0 :: l.keep) (.rf ⟨gf, agg, sz, if l.trunc then some H.length else none, ps, x, y⟩ :: k) (i :: q :: l.keep.map s) lo H
         else none
       | _, _ => none)
    | _ => none

/-- A round of a range over a function: what stands around it. -/
structure Rnd where
  R : Rng
  k : List It
  keep : List Nat
  i : AV
  q : AV
  vals : List AV
  lo : List Nat

/-- A round has come to its end: on to the next one. -/
noncomputable def rndOn (O : Oracle) (f : FuncId) (d : Rnd) (H : Heap) : Res :=
  (bin .sub .int d.i (I 1)).bind fun i =>
    match d.R.b with
    | none => O.lab f (0 :: 0 :: d.keep) (.rf d.R :: d.k) (i :: d.q :: d.vals) d.lo H
    | some b => if ((d.q :: d.vals).all fun x => AV.ltd b x) = true then O.lab f (0 :: 0 :: d.keep) (.rf d.R :: d.k) (i :: d.q :: d.vals) d.lo (H.take b) else none

def rndLv (R : Rng) (lo : List Nat) (k : List It) : List Nat :=
  match R.b with
  | some b => b :: levelsOf lo k
  | none => levelsOf lo k

def noJn : List It → Bool
  | .jn :: _ => false
  | _ :: k => noJn k
  | [] => true

/-- A round's text; fuel N for what is done behind the range. -/
noncomputable def arnd (P : Program) (cfg : Cfg) (O : Oracle) (f : FuncId) (N : Nat) (d : Rnd) : Nat → List It → Slots → Heap → Res
  | 0, _, _, _ => none
  | _ + 1, [], _, H => rndOn O f d H
  | n + 1, .blk _ :: k, s, H => arnd P cfg O f N d n k s H
  | n + 1, .jn :: k, s, H => if noJn k = true then arnd P cfg O f N d n k s H else none
  | _ + 1, .lp _ _ :: _, _, _ => none
  | _ + 1, .rf _ :: _, _, _ => none
  | n + 1, .code c :: k, s, H =>
    match c with
    | .skip => arnd P cfg O f N d n k s H
    | .seq a b => arnd P cfg O f N d n (.code a :: .code b :: k) s H
    | .region id ops draw => if (dstsOk (ntOf P f) ops && (!draw || okDraw P cfg f ops)) = true then (if draw = true then opsRun P cfg O f (rndLv d.R d.lo d.k) ops ops.toList s (holesIn cfg f id H) fun s' H' => arnd P cfg O f N d n k s' H' else opsRunN P cfg O f (rndLv d.R d.lo d.k) ops ops.toList s H fun s' H' => arnd P cfg O f N d n k s' H') else none
    | .cond x a b => cond (ev s x) (arnd P cfg O f N d n (.code a :: k) s H) (arnd P cfg O f N d n (.code b :: k) s H)
    | .block id c => arnd P cfg O f N d n (.code c :: .blk id :: k) s H
    | .exit id =>
      if noJn k = true then
        (match exitToA id k with
         | some k' => arnd P cfg O f N d n k' s H
         | none => (match exitToA id d.k with | some k' => arun P cfg O f d.lo N k' (mkS d.keep d.vals) H | none => none))
      else none
    | .ret => if noJn k = true then finish P cfg f (mkS d.keep d.vals) d.lo H else none
    | _ => none

def fuelN : Nat := 5000

/-- A pure call begins over no heap. -/
def entOkB (mode : Nat) (lo : List Nat) (H : Heap) : Bool :=
  match mode with
  | 0 => lo.isEmpty && H.isEmpty
  | 5 => lo.isEmpty && H.isEmpty
  | _ => true

def entLo (mode : Nat) (lo : List Nat) (H : Heap) : List Nat :=
  match mode with
  | 0 => []
  | 5 => []
  | 1 => lo
  | 4 => lo
  | 6 => lo
  | 9 => lo
  | _ => H.length :: lo

noncomputable def entRun (P : Program) (cfg : Cfg) (O : Oracle) (f : FuncId) (args : List AV) (lo : List Nat) (H : Heap) : Res :=
  match cfg.ext f with
  | some k => extRun cfg O k args H
  | none =>
  match primOf P f with
  | some k => (primA k args).map fun x => ([x], H)
  | none =>
  match P.funcs[f]? with
  | some fn =>
    (match fn.body with
     | some c => if (Nat.ble args.length fn.ntmps && !(fn.name == "runtime.NumGoroutine") && entOkB (cfg.mode f) lo H) = true then arun P cfg O f (entLo (cfg.mode f) lo H) fuelN [.code c] (mkS (List.range args.length) args) H else none
     | none => none)
  | none => none

noncomputable def labRun (P : Program) (cfg : Cfg) (O : Oracle) (f : FuncId) (keep : List Nat) (todo : List It) (vals : List AV) (lo : List Nat) (H : Heap) : Res :=
  match todo with
  | .lp c b :: k => arun P cfg O f lo fuelN (.code c :: .lp c b :: k) (mkS keep vals) H
  | .rf R :: k =>
    (match keep, vals with
     | _ :: _ :: keep, i :: q :: vals =>
       (bin .lss .int i (I 0)).bind fun t =>
         cond t (arun P cfg O f lo fuelN k (mkS keep vals) H) (
           (ld false 1 q H).bind fun sl => (idxA R.sz sl i).bind fun p => (ld R.agg R.sz p H).bind fun e =>
             arnd P cfg O f fuelN ⟨R, k, keep, i, q, vals, lo⟩ fuelN [.code R.x, .jn, .code R.y] (rngS R.ps i e (mkS keep vals)) H)
     | _, _ => none)
  | k => arun P cfg O f lo fuelN k (mkS keep vals) H

noncomputable def denF (P : Program) (cfg : Cfg) : Nat → Oracle
  | 0 => { ent := fun _ _ _ _ => none, lab := fun _ _ _ _ _ _ => none }
  | n + 1 => { ent := entRun P cfg (denF P cfg n), lab := labRun P cfg (denF P cfg n) }

/-- Where a label lies: what is to be done from a loop's head on, or from behind a join. -/
def findLab (jn : Nat → Bool) (bs : Nat → Option Nat) (rg : Nat → Option (FuncId × Bool × Nat)) (key : Nat) : Nat → Code → List It → Option (List It)
  | 0, _, _ => none
  | n + 1, c, k =>
    match c with
    | .seq a b =>
      (match jn (2 * keyOf b + 1) with
       | true => if Nat.beq (2 * keyOf b + 1) key then some (.code b :: k)
         else (match findLab jn bs rg key n a (.jn :: .code b :: k) with | some r => some r | none => findLab jn bs rg key n b k)
       | false => (match findLab jn bs rg key n a (.code b :: k) with | some r => some r | none => findLab jn bs rg key n b k))
    | .cond _ a b => (match findLab jn bs rg key n a k with | some r => some r | none => findLab jn bs rg key n b k)
    | .block id c => findLab jn bs rg key n c (.blk id :: k)
    | .rangeFunc _ ps x y => if Nat.beq (2 * keyOf y) key then (rg (keyOf y)).map fun q => .rf ⟨q.1, q.2.1, q.2.2, bs key, ps, x, y⟩ :: k else none
    | .loop c => if Nat.beq (2 * keyOf c) key then some (.lp c (bs key) :: k) else findLab jn bs rg key n c (.lp c (bs (2 * keyOf c)) :: k)
    | _ => none

def labAt (P : Program) (cfg : Cfg) (f key : Nat) (bs : Nat → Option Nat) : List It :=
  match P.funcs[f]? with
  | some fn => (match fn.body with | some c => (findLab (fun k => (cfg.lab f k).isSome) bs (cfg.rng f) key fuelN c []).getD [] | none => [])
  | none => []

def look {α : Type} (k : Nat) : List (Nat × α) → Option α
  | [] => none
  | (i, x) :: r => bif Nat.beq i k then some x else look k r

end Go.AM
