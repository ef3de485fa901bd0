/-
An abstract machine over pure values for the loaded program's own code: definitions alone. Frozen slices are lists; rows that the call owns, variables in memory and maps lie in a small abstract heap.
-/
import Derived.Calls
import Derived.KernelRfl
namespace Go.AM

/-- Pure values: a value that hangs on no memory; a slice that nobody writes any more (nil or not, where known; is its capacity its length?; its length; its cells). -/
inductive PV where
  | v (x : Value)
  | sl (nl : Option Bool) (tight : Bool) (n : Nat) (xs : List PV)

inductive AV where
  | any
  | p (x : PV)
  | agg (xs : List AV)
  | tup (xs : List AV)
  | fp (xs : List PV) (off : Nat)
  | row (id gen off n : Nat)
  | ptr (id off : Nat)
  | bsl (id n : Nat)
  | rptr (id gen off : Nat)
  | mp (id : Nat)
  | it (id : Nat)
  | fn (f : FuncId) (first cap : List AV)

instance : Inhabited AV := ⟨.any⟩

inductive AObj where
  | box (xs : List AV)
  | row (gen size : Nat) (xs : List PV)
  | map (es : List (AV × AV × Nat)) (clock : Nat)
  | iter (m since : Nat) (seen : List Nat) (last : Nat)
  /-- A place that is kept for what a region makes. -/
  | hole

abbrev Heap := List AObj

abbrev I (n : Int) : AV := .p (.v (.int .i64 n))
abbrev B (b : Bool) : AV := .p (.v (.bool b))
abbrev S (s : ByteArray) : AV := .p (.v (.string s))
abbrev undefA : AV := .tup []
abbrev nilS : PV := .sl (some true) true 0 []

def leafyV : Value → Bool
  | .agg _ | .tuple _ => false
  | _ => true

/-- May a type be a slice's element type here: its zero is known, of its size. -/
def elemOk (P : Program) (e : TypeId) : Bool :=
  (P.underlying e).isSome && (match P.info? e with
    | some i => (match i.zero with
      | some z => decide (z.cells.size = i.size) && z.cells.toList.all leafyV && decide (i.bytes ≠ 0)
      | none => false)
    | none => false)

def pvOf : Value → PV
  | .slice none 0 0 => nilS
  | x => .v x

def leafOf : Value → AV
  | .agg _ | .tuple _ => .any
  | x => .p (pvOf x)

def ofValue : Value → AV
  | .agg cs => .agg (cs.toList.map leafOf)
  | x => leafOf x

/-- A value of one cell. -/
def AV.leaf : AV → Bool
  | .any | .agg _ | .tup _ => false
  | _ => true

/-- What the descriptions of types come to. -/
inductive Ty where
  | bool | int | str | slice | ptr | map | fn | iface | agg (n : Nat) (plan : List (Nat × Ty)) | other | arr (n : Nat) (plan : List (Nat × Ty)) | float

/-- How structs of this type are compared: the cells, in order, with their kinds. -/
def eqPlanFs (P : Program) (g : TypeId → Nat → Option (List (Nat × Ty))) (sz off : Nat) : List Field → Option (List (Nat × Ty))
  | [] => some []
  | f :: fs =>
    if f.name = "_" ∨ sz < f.offset + P.cellsOf f.type then none
    else (g f.type (off + f.offset)).bind fun p => (eqPlanFs P g sz off fs).bind fun q => some (p ++ q)

def eqPlan (P : Program) : Nat → TypeId → Nat → Option (List (Nat × Ty))
  | 0, _, _ => none
  | d + 1, t, off =>
    match P.underlying t with
    | some .bool => if P.cellsOf t = 1 then some [(off, .bool)] else none
    | some (.int _) => if P.cellsOf t = 1 then some [(off, .int)] else none
    | some .string => if P.cellsOf t = 1 then some [(off, .str)] else none
    | some (.struct fs) => if P.stoodInHeld t = true then none else eqPlanFs P (eqPlan P d) (P.cellsOf t) off fs.toList
    | _ => none

/-- How arrays are compared: element by element. -/
def arrPlan (g : Nat → Option (List (Nat × Ty))) (c : Nat) : List Nat → Option (List (Nat × Ty))
  | [] => some []
  | i :: is => (g (i * c)).bind fun p => (arrPlan g c is).bind fun q => some (p ++ q)

def tyOf (P : Program) (t : TypeId) : Ty :=
  match P.underlying t with
  | some .bool => .bool
  | some (.int _) => .int
  | some .string => .str
  | some (.slice _) => .slice
  | some (.pointer _) => .ptr
  | some (.map ..) => .map
  | some (.func ..) => .fn
  | some (.interface _) => .iface
  | some (.float _) => .float
  | some (.struct _) => (match eqPlan P 20 t 0, P.eqGuardType P.depth t with | some p, false => .agg (P.cellsOf t) p | _, _ => .other)
  | some (.array k e) => (match arrPlan (eqPlan P 20 e) (P.cellsOf e) (List.range k), P.eqGuardType P.depth t with
    | some p, false => if (Nat.beq (P.cellsOf t) (k * P.cellsOf e) && (P.info? e).isSome) = true then .arr (P.cellsOf t) p else .other
    | _, _ => .other)
  | _ => .other

def isAggT (P : Program) (t : TypeId) : Bool :=
  match P.underlying t with
  | some (.struct _) | some (.array ..) => true
  | _ => false

def sliceElem (P : Program) (t : TypeId) : Option TypeId :=
  match P.underlying t with
  | some (.slice e) => some e
  | _ => none

/-! ### Scalars -/
def truth : AV → Option Bool
  | .p (.v (.bool b)) => some b
  | _ => none

def asI : AV → Option Int
  | .p (.v (.int _ n)) => some n
  | _ => none

def intOp (op : BinOp) (k : IntKind) (x y : Int) : Option Value :=
  match op with
  | .add => some (.int k (k.wrap (x + y)))
  | .sub => some (.int k (k.wrap (x - y)))
  | .mul => some (.int k (k.wrap (x * y)))
  | .quo => if y = 0 then none else some (.int k (k.wrap (x.tdiv y)))
  | .rem => if y = 0 then none else some (.int k (x.tmod y))
  | .and => some (.int k (k.wrap (BitVec.ofInt k.bits x &&& BitVec.ofInt k.bits y).toNat))
  | .or => some (.int k (k.wrap (BitVec.ofInt k.bits x ||| BitVec.ofInt k.bits y).toNat))
  | .xor => some (.int k (k.wrap (BitVec.ofInt k.bits x ^^^ BitVec.ofInt k.bits y).toNat))
  | .andNot => some (.int k (k.wrap (BitVec.ofInt k.bits x &&& ~~~ (BitVec.ofInt k.bits y)).toNat))
  | .eql => some (.bool (x == y))
  | .neq => some (.bool (x != y))
  | .lss => some (.bool (decide (x < y)))
  | .leq => some (.bool (decide (x ≤ y)))
  | .gtr => some (.bool (decide (x > y)))
  | .geq => some (.bool (decide (x ≥ y)))
  | .shl => if y < 0 then none else some (.int k (k.wrap (x * 2 ^ (min y.toNat k.bits))))
  | .shr => if y < 0 then none else some (.int k (x.fdiv (2 ^ (min y.toNat k.bits))))

def isShift : BinOp → Bool
  | .shl | .shr => true
  | _ => false

def strOp (op : BinOp) (x y : ByteArray) : Option Value :=
  match op with
  | .add => if x.size + y.size ≤ 4611686018427387904 then some (.string (x ++ y)) else none
  | .eql => some (.bool (x.toList == y.toList))
  | .neq => some (.bool !(x.toList == y.toList))
  | .lss => some (.bool (Op.bytesLess x.toList y.toList))
  | .leq => some (.bool (Op.bytesLess x.toList y.toList || x.toList == y.toList))
  | .gtr => some (.bool !(Op.bytesLess x.toList y.toList || x.toList == y.toList))
  | .geq => some (.bool !(Op.bytesLess x.toList y.toList))
  | _ => none

def eqRes (op : BinOp) (b : Bool) : Option AV :=
  match op with
  | .eql => some (B b)
  | .neq => some (B !b)
  | _ => none

/-- One cell of a struct compared: numbers, bools and strings. -/
def leafEq (k : Ty) (a b : AV) : Option Bool :=
  match k, a, b with
  | .int, .p (.v (.int k x)), .p (.v (.int k' y)) => if k = k' then some (x == y) else none
  | .bool, .p (.v (.bool x)), .p (.v (.bool y)) => some (x == y)
  | .str, .p (.v (.string x)), .p (.v (.string y)) => some (x.toList == y.toList)
  | _, _, _ => none

def leavesEq (xs ys : List AV) : List (Nat × Ty) → Option Bool
  | [] => some true
  | (o, k) :: r =>
    match xs[o]?, ys[o]? with
    | some x, some y => (leafEq k x y).bind fun b => (leavesEq xs ys r).bind fun c => some (b && c)
    | _, _ => none

/-- Is a value of this kind nil: where that is known. -/
def isNilA (ty : Ty) (x : AV) : Option Bool :=
  match ty, x with
  | .slice, .p (.sl nl _ _ _) => nl
  | .slice, .row _ _ _ n => if 0 < n then some false else none
  | .slice, .bsl _ _ => some false
  | .ptr, .p (.v (.pointer none)) => some true
  | .ptr, .fp _ _ => some false
  | .ptr, .ptr _ _ => some false
  | .map, .p (.v (.map none)) => some true
  | .map, .mp _ => some false
  | .fn, .p (.v .nilFunc) => some true
  | .fn, .fn _ _ _ => some false
  | .iface, .p (.v .nilIface) => some true
  | .iface, .p (.v (.iface _ _)) => some false
  | _, _ => none

/-- A comparison one side of which is nil. -/
def nilEq (ty : Ty) (a b : AV) : Option Bool :=
  match isNilA ty a, isNilA ty b with
  | some true, some r => some r
  | some false, some true => some false
  | _, _ => none

/-- Comparisons of numbers with a point. -/
def fltOp (op : BinOp) (x y : Nat) : Option Value :=
  match op with
  | .eql => some (.bool (FloatKind.f64.format.order x y == some .eq))
  | .neq => some (.bool (FloatKind.f64.format.order x y != some .eq))
  | .lss => some (.bool (FloatKind.f64.format.order x y == some .lt))
  | .leq => some (.bool (FloatKind.f64.format.order x y == some .lt || FloatKind.f64.format.order x y == some .eq))
  | .gtr => some (.bool (FloatKind.f64.format.order x y == some .gt))
  | .geq => some (.bool (FloatKind.f64.format.order x y == some .gt || FloatKind.f64.format.order x y == some .eq))
  | _ => none

def bin (op : BinOp) (ty : Ty) (a b : AV) : Option AV :=
  match ty with
  | .float =>
    match a, b with
    | .p (.v (.float .f64 x)), .p (.v (.float .f64 y)) => (fltOp op x y).map fun v => .p (.v v)
    | _, _ => none
  | .int =>
    match a, b with
    | .p (.v (.int k x)), .p (.v (.int k' y)) => if isShift op || decide (k = k') then (intOp op k x y).map fun v => .p (.v v) else none
    | _, _ => none
  | .str =>
    match a, b with
    | .p (.v (.string x)), .p (.v (.string y)) => (strOp op x y).map fun v => .p (.v v)
    | _, _ => none
  | .bool =>
    match a, b with
    | .p (.v (.bool x)), .p (.v (.bool y)) => eqRes op (x == y)
    | _, _ => none
  | .agg n plan =>
    match a, b with
    | .agg xs, .agg ys => if xs.length = n ∧ ys.length = n then (leavesEq xs ys plan).bind fun r => eqRes op r else none
    | _, _ => none
  | .arr n plan =>
    match a, b with
    | .agg xs, .agg ys => if xs.length = n ∧ ys.length = n then (leavesEq xs ys plan).bind fun r => eqRes op r else none
    | _, _ => none
  | .slice => (nilEq .slice a b).bind fun r => eqRes op r
  | .ptr => (nilEq .ptr a b).bind fun r => eqRes op r
  | .map => (nilEq .map a b).bind fun r => eqRes op r
  | .fn => (nilEq .fn a b).bind fun r => eqRes op r
  | .iface => (match nilEq .iface a b with | some false => eqRes op false | _ => none)
  | .other => none

def un (op : UnOp) (a : AV) : Option AV :=
  match op, a with
  | .neg, .p (.v (.int k n)) => some (.p (.v (.int k (k.wrap (0 - n)))))
  | .xor, .p (.v (.int k n)) => (intOp .xor k (if k.signed then -1 else k.max) n).map fun v => .p (.v v)
  | .not, .p (.v (.bool b)) => some (B !b)
  | _, _ => none

def bytesOf : List PV → Option (List UInt8)
  | [] => some []
  | .v (.int .u8 n) :: xs => (bytesOf xs).map fun r => UInt8.ofNat n.toNat :: r
  | _ => none

/-- Conversions: to a kind of integers; between strings and bytes; else the value stays. -/
inductive Cv where
  | int (k : IntKind)
  | toBytes
  | toStr
  | same
  | no

def isU8 (P : Program) (e : TypeId) : Bool :=
  match P.underlying e with
  | some (.int .u8) => true
  | _ => false

def cvOf (P : Program) (s t : TypeId) : Cv :=
  match P.underlying s, P.underlying t with
  | some (.int _), some (.int k) => .int k
  | some .string, some .string => .same
  | some .string, some (.slice e) => if isU8 P e = true then .toBytes else .no
  | some (.slice e), some .string => if isU8 P e = true then .toStr else .no
  | _, _ => .no

def conv (c : Cv) (a : AV) : Option AV :=
  match c, a with
  | .int k, .p (.v (.int _ n)) => some (.p (.v (.int k (k.wrap n))))
  | .same, .p (.v (.string s)) => some (S s)
  | .toBytes, .p (.v (.string s)) => some (.p (.sl (some false) false s.size (s.data.toList.map fun b => .v (.int .u8 b.toNat))))
  | .toStr, .p (.sl _ _ n xs) => if xs.length = n then (bytesOf xs).map fun l => S ⟨l.toArray⟩ else none
  | _, _ => none

/-! ### Aggregates -/
def AV.cells : AV → List AV
  | .agg xs => xs
  | x => [x]

def fieldA (agg : Bool) (off n : Nat) (a : AV) : Option AV :=
  match a with
  | .agg xs => if agg then (if off + n ≤ xs.length then some (.agg ((xs.drop off).take n)) else none) else xs[off]?
  | _ => none

def splice {α : Type} (xs : List α) (off : Nat) : List α → List α
  | [] => xs
  | y :: ys => splice (xs.set off y) (off + 1) ys

/-- A value's parts put into its zero: offset, size, part. -/
def buildA (zero : List AV) : List (Nat × Nat × AV) → Option AV
  | [] => some (.agg zero)
  | (off, n, x) :: rest => if x.cells.length = n ∧ off + n ≤ zero.length ∧ x.cells.all AV.leaf = true then buildA (splice zero off x.cells) rest else none

def pickA (c a b : AV) : Option AV :=
  match truth c with
  | some true => some a
  | some false => some b
  | none => none

def extractA (t : AV) (j : Nat) : Option AV :=
  match t with
  | .tup xs => xs[j]?
  | _ => none

/-! ### References below a level -/
def AV.lt (b : Nat) : Nat → AV → Bool
  | 0, _ => false
  | d + 1, x =>
    match x with
    | .any | .p _ | .fp _ _ => true
    | .agg xs | .tup xs => xs.all (AV.lt b d)
    | .row id _ _ _ | .ptr id _ | .bsl id _ | .rptr id _ _ | .mp id | .it id => decide (id < b)
    | .fn _ f c => f.all (AV.lt b d) && c.all (AV.lt b d)

abbrev AV.ltd (b : Nat) (x : AV) : Bool := AV.lt b 6 x

/-! ### Freezing -/
def toPV (H : Heap) (y : AV) : Option (PV × Heap) :=
  match y with
  | .p x => some (x, H)
  | .row id g off n =>
    match H[id]? with
    | some (.row g' sz xs) =>
      if g' = g ∧ off + n * sz ≤ xs.length then some (.sl (if 0 < n then some false else none) false n ((xs.drop off).take (n * sz)), H.set id (.row (g + 1) sz [])) else none
    | _ => none
  | _ => none

def toPVs : Heap → List AV → Option (List PV × Heap)
  | H, [] => some ([], H)
  | H, y :: ys => (toPV H y).bind fun r => (toPVs r.2 ys).map fun q => (r.1 :: q.1, q.2)

/-- A list whose elements' cells are variables is given away. -/
def frzBox (id n : Nat) (H : Heap) : Option (PV × Heap) :=
  match H[id]? with
  | some (.box xs) =>
    (toPVs H xs).bind fun r =>
      match r.2[id]? with
      | some (.box ys) => if ys.length = xs.length ∧ 0 < ys.length then some (.sl (some false) false n r.1, r.2.set id (.box [])) else none
      | _ => none
  | _ => none

/-! ### Memory -/
def partP (agg : Bool) (n : Nat) (xs : List PV) (off : Nat) : Option AV :=
  if agg then (if off + n ≤ xs.length then some (.agg (((xs.drop off).take n).map .p)) else none) else (xs[off]?).map .p

def partA (agg : Bool) (n : Nat) (xs : List AV) (off : Nat) : Option AV :=
  if agg then (if off + n ≤ xs.length then some (.agg ((xs.drop off).take n)) else none) else xs[off]?

def ld (agg : Bool) (n : Nat) (p : AV) (H : Heap) : Option AV :=
  match p with
  | .fp xs off => partP agg n xs off
  | .ptr id off =>
    match H[id]? with
    | some (.box xs) => if 0 < xs.length then partA agg n xs off else none
    | _ => none
  | .rptr id g off =>
    match H[id]? with
    | some (.row g' _ xs) => if g' = g then partP agg n xs off else none
    | _ => none
  | _ => none

/-- What is put into a variable with this number must not lead beyond any level that the variable lies below. -/
def okLevels (lo : List Nat) (id : Nat) (ys : List AV) : Bool := lo.all fun l => decide (l ≤ id) || ys.all (AV.ltd l)

def stA (n : Nat) (p y : AV) (lo : List Nat) (H : Heap) : Option Heap :=
  match p with
  | .ptr id off =>
    match H[id]? with
    | some (.box xs) =>
      if y.cells.length = n ∧ off + n ≤ xs.length ∧ 0 < xs.length ∧ y.cells.all AV.leaf = true ∧ okLevels lo id y.cells = true then some (H.set id (.box (splice xs off y.cells))) else none
    | _ => none
  | .rptr id g off =>
    match H[id]? with
    | some (.row g' sz xs) =>
      if g' = g ∧ y.cells.length = n ∧ off + n ≤ xs.length then
        (toPVs H y.cells).bind fun r =>
          match r.2[id]? with
          | some (.row g'' _ ys) => if g'' = g ∧ ys.length = xs.length then some (r.2.set id (.row g sz (splice ys off r.1))) else none
          | _ => none
      else none
    | _ => none
  | _ => none

/-- Not out of a row. -/
def ldS (agg : Bool) (n : Nat) (p : AV) (H : Heap) : Option AV :=
  match p with
  | .rptr _ _ _ => none
  | p => ld agg n p H

/-- Out of a frozen list alone. -/
def ldF (agg : Bool) (n : Nat) (p : AV) : Option AV :=
  match p with
  | .fp xs off => partP agg n xs off
  | _ => none

def idxA (sz : Nat) (x i : AV) : Option AV :=
  match x, i with
  | .p (.sl _ _ n xs), .p (.v (.int _ j)) => if 0 ≤ j ∧ j < n then some (.fp xs (j.toNat * sz)) else none
  | .row id g off n, .p (.v (.int _ j)) => if 0 ≤ j ∧ j < n then some (.rptr id g (off + j.toNat * sz)) else none
  | .bsl id n, .p (.v (.int _ j)) => if 0 ≤ j ∧ j < n then some (.ptr id (0 + j.toNat * sz)) else none
  | _, _ => none

/-- 'x[i]' of an array of n elements. -/
def arrAt (agg : Bool) (sz n : Nat) (x i : AV) : Option AV :=
  match x, i with
  | .agg xs, .p (.v (.int _ j)) => if 0 ≤ j ∧ j < n then partA agg sz xs (j.toNat * sz) else none
  | _, _ => none

/-- '&x[i]' of a pointer to an array of n elements. -/
def idxArr (sz n : Nat) (x i : AV) : Option AV :=
  match x, i with
  | .fp xs off, .p (.v (.int _ j)) => if 0 ≤ j ∧ j < n then some (.fp xs (off + j.toNat * sz)) else none
  | .ptr id off, .p (.v (.int _ j)) => if 0 ≤ j ∧ j < n then some (.ptr id (off + j.toNat * sz)) else none
  | .rptr id g off, .p (.v (.int _ j)) => if 0 ≤ j ∧ j < n then some (.rptr id g (off + j.toNat * sz)) else none
  | _, _ => none

def fldA (off : Nat) (p : AV) : Option AV :=
  match p with
  | .fp xs o => some (.fp xs (o + off))
  | .ptr id o => some (.ptr id (o + off))
  | .rptr id g o => some (.rptr id g (o + off))
  | _ => none

def nilCheckA (x : AV) : Option AV :=
  match x with
  | .fp _ _ | .ptr _ _ | .rptr _ _ _ | .fn _ _ _ => some x
  | _ => none

def strAt (s i : AV) : Option AV :=
  match s, i with
  | .p (.v (.string s)), .p (.v (.int _ j)) =>
    (match (if 0 ≤ j then s[j.toNat]? else none) with
     | some b => some (.p (.v (.int .u8 b.toNat)))
     | none => none)
  | _, _ => none

def bnd (d : Nat) : Option AV → Option Int
  | none => some d
  | some x => asI x

/-- 'x[lo:hi]' of a string. -/
def cutStr (x : AV) (lo hi : Option AV) : Option AV :=
  match x with
  | .p (.v (.string s)) =>
    (bnd 0 lo).bind fun l => (bnd s.size hi).bind fun h =>
      if 0 ≤ l ∧ l ≤ h ∧ h ≤ s.size then some (S (s.extract l.toNat h.toNat)) else none
  | _ => none

/-- 'x[lo:hi]' of a slice, within its length. A third index must be the second. -/
def cutA (sz : Nat) (x : AV) (lo hi mx : Option AV) (H : Heap) : Option AV :=
  match x with
  | .p (.sl nl t n xs) =>
    (bnd 0 lo).bind fun l => (bnd n hi).bind fun h =>
      match mx with
      | none =>
        if 0 ≤ l ∧ l ≤ h ∧ h ≤ n then
          some (.p (.sl nl (t && decide (h = n)) (h.toNat - l.toNat) ((xs.drop (l.toNat * sz)).take ((h.toNat - l.toNat) * sz)))) else none
      | some m =>
        (asI m).bind fun m =>
          if 0 ≤ l ∧ l ≤ h ∧ h ≤ n ∧ m = h ∧ hi.isSome = true then some (.p (.sl nl true (h.toNat - l.toNat) ((xs.drop (l.toNat * sz)).take ((h.toNat - l.toNat) * sz)))) else none
  | .row id g off n =>
    (bnd 0 lo).bind fun l => (bnd n hi).bind fun h =>
      match mx with
      | none =>
        (match H[id]? with
         | some (.row _ sz' _) => if sz' = sz ∧ 0 ≤ l ∧ l ≤ h ∧ h ≤ n then some (.row id g (off + l.toNat * sz) (h.toNat - l.toNat)) else none
         | _ => none)
      | some _ => none
  | _ => none

/-- 'x[lo:hi]' of a pointer to an array of n elements. -/
def cutArr (sz n : Nat) (x : AV) (lo hi : Option AV) (H : Heap) : Option AV :=
  match x with
  | .rptr id g off =>
    (bnd 0 lo).bind fun l => (bnd n hi).bind fun h =>
      match H[id]? with
      | some (.row g' sz' xs) => if g' = g ∧ sz' = sz ∧ off + n * sz ≤ xs.length ∧ 0 ≤ l ∧ l ≤ h ∧ h ≤ n ∧ n ≤ 16777216 then some (.row id g (off + l.toNat * sz) (h.toNat - l.toNat)) else none
      | _ => none
  | .ptr id off =>
    (bnd 0 lo).bind fun l => (bnd n hi).bind fun h =>
      match H[id]? with
      | some (.box xs) => if off = 0 ∧ l = 0 ∧ 0 < xs.length ∧ 0 < n ∧ 0 ≤ h ∧ h ≤ n ∧ n ≤ 16777216 then some (.bsl id h.toNat) else none
      | _ => none
  | _ => none

/-- A new array. -/
def mkArr (sz : Nat) (cs : List PV) (H : Heap) : AV × Heap := (.rptr H.length 0 0, H ++ [.row 0 sz cs])

def arrOf (P : Program) (t : TypeId) : Option (Nat × TypeId) :=
  match P.underlying t with
  | some (.array n e) => some (n, e)
  | _ => none

def lenA (ty : Ty) (x : AV) (H : Heap) : Option AV :=
  match ty, x with
  | .slice, .p (.sl _ _ n _) => some (I n)
  | .slice, .row _ _ _ n => some (I n)
  | .slice, .bsl _ n => some (I n)
  | .str, .p (.v (.string s)) => some (I s.size)
  | .map, .p (.v (.map none)) => some (I 0)
  | .map, .mp id => (match H[id]? with | some (.map es _) => some (I es.length) | _ => none)
  | _, _ => none

def capA (x : AV) : Option AV :=
  match x with
  | .p (.sl (some true) _ _ _) => some (I 0)
  | .p (.sl _ true n _) => some (I n)
  | _ => none

def best (gt : Bool) : AV → AV → Option AV
  | .p (.v (.int k x)), .p (.v (.int k' y)) => if k = k' then some (.p (.v (.int k (if gt then (if y > x then y else x) else (if y < x then y else x))))) else none
  | _, _ => none

def bests (gt : Bool) (x : AV) : List AV → Option AV
  | [] => some x
  | y :: ys => (best gt x y).bind fun z => bests gt z ys

def room : Nat := 140737488355328

/-- What a slice holds: its cells. -/
def cellsA (sz : Nat) (x : AV) (H : Heap) : Option (Nat × List PV) :=
  match x with
  | .p (.sl _ _ n xs) => if xs.length = n * sz then some (n, xs) else none
  | .row id g off n =>
    match H[id]? with
    | some (.row g' sz' xs) => if g' = g ∧ sz' = sz ∧ off + n * sz ≤ xs.length then some (n, (xs.drop off).take (n * sz)) else none
    | _ => none
  | .p (.v (.string s)) => if sz = 1 then some (s.size, s.data.toList.map fun b => .v (.int .u8 b.toNat)) else none
  | _ => none

def appTo (sz bytes : Nat) (x : AV) (k : Nat) (new : List PV) (H : Heap) : Option (AV × Heap) :=
  match x with
  | .p (.sl (some true) t n xs) => if k = 0 then some (.p (.sl (some true) t n xs), H) else if k * bytes ≤ room then some (.row H.length 0 0 k, H ++ [.row 0 sz new]) else none
  | .p (.sl nl true n xs) =>
    if k = 0 ∧ 0 < n then some (.p (.sl nl true n xs), H) else if xs.length = n * sz ∧ (n = 0 ∨ 0 < k) ∧ (n + k) * bytes ≤ room then some (.row H.length 0 0 (n + k), H ++ [.row 0 sz (xs ++ new)]) else none
  | .row id g off n =>
    match H[id]? with
    | some (.row g' sz' xs) =>
      if g' = g ∧ sz' = sz ∧ off + n * sz ≤ xs.length ∧ (n + k) * bytes ≤ room then
        some (.row id (g + 1) 0 (n + k), H.set id (.row (g + 1) sz ((xs.drop off).take (n * sz) ++ new))) else none
    | _ => none
  | _ => none

def appA (sz bytes : Nat) (x y : AV) (H : Heap) : Option (AV × Heap) :=
  (cellsA sz y H).bind fun r => appTo sz bytes x r.1 r.2 H

def zerosA (n : Nat) (zero : List PV) : List PV := (List.replicate n zero).flatten

/-- 'append(x, make([]T, n)...)'. -/
def appZ (sz bytes : Nat) (zero : List PV) (x n : AV) (H : Heap) : Option (AV × Heap) :=
  (asI n).bind fun k => if 0 ≤ k ∧ k.toNat * bytes ≤ room then appTo sz bytes x k.toNat (zerosA k.toNat zero) H else none

def copyA (sz : Nat) (x y : AV) (H : Heap) : Option (AV × Heap) :=
  match x with
  | .row id g off n =>
    match H[id]? with
    | some (.row g' sz' xs) =>
      if g' = g ∧ sz' = sz ∧ off + n * sz ≤ xs.length then
        (cellsA sz y H).bind fun r =>
          some (I (min r.1 n : Nat), H.set id (.row g sz (splice xs off (r.2.take (min r.1 n * sz)))))
      else none
    | _ => none
  | _ => none

/-- 'clear(s)' of a slice. -/
def clearA (sz : Nat) (zero : List PV) (x : AV) (H : Heap) : Option Heap :=
  match x with
  | .p (.sl _ _ 0 _) => some H
  | .row id g off n =>
    (match H[id]? with
     | some (.row g' sz' xs) => if g' = g ∧ sz' = sz ∧ off + n * sz ≤ xs.length then some (H.set id (.row g sz (splice xs off (zerosA n zero)))) else none
     | _ => none)
  | _ => none

def mkRow (sz bytes : Nat) (zero : List PV) (l c : AV) (H : Heap) : Option (AV × Heap) :=
  (asI l).bind fun l => (asI c).bind fun c =>
    if 0 ≤ l ∧ l ≤ c ∧ c * bytes ≤ room then some (.row H.length 0 0 l.toNat, H ++ [.row 0 sz (zerosA l.toNat zero)]) else none

/-- A list whose elements' cells are variables: they may hold what this call owns. -/
def mkBsl (sz bytes : Nat) (zero : List PV) (l c : AV) (H : Heap) : Option (AV × Heap) :=
  (asI l).bind fun k =>
    if zerosA k.toNat zero = [] then mkRow sz bytes zero l c H
    else (asI c).bind fun c => if 0 ≤ k ∧ k = c ∧ c * bytes ≤ room then some (.bsl H.length k.toNat, H ++ [.box ((zerosA k.toNat zero).map .p)]) else none

def litCells (sz : Nat) : List AV → List AV
  | [] => []
  | x :: xs => x.cells ++ litCells sz xs

/-- A slice literal: frozen at once, or a row of the call's own. -/
def litA (own : Bool) (sz : Nat) (parts : List AV) (H : Heap) : Option (AV × Heap) :=
  if parts.all (fun x => x.cells.length == sz) then
    (toPVs H (litCells sz parts)).bind fun r =>
      if own then some (.row r.2.length 0 0 parts.length, r.2 ++ [.row 0 sz r.1]) else some (.p (.sl (some false) true parts.length r.1), r.2)
  else none

/-- A slice literal whose elements' cells are variables: they may hold what this call owns. -/
def litB (sz : Nat) (parts : List AV) (H : Heap) : Option (AV × Heap) :=
  if parts.all (fun x => x.cells.length == sz) = true ∧ (litCells sz parts).all AV.leaf = true ∧ 0 < (litCells sz parts).length then some (.bsl H.length parts.length, H ++ [.box (litCells sz parts)]) else none

def pvCells : List AV → Option (List PV)
  | [] => some []
  | .p x :: xs => (pvCells xs).map fun r => x :: r
  | _ => none

/-- A slice literal of pure values, frozen at once. -/
def litP (sz : Nat) (parts : List AV) : Option AV :=
  if parts.all (fun x => x.cells.length == sz) then (pvCells (litCells sz parts)).map fun cs => .p (.sl (some false) true parts.length cs) else none

/-! ### Maps -/
/-- May this be a key of a map whose keys are of this type? -/
def keyOk : Ty → AV → Bool
  | .int, .p (.v (.int _ _)) | .str, .p (.v (.string _)) | .bool, .p (.v (.bool _)) => true
  | .agg n _, .agg xs => Nat.beq xs.length n
  | _, _ => false

def sameLeaf : AV → AV → Bool
  | .p (.v (.int k x)), .p (.v (.int k' y)) => decide (k = k') && (x == y)
  | .p (.v (.string x)), .p (.v (.string y)) => x.toList == y.toList
  | .p (.v (.bool x)), .p (.v (.bool y)) => x == y
  | _, _ => false

def sameLeaves : List AV → List AV → Bool
  | [], [] => true
  | x :: xs, y :: ys => sameLeaf x y && sameLeaves xs ys
  | _, _ => false

/-- Are two keys the same, cell by cell? -/
def sameKey : AV → AV → Bool
  | .agg xs, .agg ys => sameLeaves xs ys
  | x, y => sameLeaf x y

abbrev Ent := AV × AV × Nat

/-- Where a key lies in a map. -/
def findA (ty : Ty) (k : AV) : List Ent → Nat → Option (Option (Nat × AV))
  | [], _ => some none
  | e :: es, i => (bin .eql ty k e.1).bind fun b => (truth b).bind fun t => if t = true then some (some (i, e.2.1)) else findA ty k es (i + 1)

/-- The entries of a map. -/
def entsA (m : AV) (H : Heap) : Option (List Ent) :=
  match m with
  | .p (.v (.map none)) => some []
  | .mp id => (match H[id]? with | some (.map es _) => some es | _ => none)
  | _ => none

def lookRes (ok2 : Bool) (zero : AV) (r : Option (Nat × AV)) : AV :=
  match r with
  | some q => if ok2 then .tup [q.2, B true] else q.2
  | none => if ok2 then .tup [zero, B false] else zero

/-- 'm[k]'. -/
def lookA (ty : Ty) (zero : AV) (ok2 : Bool) (m k : AV) (H : Heap) : Option AV :=
  if keyOk ty k = true then (entsA m H).bind fun es => (findA ty k es 0).map fun r => lookRes ok2 zero r else none

def setVal (es : List Ent) (i : Nat) (v : AV) : List Ent := es.modify i fun e => (e.1, v, e.2.2)

/-- The value that a map holds with a key from here on. -/
def mapUpdA (ty : Ty) (m k v : AV) (lo : List Nat) (H : Heap) : Option Heap :=
  match m with
  | .mp id =>
    match H[id]? with
    | some (.map es c) =>
      if keyOk ty k = true ∧ okLevels lo id [k, v] = true then
        (findA ty k es 0).bind fun r =>
          match r with
          | some (i, _) => (match es[i]? with | some e => if sameKey e.1 k = true then some (H.set id (.map (setVal es i v) c)) else none | none => none)
          | none => some (H.set id (.map (es ++ [(k, v, c)]) (c + 1)))
      else none
    | _ => none
  | _ => none

/-- An entry's value and its stamp; one is made where there is none. -/
def mapEntA (ty : Ty) (zero : AV) (m k : AV) (lo : List Nat) (H : Heap) : Option (AV × Heap) :=
  match m with
  | .mp id =>
    match H[id]? with
    | some (.map es c) =>
      if keyOk ty k = true ∧ okLevels lo id [k, zero] = true then
        (findA ty k es 0).bind fun r =>
          match r with
          | some (i, v) => (match es[i]? with | some e => if sameKey e.1 k = true then some (.tup [v, I e.2.2], H) else none | none => none)
          | none => some (.tup [zero, I c], H.set id (.map (es ++ [(k, zero, c)]) (c + 1)))
      else none
    | _ => none
  | _ => none

def entStA (m st v : AV) (lo : List Nat) (H : Heap) : Option Heap :=
  match m with
  | .mp id =>
    match H[id]? with
    | some (.map es c) =>
      if okLevels lo id [v] = true then
        (asI st).bind fun n => (es.findIdx? fun e => decide ((e.2.2 : Int) = n)).map fun i => H.set id (.map (setVal es i v) c)
      else none
    | _ => none
  | _ => none

def delA (ty : Ty) (m k : AV) (H : Heap) : Option Heap :=
  match m with
  | .p (.v (.map none)) => if keyOk ty k = true then some H else none
  | .mp id =>
    match H[id]? with
    | some (.map es c) => if keyOk ty k = true then (findA ty k es 0).map fun r => match r with | some (i, _) => H.set id (.map (es.eraseIdx i) c) | none => H else none
    | _ => none
  | _ => none

def mkMap (H : Heap) : AV × Heap := (.mp H.length, H ++ [.map [] 0])

/-- A range over a map begins. -/
def rangeA (x : AV) (H : Heap) : Option (AV × Heap) :=
  match x with
  | .mp id => (match H[id]? with | some (.map _ c) => some (.it H.length, H ++ [.iter id c [] c]) | _ => none)
  | _ => none

def leftA (es : List Ent) (seen : List Nat) : List Ent := es.filter fun e => !seen.contains e.2.2

/-- What may come next: whatever the map holds that has not come yet. -/
def nextA (x : AV) (H : Heap) : Option (List (AV × Heap)) :=
  match x with
  | .it id =>
    (match H[id]? with
     | some (.iter m since seen _) =>
       (match H[m]? with
        | some (.map es c) =>
          if (decide (since ≤ c) && es.all fun e => decide (e.2.2 < since)) = true then
            some (match leftA es seen with
              | [] => [(.tup [B false], H)]
              | e :: l => (e :: l).map fun e => (.tup [B true, e.1, e.2.1], H.set id (.iter m since (seen ++ [e.2.2]) c)))
          else none
        | _ => none)
     | _ => none)
  | _ => none

/-- The entry that came last. -/
def entryA (x : AV) (H : Heap) : Option AV :=
  match x with
  | .it id =>
    (match H[id]? with
     | some (.iter m _ seen last) =>
       (match H[m]?, seen.getLast? with
        | some (.map es c), some st => if c = last then (es.find? fun e => Nat.beq e.2.2 st).map fun e => .tup [e.1, e.2.1] else none
        | _, _ => none)
     | _ => none)
  | _ => none

def boxA (xs : List AV) (H : Heap) : AV × Heap := (.ptr H.length 0, H ++ [.box xs])

def isHole : AObj → Bool
  | .hole => true
  | _ => false
/-- Which place: the r-th of the m that were kept last; the only one (m = 0). -/
def holeAt (m r : Nat) (H : Heap) : Nat := if m = 0 then H.findIdx isHole else H.length - m + r

/-- A variable at a place that was kept. -/
def fillA (m r : Nat) (xs : List AV) (H : Heap) : Option (AV × Heap) :=
  match pvCells xs, H[holeAt m r H]? with
  | some cs, some .hole => if (m = 0 ∨ r < m ∧ m ≤ H.length) ∧ 0 < cs.length then some (.ptr (holeAt m r H) 0, H.set (holeAt m r H) (.box (cs.map .p))) else none
  | _, _ => none

/-- A read that is not out of the last object. -/
def ldX (agg : Bool) (n : Nat) (p : AV) (H : Heap) : Option AV :=
  match p with
  | .ptr id off => if id + 1 = H.length then none else ld agg n (.ptr id off) H
  | p => ld agg n p H

/-- A write into the last object alone. -/
def stX (n : Nat) (p y : AV) (lo : List Nat) (H : Heap) : Option Heap :=
  match p with
  | .ptr id off => if id + 1 = H.length then stA n (.ptr id off) y lo H else none
  | _ => none

/-- A read out of the first object alone. -/
def ldZ (agg : Bool) (n : Nat) (p : AV) (H : Heap) : Option AV :=
  match p with
  | .ptr 0 off => ld agg n (.ptr 0 off) H
  | _ => none

/-- A write not into the first object. -/
def stZ (n : Nat) (p y : AV) (lo : List Nat) (H : Heap) : Option Heap :=
  match p with
  | .ptr (id + 1) off => stA n (.ptr (id + 1) off) y lo H
  | _ => none

/-! ### Truth values apart -/
/-- A cell that is no truth value. -/
def hideB : AV → Option AV
  | .p (.v (.bool _)) => none
  | x => some x

def noB1 (x : AV) : Bool := (hideB x).isSome
def noBools : AV → Bool
  | .agg xs => xs.all noB1
  | x => noB1 x

/-- A read of a variable that is no truth value and has none. -/
def ldN (agg : Bool) (n : Nat) (p : AV) (H : Heap) : Option AV := (ldS agg n p H).bind fun v => if noBools v = true then some v else none

def hideO : Option AObj → Option (List (Option AV))
  | some (.box xs) => some (xs.map hideB)
  | _ => none

/-- A new row at a place that was kept. -/
def fillRow (m r sz bytes : Nat) (zero : List PV) (l c : AV) (H : Heap) : Option (AV × Heap) :=
  (asI l).bind fun l => (asI c).bind fun c =>
    match H[H.length - m + r]? with
    | some .hole => if 0 ≤ l ∧ l ≤ c ∧ c * bytes ≤ room ∧ r < m ∧ m ≤ H.length then some (.row (H.length - m + r) 0 0 l.toNat, H.set (H.length - m + r) (.row 0 sz (zerosA l.toNat zero))) else none
    | _ => none

def pvSame : PV → PV → Bool
  | .sl (some true) true 0 [], .sl (some true) true 0 [] => true
  | .v (.int .i64 a), .v (.int .i64 b) => a == b
  | .v (.bool a), .v (.bool b) => a == b
  | _, _ => false
def pvsSame : List PV → List PV → Bool
  | [], [] => true
  | x :: xs, y :: ys => pvSame x y && pvsSame xs ys
  | _, _ => false
theorem pvSame_eq {x y : PV} (h : pvSame x y = true) : x = y := by
  unfold pvSame at h
  split at h <;> first | rfl | (simp at h; rw [h]) | cases h
theorem pvsSame_eq : ∀ {xs ys : List PV}, pvsSame xs ys = true → xs = ys := by
  intro xs
  induction xs with
  | nil => intro ys h; cases ys with
    | nil => rfl
    | cons => cases h
  | cons x xs ih => intro ys h; cases ys with
    | nil => cases h
    | cons y ys =>
      simp only [pvsSame, Bool.and_eq_true] at h
      rw [pvSame_eq h.1, ih h.2]

/-! ### Guards -/
def gd (c : AV) (want : Bool) (x : Option AV) : Option AV :=
  match c with
  | .p (.v (.bool b)) => if b = want then x else some undefA
  | .tup [] => some undefA
  | _ => none

def gdH (c : AV) (want : Bool) (x : Option (AV × Heap)) (H : Heap) : Option (AV × Heap) :=
  match c with
  | .p (.v (.bool b)) => if b = want then x else some (undefA, H)
  | .tup [] => some (undefA, H)
  | _ => none

abbrev Res := Option (List AV × Heap)

def cond (c : AV) (x y : Res) : Res :=
  match truth c with
  | some true => x
  | some false => y
  | none => none

end Go.AM
