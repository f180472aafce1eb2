/- A program that runs code over abstract memory: values, memory, and what each operation does to them. No program is named here. -/
import Derived.Calls
set_option linter.unusedSimpArgs false
set_option linter.unusedVariables false
set_option maxHeartbeats 1000000
namespace Go.Cx

/-- A finite table by numbers. -/
inductive Tr (α : Type) where
  | e
  | n (v : Option α) (l r : Tr α)

namespace Tr
variable {α : Type}

def get : Tr α → Nat → Option α
  | .e, _ => none
  | .n v l r, k => match k with
    | 0 => v
    | m + 1 => bif Nat.beq (m % 2) 0 then l.get (m / 2) else r.get (m / 2)

def put : Nat → Tr α → Nat → Option α → Tr α
  | 0, t, _, _ => t
  | f + 1, t, k, v => match t with
    | .e => match k with
      | 0 => .n v .e .e
      | m + 1 => bif Nat.beq (m % 2) 0 then .n none (put f .e (m / 2) v) .e else .n none .e (put f .e (m / 2) v)
    | .n w l r => match k with
      | 0 => .n v l r
      | m + 1 => bif Nat.beq (m % 2) 0 then .n w (put f l (m / 2) v) r else .n w l (put f r (m / 2) v)

def set (t : Tr α) (k : Nat) (v : α) : Tr α := put (k + 1) t k (some v)
def del (t : Tr α) (k : Nat) : Tr α := put (k + 1) t k none

end Tr

/-- A value. A pointer: object, cell. A slice: object, cells of an element, first cell, length, capacity (known exactly, or from below). -/
inductive CV where
  | lit (v : Value)
  | sym (n : Nat)
  | ptr (id off : Nat)
  | sl (id s off len cap : Nat) (ex : Bool)
  | mp (id : Nat)
  | it (id : Nat)
  | ifc (t : TypeId) (v : CV)
  | fn (f : Fn) (first caps : List CV)
  | agg (cs : List CV)
  | tup (cs : List CV)
  deriving Inhabited

/-- A map's entry: key, value, stamp. -/
structure ME where
  k : CV
  v : CV
  b : Nat

/-- An object. -/
inductive OB where
  | cells (xs : List CV)
  | map (es : List ME) (clock : Nat)
  | iter (m : Nat) (since : Nat) (seen : List Nat) (stepped : Nat)
  | bag (xs : List CV)

structure St where
  tm : Tr CV
  hp : Tr OB
  nx : Nat

inductive R (α : Type) where
  | ok (a : α)
  | no (why : String) (at' : List Nat := [])

def R.bind {α β : Type} : R α → (α → R β) → R β
  | .ok a, f => f a
  | .no w l, _ => .no w l

/-- Where it stopped. -/
def R.mark {α : Type} (n : Nat) : R α → R α
  | .ok a => .ok a
  | .no w l => .no w (n :: l)

def R.of {α : Type} (w : String) : Option α → R α
  | some a => .ok a
  | none => .no w

/-- Only if. -/
def R.if {α : Type} (w : String) (b : Bool) (x : R α) : R α := bif b then x else .no w

theorem R.bind_ok {α β : Type} {x : R α} {f : α → R β} {b : β} : x.bind f = .ok b ↔ ∃ a, x = .ok a ∧ f a = .ok b := by
  cases x <;> simp [R.bind]

theorem R.mark_ok {α : Type} {n : Nat} {x : R α} {b : α} : x.mark n = .ok b ↔ x = .ok b := by
  cases x <;> simp [R.mark]

theorem R.of_ok {α : Type} {w : String} {x : Option α} {b : α} : R.of w x = .ok b ↔ x = some b := by
  cases x <;> simp [R.of]

theorem R.if_ok {α : Type} {w : String} {c : Bool} {x : R α} {b : α} : R.if w c x = .ok b ↔ c = true ∧ x = .ok b := by
  cases c <;> simp [R.if]

def lits (l : List Value) : List CV := l.map .lit

def ofConst : Value → CV
  | .agg cs => .agg (lits cs.toList)
  | v => .lit v

def evO (tm : Tr CV) : Operand → R CV
  | .tmp t => R.of "no such temporary" (tm.get t)
  | .const v => .ok (ofConst v)
  | .func f => .ok (.fn (.func f) [] [])
  | .global _ => .no "global"

def evL (tm : Tr CV) : List Operand → R (List CV)
  | [] => .ok []
  | x :: l => (evO tm x).bind fun v => (evL tm l).bind fun vs => .ok (v :: vs)

def evP (tm : Tr CV) : List (Nat × Operand) → R (List (Nat × CV))
  | [] => .ok []
  | x :: l => (evO tm x.2).bind fun v => (evP tm l).bind fun vs => .ok ((x.1, v) :: vs)

def opt (tm : Tr CV) : Option Operand → R (Option CV)
  | none => .ok none
  | some x => (evO tm x).bind fun v => .ok (some v)

def cellsOf : CV → List CV
  | .agg cs => cs
  | .lit v => match v with
    | .agg cs => lits cs.toList
    | v => [.lit v]
  | v => [v]

/-- The value of one cell. -/
def one : CV → Bool
  | .lit v => match v with
    | .agg _ | .tuple _ => false
    | _ => true
  | .agg _ | .tup _ => false
  | _ => true

/-- Writes over a list's places from 'n' on. -/
def over {α : Type} : Nat → List α → List α → List α
  | _, _, [] => []
  | 0, [], l => l
  | 0, y :: ys, _ :: l => y :: over 0 ys l
  | n + 1, ys, x :: l => x :: over n ys l

def isAggD : TypeDesc → Bool
  | .struct _ | .array _ _ => true
  | _ => false

structure TI where
  desc : TypeDesc
  size : Nat
  zero : List CV
  agg : Bool
  bytes : Nat

def isAggV : Value → Bool
  | .agg _ => true
  | _ => false

def tiOf (P : Program) (t : TypeId) : R TI :=
  (R.of "type" (P.info? t)).bind fun i => (R.of "type" (P.underlying t)).bind fun d => (R.of "zero" i.zero).bind fun z =>
    R.if "zero: size" (Nat.beq z.cells.size i.size && isAggV z == isAggD d) (.ok ⟨d, i.size, lits z.cells.toList, isAggD d, i.bytes⟩)

def tiL (P : Program) : List Field → R (List (Nat × Nat))
  | [] => .ok []
  | f :: l => (tiOf P f.type).bind fun i => (tiL P l).bind fun r => .ok ((f.offset, i.size) :: r)

def fillS (fs : List (Nat × Nat)) (cells : List CV) : List (Nat × CV) → R (List CV)
  | [] => .ok cells
  | x :: rest => (R.of "fill" fs[x.1]?).bind fun p =>
    R.if "fill: size" (Nat.beq (cellsOf x.2).length p.2 && Nat.ble (p.1 + p.2) cells.length) (fillS fs (over p.1 (cellsOf x.2) cells) rest)

def fillA (size : Nat) (cells : List CV) : List (Nat × CV) → R (List CV)
  | [] => .ok cells
  | x :: rest => R.if "fill: size" (Nat.beq (cellsOf x.2).length size && Nat.ble (x.1 * size + size) cells.length) (fillA size (over (x.1 * size) (cellsOf x.2) cells) rest)

def repL {α : Type} (x : List α) : Nat → List α
  | 0 => []
  | n + 1 => x ++ repL x n

def cellsAt (hp : Tr OB) (id : Nat) : R (List CV) :=
  match hp.get id with
  | some (.cells xs) => .ok xs
  | _ => .no "no cells there"

def mapAt (hp : Tr OB) (id : Nat) : R (List ME × Nat) :=
  match hp.get id with
  | some (.map es c) => .ok (es, c)
  | _ => .no "no map there"

/-- Some cells in a row. -/
def cut (xs : List CV) (off n : Nat) : R (List CV) := R.if "cut" (Nat.ble (off + n) xs.length) (.ok ((xs.drop off).take n))

def loadV (i : TI) (xs : List CV) (off : Nat) : R CV :=
  bif i.agg then (cut xs off i.size).bind fun cs => .ok (.agg cs)
  else R.of "load" xs[off]?

def bytesEq (a b : ByteArray) : Bool := a.data.toList == b.data.toList

/-- Two integers of one kind. -/
def intB (op : BinOp) (k : IntKind) (a b : Int) : R Value :=
  match op with
  | .add => .ok (.int k (k.wrap (a + b)))
  | .sub => .ok (.int k (k.wrap (a - b)))
  | .mul => .ok (.int k (k.wrap (a * b)))
  | .quo => R.if "division" (b != 0) (.ok (.int k (k.wrap (a.tdiv b))))
  | .rem => R.if "division" (b != 0) (.ok (.int k (a.tmod b)))
  | .eql => .ok (.bool (a == b))
  | .neq => .ok (.bool (a != b))
  | .lss => .ok (.bool (a < b))
  | .leq => .ok (.bool (a ≤ b))
  | .gtr => .ok (.bool (a > b))
  | .geq => .ok (.bool (a ≥ b))
  | .and | .or | .xor => R.of "bits" (match Op.intBits op k a b with | .pure v => some v | _ => none)
  | _ => .no "int op"

def shiftB (op : BinOp) (k : IntKind) (a b : Int) : R Value :=
  R.if "shift" (decide (0 ≤ b)) (match op with
    | .shl => .ok (.int k (k.wrap (a * 2 ^ min b.toNat k.bits)))
    | .shr => .ok (.int k (a.fdiv (2 ^ min b.toNat k.bits)))
    | _ => .no "shift")

def isShift : BinOp → Bool
  | .shl | .shr => true
  | _ => false

def eqB (op : BinOp) (r : Bool) : R Value :=
  match op with
  | .eql => .ok (.bool r)
  | .neq => .ok (.bool (!r))
  | _ => .no "op"

def litB (op : BinOp) : Value → Value → R Value
  | .int k a, y => match y with
    | .int k' b => bif isShift op then shiftB op k a b else R.if "kinds" (decide (k = k')) (intB op k a b)
    | _ => .no "int op"
  | .string a, y => match y with
    | .string b => eqB op (bytesEq a b)
    | _ => .no "string op"
  | .bool a, y => match y with
    | .bool b => eqB op (a == b)
    | _ => .no "bool op"
  | .pointer none, y => match y with
    | .pointer none => eqB op true
    | _ => .no "op"
  | .slice none _ _, y => match y with
    | .slice none _ _ => eqB op true
    | _ => .no "op"
  | .nilIface, y => .no "op"
  | _, _ => .no "op"

def isNilP : CV → Bool
  | .lit (.pointer none) => true
  | _ => false

def isNilS : CV → Bool
  | .lit (.slice none _ _) => true
  | _ => false

def isNilI : CV → Bool
  | .lit .nilIface => true
  | _ => false

/-- The oracle, but for what stands for conversions. -/
def orB (orb : BinOp → CV → CV → Option CV) (op : BinOp) (x y : CV) : Option CV :=
  match op with
  | .andNot => none
  | _ => orb op x y

/-- A symbol's kind: even ones are ints, odd ones uints. -/
def kd (n : Nat) : IntKind := bif Nat.beq (n % 2) 0 then .i64 else .u64

def binV (orb : BinOp → CV → CV → Option CV) (op : BinOp) (x y : CV) : R CV :=
  match x with
  | .lit a => match y with
    | .lit b => (litB op a b).bind fun v => .ok (.lit v)
    | .ptr _ _ => R.if "op" (isNilP x) ((eqB op false).bind fun v => .ok (.lit v))
    | .sym _ => R.of "oracle" (orB orb op x y)
    | _ => .no "op"
  | .sym _ => match y with
    | .lit _ | .sym _ => R.of "oracle" (orB orb op x y)
    | _ => .no "op"
  | .ptr i o => match y with
    | .lit _ => R.if "op" (isNilP y) ((eqB op false).bind fun v => .ok (.lit v))
    | .ptr j p => R.if "two pointers" (Nat.beq i j) ((eqB op (Nat.beq o p)).bind fun v => .ok (.lit v))
    | _ => .no "op"
  | .sl _ _ _ _ _ _ => R.if "op" (isNilS y) ((eqB op false).bind fun v => .ok (.lit v))
  | .ifc _ _ => R.if "op" (isNilI y) ((eqB op false).bind fun v => .ok (.lit v))
  | _ => .no "binop"

/-- One field. -/
def eqF (P : Program) (orb : BinOp → CV → CV → Option CV) (t : TypeId) (x y : CV) : R Bool :=
  (tiOf P t).bind fun i => match i.desc with
  | .int _ => (binV orb .eql x y).bind fun r => match x, y, r with
    | .lit (.int _ _), .lit (.int _ _), .lit (.bool r) => .ok r
    | .sym _, .lit (.int _ _), .lit (.bool r) => .ok r
    | .lit (.int _ _), .sym _, .lit (.bool r) => .ok r
    | .sym _, .sym _, .lit (.bool r) => .ok r
    | _, _, _ => .no "compare"
  | .string => match x, y with
    | .lit (.string a), .lit (.string b) => .ok (a == b)
    | _, _ => .no "compare"
  | .bool => match x, y with
    | .lit (.bool a), .lit (.bool b) => .ok (a == b)
    | _, _ => .no "compare"
  | _ => .no "compare: type"

/-- Structures, cell by cell. -/
def eqCells (P : Program) (orb : BinOp → CV → CV → Option CV) : List Field → List CV → List CV → R Bool
  | [], [], [] => .ok true
  | f :: fs, a :: l, b :: m => (eqF P orb f.type a b).bind fun r => bif r then eqCells P orb fs l m else .ok false
  | _, _, _ => .no "compare"

/-- Are a structure's fields one cell each, in a row? -/
def flatF (P : Program) : Nat → List Field → R Unit
  | _, [] => .ok ()
  | n, f :: l => (tiOf P f.type).bind fun i => R.if "compare: fields" (Nat.beq f.offset n && !i.agg && f.name != "_") (flatF P (n + 1) l)

/-- Does a value's kind fit the type at which it is compared? -/
def eqT (P : Program) (d : TypeDesc) : CV → R Unit
  | .ptr _ _ => match d with
    | .pointer e => (tiOf P e).bind fun i => R.if "compare: size" (!Nat.beq i.size 0) (.ok ())
    | _ => .no "compare: type"
  | .sl _ _ _ _ _ _ => match d with
    | .slice _ => .ok ()
    | _ => .no "compare: type"
  | .ifc _ _ => match d with
    | .interface _ => .ok ()
    | _ => .no "compare: type"
  | .lit v => match v with
    | .bool _ => match d with
      | .bool => .ok ()
      | _ => .no "compare: type"
    | .pointer none => match d with
      | .pointer _ => .ok ()
      | _ => .no "compare: type"
    | .slice none _ _ => match d with
      | .slice _ => .ok ()
      | _ => .no "compare: type"
    | _ => .no "compare: type"
  | _ => .no "compare: type"

def binA (P : Program) (orb : BinOp → CV → CV → Option CV) (op : BinOp) (t : TypeId) (x y : CV) : R CV :=
  match x with
  | .agg a => match y with
    | .agg b => (tiOf P t).bind fun i => match i.desc with
      | .struct fs => R.if "compare" (!P.eqGuardType P.depth t && !P.stoodInHeld t)
        ((flatF P 0 fs.toList).bind fun _ => (eqCells P orb fs.toList a b).bind fun r => (eqB op r).bind fun v => .ok (.lit v))
      | _ => .no "compare"
    | _ => .no "compare"
  | .lit (.int _ _) => binV orb op x y
  | .lit (.string _) => binV orb op x y
  | .sym _ => binV orb op x y
  | _ => (tiOf P t).bind fun i => (eqT P i.desc x).bind fun _ => binV orb op x y

def asNat : CV → R Nat
  | .lit (.int _ (.ofNat n)) => .ok n
  | _ => .no "index"

def elemD : TypeDesc → R TypeId
  | .slice e => .ok e
  | _ => .no "a slice's type"

def mapD : TypeDesc → R (TypeId × TypeId)
  | .map k e => .ok (k, e)
  | _ => .no "a map's type"

def bytesOf : List CV → R (List UInt8)
  | [] => .ok []
  | x :: l => match x with
    | .lit (.int .u8 (.ofNat n)) => (bytesOf l).bind fun r => .ok (UInt8.ofNat n :: r)
    | _ => .no "bytes"

/-- Are two keys one? -/
def keyEq (orb : BinOp → CV → CV → Option CV) (x y : CV) : R Bool :=
  match x with
  | .lit a => match y with
    | .lit b => match a with
      | .int k a => match b with
        | .int k' b => R.if "key" (decide (k = k')) (.ok (a == b))
        | _ => .no "key"
      | .string a => match b with
        | .string b => .ok (a == b)
        | _ => .no "key"
      | _ => .no "key"
    | .sym _ => match orb .eql x y with
      | some (.lit (.bool r)) => .ok r
      | _ => .no "key"
    | _ => .no "key"
  | .sym n => match y with
    | .sym m => bif Nat.beq n m then .ok true else match orb .eql x y with
      | some (.lit (.bool r)) => .ok r
      | _ => .no "key"
    | .lit _ => match orb .eql x y with
      | some (.lit (.bool r)) => .ok r
      | _ => .no "key"
    | _ => .no "key"
  | _ => .no "key"

def isKey (d : TypeDesc) : CV → Bool
  | .lit v => match d with
    | .int _ => match v with | .int _ _ => true | _ => false
    | .string => match v with | .string _ => true | _ => false
    | _ => false
  | .sym _ => match d with
    | .int _ => true
    | _ => false
  | _ => false

/-- Where a key stands. -/
def findM (orb : BinOp → CV → CV → Option CV) (k : CV) : List ME → R (Option (Nat × CV))
  | [] => .ok none
  | x :: l => (keyEq orb k x.k).bind fun r => bif r then .ok (some (0, x.v)) else (findM orb k l).bind fun o => .ok (o.map fun p => (p.1 + 1, p.2))

def leftM (seen : List Nat) (es : List ME) : List ME := es.filter fun x => !seen.contains x.b

/-- What an operation yields. -/
inductive Out where
  | val (v : CV) (hp : Tr OB) (nx : Nat)
  | enter (f : FuncId) (args : List CV)

def Out.pure (s : St) (v : CV) : R Out := .ok (.val v s.hp s.nx)

def none' : CV := .lit (.tuple #[])

def intV (n : Nat) : CV := .lit (.int .i64 (.ofNat n))

/-- Cells are written. -/
def wr (hp : Tr OB) (id off : Nat) (cs : List CV) : R (Tr OB) :=
  (cellsAt hp id).bind fun xs => R.if "write" (Nat.ble (off + cs.length) xs.length && cs.all one) (.ok (hp.set id (.cells (over off cs xs))))

def fieldOff (P : Program) (i : TI) (f : Nat) : R Nat :=
  match i.desc with
  | .struct fs => (R.of "field" fs[f]?).bind fun x => (tiOf P x.type).bind fun j => R.if "a field without cells" (!Nat.beq j.size 0) (.ok x.offset)
  | _ => .no "a struct's type"

/-- Bounds of a slice expression. -/
def boundO : Option CV → Nat → R Nat
  | none, d => .ok d
  | some v, _ => asNat v

def sliceV (size : Nat) (x : CV) (lo hi mx : Option CV) : R CV :=
  match x with
  | .lit v => R.if "slice" (isNilS (.lit v)) ((boundO lo 0).bind fun l => (boundO hi 0).bind fun h => (boundO mx 0).bind fun m =>
      R.if "slice" ((hi.isSome || mx.isNone) && Nat.beq l 0 && Nat.beq h 0 && Nat.beq m 0 && match v with | .slice _ l c => Nat.beq l 0 && Nat.beq c 0 | _ => false) (.ok x))
  | .sl id s off len cap ex =>
    R.if "slice: stride" (Nat.beq s size) ((boundO lo 0).bind fun l => (boundO hi len).bind fun h =>
    R.if "slice: order" (Nat.ble l h) (match mx with
    | none => R.if "slice: bound" (Nat.ble h cap) (.ok (.sl id s (off + l * s) (h - l) (cap - l) ex))
    | some mv => (asNat mv).bind fun m =>
      R.if "slice: bound" (hi.isSome && Nat.ble m cap && Nat.ble h m) (.ok (.sl id s (off + l * s) (h - l) (m - l) true))))
  | _ => .no "slice"

def nilLen : Value → R Nat
  | .slice none l c => R.if "nil slice" (Nat.beq l 0 && Nat.beq c 0) (.ok 0)
  | _ => .no "nil slice"

def fitsA (bytes n : Nat) : Bool := Nat.ble (n * bytes) (2 ^ 46) && Nat.ble n (2 ^ 46)

def appendV (size bytes : Nat) (hp : Tr OB) (nx : Nat) (n : Nat) (new : List CV) (x : CV) : R Out :=
  match x with
  | .lit v => (nilLen v).bind fun _ =>
    bif Nat.beq n 0 then .ok (.val x hp nx)
    else R.if "append: bytes" (fitsA bytes n) (.ok (.val (.sl nx size 0 n n false) (hp.set nx (.cells new)) (nx + 1)))
  | .sl id s off len cap ex =>
    R.if "append: stride" (Nat.beq s size) (
    bif Nat.beq n 0 then .ok (.val x hp nx) else
    bif Nat.ble (len + n) cap then (wr hp id (off + len * s) new).bind fun hp => .ok (.val (.sl id s off (len + n) cap ex) hp nx)
    else R.if "append: bytes" (fitsA bytes (len + n)) <| bif Nat.beq len 0 && ex then .ok (.val (.sl nx s 0 n n false) (hp.set nx (.cells new)) (nx + 1))
    else (cellsAt hp id).bind fun xs => (cut xs off (len * s)).bind fun old =>
      R.if "append: cells" (new.all one) (.ok (.val (.sl nx s 0 (len + n) (len + n) false) ((bif ex then hp else hp.del id).set nx (.cells (old ++ new))) (nx + 1))))
  | _ => .no "append"

/-- The cells of a slice. -/
def argsCells (size : Nat) (hp : Tr OB) (x : CV) : R (Nat × List CV) :=
  match x with
  | .lit v => (nilLen v).bind fun _ => .ok (0, [])
  | .sl id s off len _ _ => bif Nat.beq len 0 then .ok (0, []) else
    R.if "stride" (Nat.beq s size) ((cellsAt hp id).bind fun xs => (cut xs off (len * s)).bind fun cs => R.if "cells of an argument" (cs.all one) (.ok (len, cs)))
  | _ => .no "cells of an argument"

def lenV (hp : Tr OB) (d : TypeDesc) (x : CV) : R Nat :=
  match x with
  | .lit v => match v with
    | .slice _ l _ => match d with | .slice _ => .ok l | _ => .no "len"
    | .string s => match d with | .string => .ok s.data.size | _ => .no "len"
    | .map none => match d with | .map _ _ => .ok 0 | _ => .no "len"
    | _ => .no "len"
  | .sl _ _ _ len _ _ => match d with | .slice _ => .ok len | _ => .no "len"
  | .mp id => match d with | .map _ _ => (mapAt hp id).bind fun m => .ok m.1.length | _ => .no "len"
  | _ => .no "len"

def elemI (P : Program) (t : TypeId) : R TI := (tiOf P t).bind fun i => (elemD i.desc).bind fun e => tiOf P e

def keyI (P : Program) (t : TypeId) : R (TI × TypeId) := (tiOf P t).bind fun i => (mapD i.desc).bind fun ke => (tiOf P ke.1).bind fun ki => .ok (ki, ke.2)

def mm (mx : Bool) (x y : CV) : R CV :=
  match x, y with
  | .lit (.int k a), .lit (.int _ b) => .ok (.lit (.int k (bif mx then (bif decide (b > a) then b else a) else (bif decide (b < a) then b else a))))
  | _, _ => .no "max"

def builtinV (P : Program) (orb : BinOp → CV → CV → Option CV) (s : St) (b : Builtin) (ts : List TypeId) (args : List CV) : R Out :=
  match b with
  | .len => (R.of "len" args[0]?).bind fun x => (R.of "len" ts[0]?).bind fun t => (tiOf P t).bind fun i => (lenV s.hp i.desc x).bind fun n => Out.pure s (intV n)
  | .max => match args with
    | [x, y] => (mm true x y).bind fun v => Out.pure s v
    | _ => .no "max"
  | .min => match args with
    | [x, y] => (mm false x y).bind fun v => Out.pure s v
    | _ => .no "min"
  | .append => (R.of "append" args[0]?).bind fun x => (R.of "append" args[1]?).bind fun y => (R.of "append" ts[0]?).bind fun t => (R.of "append" ts[1]?).bind fun u =>
    (elemI P t).bind fun ei => (elemI P u).bind fun _ => (argsCells ei.size s.hp y).bind fun c => appendV ei.size ei.bytes s.hp s.nx c.1 c.2 x
  | .copy => (R.of "copy" args[0]?).bind fun x => (R.of "copy" args[1]?).bind fun y => (R.of "copy" ts[0]?).bind fun t => (elemI P t).bind fun ei =>
    (argsCells ei.size s.hp y).bind fun c => match x with
    | .sl id st off len _ _ => bif Nat.beq (min c.1 len) 0 then Out.pure s (intV 0) else
      R.if "stride" (Nat.beq st ei.size) ((wr s.hp id off (c.2.take (min c.1 len * st))).bind fun hp => .ok (.val (intV (min c.1 len)) hp s.nx))
    | .lit v => (nilLen v).bind fun _ => Out.pure s (intV 0)
    | _ => .no "copy"
  | .clear => (R.of "clear" args[0]?).bind fun x => (R.of "clear" ts[0]?).bind fun t => (elemI P t).bind fun ei => match x with
    | .sl id st off len _ _ => bif Nat.beq len 0 then Out.pure s none' else
      R.if "stride" (Nat.beq st ei.size) ((wr s.hp id off (repL ei.zero len)).bind fun hp => .ok (.val none' hp s.nx))
    | .lit v => (nilLen v).bind fun _ => Out.pure s none'
    | _ => .no "clear"
  | .delete => (R.of "delete" args[0]?).bind fun x => (R.of "delete" args[1]?).bind fun k => (R.of "delete" ts[0]?).bind fun t => (keyI P t).bind fun ki => match x with
    | .mp id => R.if "delete: key" (isKey ki.1.desc k) ((mapAt s.hp id).bind fun m => (findM orb k m.1).bind fun o => match o with
      | some p => .ok (.val none' (s.hp.set id (.map (m.1.eraseIdx p.1) m.2)) s.nx)
      | none => Out.pure s none')
    | _ => .no "delete"
  | _ => .no "builtin"

def isPtrD : TypeDesc → Bool
  | .pointer _ => true
  | _ => false

def findMe (name : String) (ptr : Bool) : List Method → R FuncId
  | [] => .no "method"
  | m :: l => bif m.name == name then
      R.if "method: path" m.path.isEmpty ((R.of "method" m.func).bind fun f => R.if "method: receiver" (f.2 == ptr) (.ok f.1))
    else findMe name ptr l

/-- A method of a type: a pointer's by a pointer, another one's by its value. -/
def methodP (P : Program) (t : TypeId) (name : String) : R FuncId :=
  (R.of "method" (P.info? t)).bind fun i => (R.of "method" (P.underlying t)).bind fun d => findMe name (isPtrD d) i.methods.toList

def zeroV (i : TI) : R CV := bif i.agg then .ok (.agg i.zero) else R.of "zero" i.zero[0]?

def nextV (s : St) (id : Nat) : R Out :=
  match s.hp.get id with
  | some (.iter m since seen last) => (mapAt s.hp m).bind fun mc =>
    R.if "next: gone" (seen.isEmpty || mc.1.isEmpty || mc.1.any fun x => Nat.blt x.b last) (
    match leftM seen mc.1 with
    | [] => Out.pure s (.tup [.lit (.bool false)])
    | [x] => R.if "next: new" (Nat.blt x.b since) (.ok (.val (.tup [.lit (.bool true), x.k, x.v]) (s.hp.set id (.iter m since (seen ++ [x.b]) mc.2)) s.nx))
    | _ => .no "next: several")
  | _ => .no "next"

def entryV (s : St) (id : Nat) : R Out :=
  match s.hp.get id with
  | some (.iter m _ seen last) => (mapAt s.hp m).bind fun mc => (R.of "entry" seen.getLast?).bind fun b =>
    R.if "entry" (Nat.beq mc.2 last) ((R.of "entry" (mc.1.find? fun x => Nat.beq x.b b)).bind fun x => Out.pure s (.tup [x.k, x.v]))
  | _ => .no "entry"

/-- Passes a nil check. -/
def nilOk (P : Program) : CV → R Unit
  | .ptr _ _ => .ok ()
  | .ifc _ _ => .ok ()
  | .fn f fi _ => match f with
    | .func _ => .ok ()
    | .method name => match fi with
      | [.ifc t _] => (methodP P t name).bind fun _ => (R.of "nilCheck" (P.underlying t)).bind fun _ => .ok ()
      | _ => .no "nilCheck"
    | _ => .no "nilCheck"
  | _ => .no "nilCheck"

/-- Has it a body? -/
def okF (P : Program) (g : FuncId) : Bool :=
  match P.funcs[g]? with
  | some fn => fn.body.isSome && !(fn.name == "runtime.NumGoroutine")
  | none => false

def callV (P : Program) (orb : BinOp → CV → CV → Option CV) (s : St) (c : Call) : R Out :=
  (evL s.tm c.args.toList).bind fun args => match c.callee with
    | .builtin b => builtinV P orb s b c.argTypes.toList args
    | .value f => (evO s.tm f).bind fun v => match v with
      | .fn (.func g) fi ca => R.if "call: body" (okF P g) (.ok (.enter g (fi ++ args ++ ca)))
      | _ => .no "call"
    | .invoke r name => (evO s.tm r).bind fun v => match v with
      | .ifc t x => (methodP P t name).bind fun f => R.if "call: body" (okF P f) (.ok (.enter f (x :: args)))
      | _ => .no "invoke"

def opMove (P : Program) (orb : BinOp → CV → CV → Option CV) (s : St) (x : Operand) : R Out :=
  (evO s.tm x).bind fun v => Out.pure s v

def opAssign (P : Program) (orb : BinOp → CV → CV → Option CV) (s : St) (x : Operand) : R Out :=
  (evO s.tm x).bind fun v => Out.pure s v

def opPick (P : Program) (orb : BinOp → CV → CV → Option CV) (s : St) (c : Operand) (a : Operand) (b : Operand) : R Out :=
  (evO s.tm c).bind fun v => match v with
    | .lit (.bool r) => (evO s.tm (bif r then a else b)).bind fun v => Out.pure s v
    | _ => .no "pick"

def opAlloc (P : Program) (orb : BinOp → CV → CV → Option CV) (s : St) (e : TypeId) : R Out :=
  (tiOf P e).bind fun i => .ok (.val (.ptr s.nx 0) (s.hp.set s.nx (.cells i.zero)) (s.nx + 1))

def opBox (P : Program) (orb : BinOp → CV → CV → Option CV) (s : St) (x : Operand) : R Out :=
  (evO s.tm x).bind fun v => .ok (.val (.ptr s.nx 0) (s.hp.set s.nx (.cells (cellsOf v))) (s.nx + 1))

def opBuild (P : Program) (orb : BinOp → CV → CV → Option CV) (s : St) (t : TypeId) (ps : Array (Nat × Operand)) : R Out :=
  (tiOf P t).bind fun i => (evP s.tm ps.toList).bind fun vs =>
    match i.desc with
    | .struct fs => (tiL P fs.toList).bind fun pl => (fillS pl i.zero vs).bind fun cs => Out.pure s (.agg cs)
    | _ => .no "build"

def opBuildSlice (P : Program) (orb : BinOp → CV → CV → Option CV) (s : St) (t : TypeId) (n : Nat) (ps : Array (Nat × Operand)) : R Out :=
  (elemI P t).bind fun j => (evP s.tm ps.toList).bind fun vs => R.if "buildSlice" (Nat.ble (n * j.size) (2 ^ 24)) (
    (fillA j.size (repL j.zero n) vs).bind fun cs => .ok (.val (.sl s.nx j.size 0 n n true) (s.hp.set s.nx (.cells cs)) (s.nx + 1)))

def opLoad (P : Program) (orb : BinOp → CV → CV → Option CV) (s : St) (t : TypeId) (a : Operand) : R Out :=
  (tiOf P t).bind fun i => (evO s.tm a).bind fun v => match v with
    | .ptr id off => (cellsAt s.hp id).bind fun xs => (loadV i xs off).bind fun v => Out.pure s v
    | _ => .no "load"

def opStore (P : Program) (orb : BinOp → CV → CV → Option CV) (s : St) (t : TypeId) (a : Operand) (x : Operand) : R Out :=
  (tiOf P t).bind fun i => (evO s.tm a).bind fun v => (evO s.tm x).bind fun y => match v with
    | .ptr id off => R.if "store: size" (Nat.beq (cellsOf y).length i.size) ((wr s.hp id off (cellsOf y)).bind fun hp => .ok (.val none' hp s.nx))
    | _ => .no "store"

def opNilCheck (P : Program) (orb : BinOp → CV → CV → Option CV) (s : St) (x : Operand) : R Out :=
  (evO s.tm x).bind fun v => (nilOk P v).bind fun _ => Out.pure s v

def opBinOp (P : Program) (orb : BinOp → CV → CV → Option CV) (s : St) (op : BinOp) (t : TypeId) (x : Operand) (y : Operand) : R Out :=
  (evO s.tm x).bind fun a => (evO s.tm y).bind fun b => (binA P orb op t a b).bind fun v => Out.pure s v

def opUnOp (P : Program) (orb : BinOp → CV → CV → Option CV) (s : St) (op : UnOp) (x : Operand) : R Out :=
  (evO s.tm x).bind fun a => match op with
    | .not => match a with
      | .lit (.bool b) => Out.pure s (.lit (.bool (!b)))
      | _ => .no "unop"
    | _ => .no "unop"

def opConvert (P : Program) (orb : BinOp → CV → CV → Option CV) (s : St) (t : TypeId) (d : TypeId) (x : Operand) : R Out :=
  (tiOf P t).bind fun j => (tiOf P d).bind fun i => (evO s.tm x).bind fun v => match v with
    | .lit (.int _ n) => match i.desc with
      | .int k => Out.pure s (.lit (.int k (k.wrap n)))
      | _ => .no "convert"
    | .sym n => match i.desc with
      | .int k => (R.of "convert" (orb .andNot (.sym n) (.lit (.int k 0)))).bind fun v => Out.pure s v
      | _ => .no "convert"
    | .sl id st off len _ _ => match i.desc with
      | .string => (elemD j.desc).bind fun e => (tiOf P e).bind fun k => match k.desc with
        | .int .u8 => R.if "convert" (Nat.beq st 1) ((cellsAt s.hp id).bind fun xs => (cut xs off len).bind fun cs => (bytesOf cs).bind fun l => Out.pure s (.lit (.string ⟨l.toArray⟩)))
        | _ => .no "convert"
      | _ => .no "convert"
    | _ => .no "convert"

def opMakeInterface (P : Program) (orb : BinOp → CV → CV → Option CV) (s : St) (t : TypeId) (x : Operand) : R Out :=
  (tiOf P t).bind fun i => (evO s.tm x).bind fun v => match i.desc with
    | .interface _ => .no "makeInterface"
    | _ => Out.pure s (.ifc t v)

def opMakeFunc (P : Program) (orb : BinOp → CV → CV → Option CV) (s : St) (f : Fn) (fi : Array Operand) (ca : Array Operand) : R Out :=
  (evL s.tm fi.toList).bind fun a => (evL s.tm ca.toList).bind fun b => Out.pure s (.fn f a b)

def opMakeMap (P : Program) (orb : BinOp → CV → CV → Option CV) (s : St) (r : Option Operand) : R Out :=
  match r with
    | none => .ok (.val (.mp s.nx) (s.hp.set s.nx (.map [] 0)) (s.nx + 1))
    | _ => .no "makeMap"

def opSlice (P : Program) (orb : BinOp → CV → CV → Option CV) (s : St) (t : TypeId) (x : Operand) (lo : Option Operand) (hi : Option Operand) (mx : Option Operand) : R Out :=
  (elemI P t).bind fun j => (evO s.tm x).bind fun v =>
    (opt s.tm lo).bind fun l => (opt s.tm hi).bind fun h => (opt s.tm mx).bind fun m => (sliceV j.size v l h m).bind fun v => Out.pure s v

def opFieldAddr (P : Program) (orb : BinOp → CV → CV → Option CV) (s : St) (t : TypeId) (x : Operand) (f : Nat) : R Out :=
  (tiOf P t).bind fun i => (evO s.tm x).bind fun v => match v with
    | .ptr id off => (fieldOff P i f).bind fun k => Out.pure s (.ptr id (off + k))
    | _ => .no "fieldAddr"

def opIndexAddr (P : Program) (orb : BinOp → CV → CV → Option CV) (s : St) (t : TypeId) (x : Operand) (ix : Operand) : R Out :=
  (elemI P t).bind fun j => (evO s.tm x).bind fun v => (evO s.tm ix).bind fun w => (asNat w).bind fun n =>
    match v with
    | .sl id st off len _ _ => R.if "indexAddr: range" (Nat.blt n len && Nat.beq st j.size) (Out.pure s (.ptr id (off + n * st)))
    | _ => .no "indexAddr"

def opIndex (P : Program) (orb : BinOp → CV → CV → Option CV) (s : St) (t : TypeId) (x : Operand) (ix : Operand) : R Out :=
  (tiOf P t).bind fun i => (evO s.tm x).bind fun v => (evO s.tm ix).bind fun w => (asNat w).bind fun n => match v with
    | .lit (.string b) => match i.desc with
      | .string => (R.of "index: range" b.data[n]?).bind fun c => Out.pure s (.lit (.int .u8 (.ofNat c.toNat)))
      | _ => .no "index"
    | _ => .no "index"

def opLookup (P : Program) (orb : BinOp → CV → CV → Option CV) (s : St) (t : TypeId) (m : Operand) (k : Operand) (ok : Bool) : R Out :=
  (keyI P t).bind fun ki => (tiOf P ki.2).bind fun ei => (evO s.tm m).bind fun v => (evO s.tm k).bind fun kv => match v with
    | .mp id => R.if "lookup: key" (isKey ki.1.desc kv) ((mapAt s.hp id).bind fun mc => (findM orb kv mc.1).bind fun o => match o with
      | some p => Out.pure s (bif ok then .tup [p.2, .lit (.bool true)] else p.2)
      | none => (zeroV ei).bind fun z => Out.pure s (bif ok then .tup [z, .lit (.bool false)] else z))
    | _ => .no "lookup"

def opMapUpdate (P : Program) (orb : BinOp → CV → CV → Option CV) (s : St) (t : TypeId) (m : Operand) (k : Operand) (x : Operand) : R Out :=
  (keyI P t).bind fun ki => (evO s.tm m).bind fun v => (evO s.tm k).bind fun kv => (evO s.tm x).bind fun xv => match v with
    | .mp id => R.if "mapUpdate: key" (isKey ki.1.desc kv) ((mapAt s.hp id).bind fun mc => (findM orb kv mc.1).bind fun o => match o with
      | some p => .ok (.val none' (s.hp.set id (.map (mc.1.modify p.1 fun e => ⟨e.k, xv, e.b⟩) mc.2)) s.nx)
      | none => .ok (.val none' (s.hp.set id (.map (mc.1 ++ [⟨kv, xv, mc.2⟩]) (mc.2 + 1))) s.nx))
    | _ => .no "mapUpdate"

def opRange (P : Program) (orb : BinOp → CV → CV → Option CV) (s : St) (t : TypeId) (x : Operand) : R Out :=
  (tiOf P t).bind fun i => (mapD i.desc).bind fun _ => (evO s.tm x).bind fun v => match v with
    | .mp id => (mapAt s.hp id).bind fun mc => .ok (.val (.it s.nx) (s.hp.set s.nx (.iter id mc.2 [] mc.2)) (s.nx + 1))
    | _ => .no "range"

def opNext (P : Program) (orb : BinOp → CV → CV → Option CV) (s : St) (x : Operand) (str : Bool) : R Out :=
  R.if "next" (!str) ((evO s.tm x).bind fun v => match v with
    | .it id => nextV s id
    | _ => .no "next")

def opEntry (P : Program) (orb : BinOp → CV → CV → Option CV) (s : St) (x : Operand) : R Out :=
  (evO s.tm x).bind fun v => match v with
    | .it id => entryV s id
    | _ => .no "entry"

def opExtract (P : Program) (orb : BinOp → CV → CV → Option CV) (s : St) (x : Operand) (i : Nat) : R Out :=
  (evO s.tm x).bind fun v => match v with
    | .tup cs => (R.of "extract" cs[i]?).bind fun v => Out.pure s v
    | _ => .no "extract"

def execO (P : Program) (orb : BinOp → CV → CV → Option CV) (s : St) (o : Op) : R Out :=
  match o with
  | .move x => opMove P orb s x
  | .assign x => opAssign P orb s x
  | .pick c a b => opPick P orb s c a b
  | .alloc e => opAlloc P orb s e
  | .box _ x => opBox P orb s x
  | .build t ps => opBuild P orb s t ps
  | .buildSlice t n ps => opBuildSlice P orb s t n ps
  | .load t a => opLoad P orb s t a
  | .store t a x => opStore P orb s t a x
  | .nilCheck x => opNilCheck P orb s x
  | .binOp op t x y _ => opBinOp P orb s op t x y
  | .unOp op _ x => opUnOp P orb s op x
  | .convert t d x => opConvert P orb s t d x
  | .makeInterface t x => opMakeInterface P orb s t x
  | .makeFunc f fi ca => opMakeFunc P orb s f fi ca
  | .makeMap _ r => opMakeMap P orb s r
  | .slice t x lo hi mx => opSlice P orb s t x lo hi mx
  | .fieldAddr t x f => opFieldAddr P orb s t x f
  | .indexAddr t x ix => opIndexAddr P orb s t x ix
  | .index t x ix => opIndex P orb s t x ix
  | .lookup t m k ok => opLookup P orb s t m k ok
  | .mapUpdate t m k x => opMapUpdate P orb s t m k x
  | .range t x => opRange P orb s t x
  | .next x str => opNext P orb s x str
  | .entry x => opEntry P orb s x
  | .extract x i => opExtract P orb s x i
  | .call c => callV P orb s c
  | _ => .no "operation"

/-- A call: arguments, memory, the next number; answer, memory, the next number. -/
abbrev Callee := FuncId → List CV → Tr OB → Nat → R (CV × Tr OB × Nat)

def wantedV (tm : Tr CV) (ops : List Oper) (o : Oper) : R Bool :=
  match o.guard with
  | none => .ok true
  | some g => (R.of "guard" ops[g.1]?).bind fun oj => (R.of "guard" oj.dst).bind fun d => (R.of "guard" (tm.get d)).bind fun v => match v with
    | .lit (.bool b) => .ok (b == g.2)
    | .lit (.tuple _) => .ok false
    | _ => .no "guard"

/-- One operation: what it yields, memory, the next number. -/
def execOne (P : Program) (orb : BinOp → CV → CV → Option CV) (call : Callee) (all : List Oper) (o : Oper) (s : St) : R (CV × Tr OB × Nat) :=
  (wantedV s.tm all o).bind fun w => bif w then
    (execO P orb s o.op).bind fun r => match r with
    | .val v hp nx => .ok (v, hp, nx)
    | .enter f args => call f args s.hp s.nx
  else .ok (none', s.hp, s.nx)

def putD (tm : Tr CV) (d : Option Tmp) (v : CV) : Tr CV :=
  match d with
  | some t => tm.set t v
  | none => tm

def execOps (P : Program) (orb : BinOp → CV → CV → Option CV) (call : Callee) (all : List Oper) : List Oper → St → R St
  | [], s => .ok s
  | o :: l, s => (execOne P orb call all o s).bind fun r => execOps P orb call all l ⟨putD s.tm o.dst r.1, r.2.1, r.2.2⟩

def loopN (body : St → R (Exit × St)) : Nat → St → R (Exit × St)
  | 0, _ => .no "fuel"
  | n + 1, s => (body s).bind fun r => match r.1 with
    | .normal => loopN body n r.2
    | _ => .ok r

def inB (id : Nat) : Exit → Exit
  | .exit id' => bif Nat.beq id' id then .normal else .exit id'
  | e => e

/-- A rule for loops: answers some of them. -/
abbrev Loops := Code → St → Option (R (Exit × St))

def execC (P : Program) (orb : BinOp → CV → CV → Option CV) (call : Callee) (draw : List Oper → St → R St) (lp : Loops) (fuel : Nat) : Code → St → R (Exit × St)
  | .skip, s => .ok (.normal, s)
  | .region id ops d, s => ((bif d then draw ops.toList s else execOps P orb call ops.toList ops.toList s).mark id).bind fun s => .ok (.normal, s)
  | .seq a b, s => (execC P orb call draw lp fuel a s).bind fun r => match r.1 with
    | .normal => execC P orb call draw lp fuel b r.2
    | _ => .ok r
  | .cond c x y, s => (evO s.tm c).bind fun v => match v with
    | .lit (.bool true) => execC P orb call draw lp fuel x s
    | .lit (.bool false) => execC P orb call draw lp fuel y s
    | _ => .no "cond"
  | .block id b, s => (execC P orb call draw lp fuel b s).bind fun r => .ok (inB id r.1, r.2)
  | .loop b, s => match lp b s with
    | some r => r
    | none => loopN (execC P orb call draw lp fuel b) fuel s
  | .exit id, s => .ok (.exit id, s)
  | .ret, s => .ok (.ret, s)
  | _, _ => .no "code"

end Go.Cx
