/- Regions whose order is drawn: one pass in the order of the text, and what must be checked for every other order. Calls. No program is named here. -/
import Derived.Test.YtlffgjppnbhahaaGreatX1
set_option linter.unusedSimpArgs false
set_option linter.unusedVariables false
set_option maxHeartbeats 1000000
namespace Go.Cx

def maskOf (acc : List Nat) (es : List Edge) : Nat :=
  es.foldr (fun e m => bif Region.binds .any e then (m ||| 2 ^ e.on) ||| acc.getD e.on 0 else m) 0

def masks (acc : List Nat) : List Oper → List Nat
  | [] => acc
  | o :: l => masks (acc ++ [maskOf acc o.after.toList]) l

/-- Who writes a temporary, if one does. -/
def writer (t : Tmp) : List Oper → Nat → Option Nat
  | [], _ => none
  | o :: l, i => match o.dst with
    | some d => bif Nat.beq d t then some i else writer t l (i + 1)
    | none => writer t l (i + 1)

/-- Each temporary is written once at most. -/
def onceW : List Oper → Bool
  | [] => true
  | o :: l => match o.dst with
    | some d => (writer d l 0).isNone && onceW l
    | none => onceW l

def tmpsOf (l : List Operand) : List Tmp := l.filterMap fun | .tmp t => some t | _ => none

def guardT (all : List Oper) (o : Oper) : List Tmp :=
  match o.guard with
  | none => []
  | some g => match all[g.1]? with
    | some oj => oj.dst.toList
    | none => []

/-- The temporaries that an operation names, if whoever writes them stands before it, or behind it. -/
def restr (all : List Oper) (ms : List Nat) (i m : Nat) (tm : Tr CV) : List Tmp → R (Tr CV)
  | [] => .ok .e
  | t :: l => (restr all ms i m tm l).bind fun r =>
    R.if "draw: order of a temporary" (match writer t all 0 with
      | none => true
      | some w => bif Nat.blt w i then m.testBit w else Nat.beq w i || (ms.getD w 0).testBit i)
    (.ok (match tm.get t with | some v => r.set t v | none => r))

inductive Cl where
  | pure | alloc | read | eff

def clOf : Op → Cl
  | .move _ | .assign _ | .pick _ _ _ | .build _ _ | .nilCheck _ | .binOp _ _ _ _ _ | .unOp _ _ _ | .makeInterface _ _ | .makeFunc _ _ _ | .slice _ _ _ _ _
  | .fieldAddr _ _ _ | .indexAddr _ _ _ | .index _ _ _ | .extract _ _ => .pure
  | .alloc _ | .box _ _ | .buildSlice _ _ _ | .makeMap _ _ => .alloc
  | .load _ _ | .lookup _ _ _ _ | .entry _ | .convert _ _ _ => .read
  | .call c => match c.callee with
    | .builtin b => match b with
      | .len | .max | .min => .read
      | _ => .eff
    | _ => .eff
  | _ => .eff

def eqVal : Value → Value → Bool
  | .bool a, y => match y with | .bool b => a == b | _ => false
  | .int k a, y => match y with | .int k' b => decide (k = k') && a == b | _ => false
  | .string a, y => match y with | .string b => bytesEq a b | _ => false
  | .pointer none, y => match y with | .pointer none => true | _ => false
  | .slice none l c, y => match y with | .slice none l' c' => Nat.beq l l' && Nat.beq c c' | _ => false
  | .map none, y => match y with | .map none => true | _ => false
  | .nilIface, y => match y with | .nilIface => true | _ => false
  | .nilFunc, y => match y with | .nilFunc => true | _ => false
  | _, _ => false

mutual
def eqCV : CV → CV → Bool
  | .lit a, y => match y with | .lit b => eqVal a b | _ => false
  | .sym a, y => match y with | .sym b => Nat.beq a b | _ => false
  | .ptr a b, y => match y with | .ptr c d => Nat.beq a c && Nat.beq b d | _ => false
  | .sl a b c d e f, y => match y with | .sl a' b' c' d' e' f' => Nat.beq a a' && Nat.beq b b' && Nat.beq c c' && Nat.beq d d' && Nat.beq e e' && f == f' | _ => false
  | .mp a, y => match y with | .mp b => Nat.beq a b | _ => false
  | .it a, y => match y with | .it b => Nat.beq a b | _ => false
  | .ifc t v, y => match y with | .ifc t' v' => Nat.beq t t' && eqCV v v' | _ => false
  | .agg cs, y => match y with | .agg cs' => eqCVs cs cs' | _ => false
  | .tup cs, y => match y with | .tup cs' => eqCVs cs cs' | _ => false
  | .fn _ _ _, _ => false
def eqCVs : List CV → List CV → Bool
  | [], y => match y with | [] => true | _ => false
  | a :: l, y => match y with | b :: m => eqCV a b && eqCVs l m | _ => false
end

/-- An epoch that is over: the operation that ended it, memory, the new objects that nobody used yet. -/
structure Ep where
  i : Nat
  hp : Tr OB
  pend : List (Nat × OB)

/-- Something was read: by whom, with what temporaries, what it must stand behind, what came. -/
structure Rd where
  i : Nat
  o : Op
  tm : Tr CV
  m : Nat
  v : CV

structure DS where
  tm : Tr CV
  hp : Tr OB
  nx : Nat
  pend : List (Nat × OB)
  hist : List Ep
  reads : List Rd

def slotHp (nx0 m : Nat) (pend : List (Nat × OB)) (hp : Tr OB) : Tr OB :=
  pend.foldr (fun p h => bif m.testBit p.1 then h.set (nx0 + p.1) p.2 else h) hp

def slotAll (nx0 : Nat) (pend : List (Nat × OB)) (hp : Tr OB) : Tr OB := pend.foldr (fun p h => h.set (nx0 + p.1) p.2) hp

/-- Does it read the same there? -/
def reads? (P : Program) (orb : BinOp → CV → CV → Option CV) (o : Op) (tm : Tr CV) (hp : Tr OB) (v : CV) : R Unit :=
  (execO P orb ⟨tm, hp, 0⟩ o).bind fun r => match r with
    | .val v' _ _ => R.if "draw: it reads another thing" (eqCV v' v) (.ok ())
    | _ => .no "draw: a call"

def readsBack (P : Program) (orb : BinOp → CV → CV → Option CV) (nx0 m : Nat) (o : Op) (tm : Tr CV) (v : CV) : List Ep → R Unit
  | [] => .ok ()
  | e :: l => bif m.testBit e.i then .ok () else (reads? P orb o tm (slotHp nx0 m e.pend e.hp) v).bind fun _ => readsBack P orb nx0 m o tm v l

def readsOn (P : Program) (orb : BinOp → CV → CV → Option CV) (nx0 m : Nat) (pend : List (Nat × OB)) (hp : Tr OB) : List Rd → R Unit
  | [] => .ok ()
  | r :: l => (bif m.testBit r.i then R.ok () else reads? P orb r.o r.tm (slotHp nx0 r.m pend hp) r.v).bind fun _ => readsOn P orb nx0 m pend hp l

/-- What is left of the new objects. -/
def left? (m : Nat) (pend : List (Nat × OB)) : List (Nat × OB) := pend.filter fun (p : Nat × OB) => !m.testBit p.1

/-- Nothing lies at the other numbers. -/
def noSlot (nx0 m : Nat) (hp : Tr OB) : Nat → Bool
  | 0 => true
  | n + 1 => (m.testBit n || (hp.get (nx0 + n)).isNone) && noSlot nx0 m hp n

/-- Do all edges lead back? -/
def backE : Nat → List Oper → Bool
  | _, [] => true
  | i, o :: l => (o.after.toList.all fun e => !Region.binds .any e || Nat.blt e.on i) && backE (i + 1) l

def stepD (P : Program) (orb : BinOp → CV → CV → Option CV) (call : Callee) (nx0 : Nat) (all : List Oper) (ms : List Nat) (i : Nat) (o : Oper) (d : DS) : R DS :=
  (restr all ms i (ms.getD i 0) d.tm (tmpsOf o.op.operands.toList ++ guardT all o)).bind fun tm =>
  (wantedV tm all o).bind fun w => bif !w then .ok { d with tm := putD d.tm o.dst none' } else
  match clOf o.op with
  | .pure => (execO P orb ⟨tm, .e, 0⟩ o.op).bind fun r => match r with
    | .val v _ _ => .ok { d with tm := putD d.tm o.dst v }
    | _ => .no "draw: a call"
  | .alloc => (execO P orb ⟨tm, .e, nx0 + i⟩ o.op).bind fun r => match r with
    | .val v hp nx => R.if "draw: new" (Nat.beq nx (nx0 + i + 1)) <| (R.of "draw: new" (hp.get (nx0 + i))).bind fun ob => .ok { d with tm := putD d.tm o.dst v, pend := (i, ob) :: d.pend }
    | _ => .no "draw: a call"
  | .read => (execO P orb ⟨tm, slotHp nx0 (ms.getD i 0) d.pend d.hp, 0⟩ o.op).bind fun r => match r with
    | .val v _ _ => (readsBack P orb nx0 (ms.getD i 0) o.op tm v d.hist).bind fun _ =>
      .ok { d with tm := putD d.tm o.dst v, reads := ⟨i, o.op, tm, ms.getD i 0, v⟩ :: d.reads }
    | _ => .no "draw: a call"
  | .eff => R.if "draw: two effects" (match d.hist with | [] => true | e :: _ => (ms.getD i 0).testBit e.i) (
    (execO P orb ⟨tm, slotHp nx0 (ms.getD i 0) d.pend d.hp, d.nx⟩ o.op).bind fun r =>
    (match r with
    | .val v hp nx => R.ok (v, hp, nx)
    | .enter f args => call f args (slotHp nx0 (ms.getD i 0) d.pend d.hp) d.nx).bind fun r =>
    (readsOn P orb nx0 (ms.getD i 0) (left? (ms.getD i 0) d.pend) r.2.1 d.reads).bind fun _ =>
    R.if "draw: a number" (noSlot nx0 (ms.getD i 0) r.2.1 all.length) (
    .ok ⟨putD d.tm o.dst r.1, r.2.1, r.2.2, left? (ms.getD i 0) d.pend, ⟨i, d.hp, d.pend⟩ :: d.hist, d.reads⟩))

def passD (P : Program) (orb : BinOp → CV → CV → Option CV) (call : Callee) (nx0 : Nat) (all : List Oper) (ms : List Nat) : Nat → List Oper → DS → R DS
  | _, [], d => .ok d
  | i, o :: l, d => ((stepD P orb call nx0 all ms i o d).mark i).bind fun d => passD P orb call nx0 all ms (i + 1) l d

def sel? (l : List Oper) : Bool := l.all fun o => match o.op with | .select _ _ => false | _ => true

/-- A region whose order is drawn. -/
def execD (P : Program) (orb : BinOp → CV → CV → Option CV) (call : Callee) (ops : List Oper) (s : St) : R St :=
  R.if "draw: a temporary is written twice" (onceW ops && backE 0 ops && sel? ops) (
  (passD P orb call s.nx ops (masks [] ops) 0 ops ⟨s.tm, s.hp, s.nx + ops.length, [], [], []⟩).bind fun d =>
  .ok ⟨d.tm, slotAll s.nx d.pend d.hp, d.nx⟩)

def startTm : List CV → Nat → Tr CV → Tr CV
  | [], _, t => t
  | v :: l, i, t => startTm l (i + 1) (t.set i v)

def resOne (P : Program) (s : St) : ResultVar → R CV
  | .tmp t => R.of "result" (s.tm.get t)
  | .cell a t => (tiOf P t).bind fun i => (R.of "result" (s.tm.get a)).bind fun v => match v with
    | .ptr id off => (cellsAt s.hp id).bind fun xs => loadV i xs off
    | _ => .no "result"

def resL (P : Program) (s : St) : List ResultVar → R (List CV)
  | [] => .ok []
  | r :: l => (resOne P s r).bind fun v => (resL P s l).bind fun vs => .ok (v :: vs)

def tup1 : List CV → CV
  | [v] => v
  | vs => .tup vs

/-- A summary: answers some calls. -/
abbrev Sum := FuncId → List CV → Tr OB → Nat → Option (R (CV × Tr OB × Nat))

def callF (P : Program) (orb : BinOp → CV → CV → Option CV) (sm : Sum) (lp : Nat → Loops) (fuel : Nat) : Nat → Callee
  | 0 => fun _ _ _ _ => .no "depth"
  | n + 1 => fun f args hp nx => match sm f args hp nx with
    | some r => r
    | none =>
    (R.of "no such function" P.funcs[f]?).bind fun fn => (R.of "no body" fn.body).bind fun c =>
      R.if "arguments" (Nat.ble args.length fn.ntmps) (
      ((execC P orb (callF P orb sm lp fuel n) (execD P orb (callF P orb sm lp fuel n)) (lp n) fuel c ⟨startTm args 0 .e, hp, nx⟩).mark f).bind fun r =>
        match r.1 with
        | .normal | .ret => (resL P r.2 fn.results.toList).bind fun vs => .ok (tup1 vs, r.2.hp, r.2.nx)
        | _ => .no "exit")

end Go.Cx
