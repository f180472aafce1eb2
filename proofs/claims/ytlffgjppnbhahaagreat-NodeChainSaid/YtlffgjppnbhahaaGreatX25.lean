/- Loops over a map that has several entries, in any order: a rule for loops that collect keys. No program is named here. -/
import Derived.Test.YtlffgjppnbhahaaGreatX24
import Derived.Maps.RangeRun
set_option linter.unusedSimpArgs false
set_option linter.unusedVariables false
set_option maxHeartbeats 1000000
namespace Go.Cx

mutual
def noSym : CV → Bool
  | .sym _ => false
  | .ifc _ v => noSym v
  | .fn _ a b => noSyms a && noSyms b
  | .agg cs => noSyms cs
  | .tup cs => noSyms cs
  | .lit _ => true
  | .ptr _ _ => true
  | .sl _ _ _ _ _ _ => true
  | .mp _ => true
  | .it _ => true
def noSyms : List CV → Bool
  | [] => true
  | c :: cs => noSym c && noSyms cs
end

section
variable {ρ ρ' ρ'' : Nat → Int} {loc loc' : Lc}

mutual
theorem V.any (h : LLe loc loc') : ∀ (c : CV) (v : Value), noSym c = true → V ρ loc c v → V ρ' loc' c v
  | .lit a, v, _, hv => by simpa [V] using hv
  | .sym n, v, hn, _ => by simp [noSym] at hn
  | .ptr id off, v, _, hv => by
    simp only [V] at hv ⊢
    obtain ⟨p, h1, h2⟩ := hv
    exact ⟨p, h _ _ h1, h2⟩
  | .sl id s off len cap ex, v, _, hv => by
    simp only [V] at hv ⊢
    obtain ⟨p, a, c, h1, h2⟩ := hv
    exact ⟨p, a, c, h _ _ h1, h2⟩
  | .mp id, v, _, hv => by
    simp only [V] at hv ⊢
    obtain ⟨p, h1, h2⟩ := hv
    exact ⟨p, h _ _ h1, h2⟩
  | .it id, v, _, hv => by
    simp only [V] at hv ⊢
    obtain ⟨p, h1, h2⟩ := hv
    exact ⟨p, h _ _ h1, h2⟩
  | .ifc t x, v, hn, hv => by
    simp only [V] at hv ⊢
    simp only [noSym] at hn
    obtain ⟨y, h1, h2⟩ := hv
    exact ⟨y, h1, V.any h x y hn h2⟩
  | .fn f a b, v, hn, hv => by
    simp only [V] at hv ⊢
    simp only [noSym, Bool.and_eq_true] at hn
    obtain ⟨x, y, h1, h2, h3⟩ := hv
    exact ⟨x, y, h1, VL.any h a _ hn.1 h2, VL.any h b _ hn.2 h3⟩
  | .agg cs, v, hn, hv => by
    simp only [V] at hv ⊢
    simp only [noSym] at hn
    obtain ⟨x, h1, h2⟩ := hv
    exact ⟨x, h1, VL.any h cs _ hn h2⟩
  | .tup cs, v, hn, hv => by
    simp only [V] at hv ⊢
    simp only [noSym] at hn
    obtain ⟨x, h1, h2⟩ := hv
    exact ⟨x, h1, VL.any h cs _ hn h2⟩
theorem VL.any (h : LLe loc loc') : ∀ (cs : List CV) (vs : List Value), noSyms cs = true → VL ρ loc cs vs → VL ρ' loc' cs vs
  | [], vs, _, hv => by simpa [VL] using hv
  | c :: cs, vs, hn, hv => by
    simp only [VL] at hv ⊢
    simp only [noSyms, Bool.and_eq_true] at hn
    obtain ⟨w, ws, h1, h2, h3⟩ := hv
    exact ⟨w, ws, h1, V.any h c w hn.1 h2, VL.any h cs ws hn.2 h3⟩
end

mutual
theorem V.back (h : LLe loc loc') : ∀ (c : CV) (u v : Value), noSym c = true → V ρ loc c u → V ρ' loc' c v → V ρ'' loc c v
  | .lit a, u, v, _, _, hv => by simpa [V] using hv
  | .sym n, u, v, hn, _, _ => by simp [noSym] at hn
  | .ptr id off, u, v, _, hu, hv => by
    simp only [V] at hu hv ⊢
    obtain ⟨p, h1, h2⟩ := hv
    obtain ⟨q, g1, _⟩ := hu
    have := h _ _ g1
    rw [h1] at this; cases this
    exact ⟨p, g1, h2⟩
  | .sl id s off len cap ex, u, v, _, hu, hv => by
    simp only [V] at hu hv ⊢
    obtain ⟨p, a, c, h1, h2⟩ := hv
    obtain ⟨q, _, _, g1, _⟩ := hu
    have := h _ _ g1
    rw [h1] at this; cases this
    exact ⟨p, a, c, g1, h2⟩
  | .mp id, u, v, _, hu, hv => by
    simp only [V] at hu hv ⊢
    obtain ⟨p, h1, h2⟩ := hv
    obtain ⟨q, g1, _⟩ := hu
    have := h _ _ g1
    rw [h1] at this; cases this
    exact ⟨p, g1, h2⟩
  | .it id, u, v, _, hu, hv => by
    simp only [V] at hu hv ⊢
    obtain ⟨p, h1, h2⟩ := hv
    obtain ⟨q, g1, _⟩ := hu
    have := h _ _ g1
    rw [h1] at this; cases this
    exact ⟨p, g1, h2⟩
  | .ifc t x, u, v, hn, hu, hv => by
    simp only [V] at hu hv ⊢
    simp only [noSym] at hn
    obtain ⟨y, h1, h2⟩ := hv
    obtain ⟨z, _, g2⟩ := hu
    exact ⟨y, h1, V.back h x z y hn g2 h2⟩
  | .fn f a b, u, v, hn, hu, hv => by
    simp only [V] at hu hv ⊢
    simp only [noSym, Bool.and_eq_true] at hn
    obtain ⟨x, y, h1, h2, h3⟩ := hv
    obtain ⟨x', y', _, g2, g3⟩ := hu
    exact ⟨x, y, h1, VL.back h a _ _ hn.1 g2 h2, VL.back h b _ _ hn.2 g3 h3⟩
  | .agg cs, u, v, hn, hu, hv => by
    simp only [V] at hu hv ⊢
    simp only [noSym] at hn
    obtain ⟨x, h1, h2⟩ := hv
    obtain ⟨x', _, g2⟩ := hu
    exact ⟨x, h1, VL.back h cs _ _ hn g2 h2⟩
  | .tup cs, u, v, hn, hu, hv => by
    simp only [V] at hu hv ⊢
    simp only [noSym] at hn
    obtain ⟨x, h1, h2⟩ := hv
    obtain ⟨x', _, g2⟩ := hu
    exact ⟨x, h1, VL.back h cs _ _ hn g2 h2⟩
theorem VL.back (h : LLe loc loc') : ∀ (cs : List CV) (us vs : List Value), noSyms cs = true → VL ρ loc cs us → VL ρ' loc' cs vs → VL ρ'' loc cs vs
  | [], us, vs, _, _, hv => by simpa [VL] using hv
  | c :: cs, us, vs, hn, hu, hv => by
    simp only [VL] at hu hv ⊢
    simp only [noSyms, Bool.and_eq_true] at hn
    obtain ⟨w, ws, h1, h2, h3⟩ := hv
    obtain ⟨w', ws', _, g2, g3⟩ := hu
    exact ⟨w, ws, h1, V.back h c w' w hn.1 g2 h2, VL.back h cs ws' ws hn.2 g3 h3⟩
end

end

/-- What a loop over a map looks like. -/
structure Hd where
  i3 : Nat
  ops3 : Array Oper
  c : Operand
  x : Nat
  id1 : Nat
  i4 : Nat
  ops4 : Array Oper
  rest : Code
  o1 : Oper
  o2 : Oper
  o3 : Oper
  l4 : List Oper
  ti : Tmp
  d1 : Tmp
  d2 : Tmp
  d3 : Tmp

def Hd.code (h : Hd) : Code := .seq (.region h.i3 h.ops3 false) (.seq (.cond h.c .skip (.exit h.x)) (.block h.id1 (.seq (.region h.i4 h.ops4 false) h.rest)))

/-- The parts of a body. -/
structure Hd.Ok (h : Hd) : Prop where
  ops3 : h.ops3.toList = [h.o1, h.o2]
  ops4 : h.ops4.toList = h.o3 :: h.l4
  op1 : h.o1.op = .next (.tmp h.ti) false ∧ h.o1.dst = some h.d1 ∧ h.o1.guard = none
  op2 : h.o2.op = .extract (.tmp h.d1) 0 ∧ h.o2.dst = some h.d2 ∧ h.o2.guard = none
  op3 : h.o3.op = .entry (.tmp h.ti) ∧ h.o3.dst = some h.d3 ∧ h.o3.guard = none
  c : h.c = .tmp h.d2

def looksLike (b : Code) : Option Hd :=
  match b with
  | .seq (.region i3 ops3 false) (.seq (.cond (.tmp c) .skip (.exit x)) (.block id1 (.seq (.region i4 ops4 false) rest))) =>
    match ops3.toList, ops4.toList with
    | [o1, o2], o3 :: l4 =>
      match o1.op, o1.dst, o1.guard, o2.op, o2.dst, o2.guard, o3.op, o3.dst, o3.guard with
      | .next (.tmp ti) false, some d1, none, .extract (.tmp d1') 0, some d2, none, .entry (.tmp ti'), some d3, none =>
        bif Nat.beq d1 d1' && Nat.beq ti ti' && Nat.beq c d2 && !Nat.beq ti d1 && !Nat.beq ti d2 && !Nat.beq ti d3 then some ⟨i3, ops3, .tmp c, x, id1, i4, ops4, rest, o1, o2, o3, l4, ti, d1, d2, d3⟩ else none
      | _, _, _, _, _, _, _, _, _ => none
    | _, _ => none
  | _ => none

theorem looks_ok {b : Code} {h : Hd} (hl : looksLike b = some h) : b = h.code ∧ h.Ok ∧ h.ti ≠ h.d1 ∧ h.ti ≠ h.d2 ∧ h.ti ≠ h.d3 := by
  unfold looksLike at hl
  split at hl
  · split at hl
    · rename_i e3 e4
      split at hl
      · rename_i q1 q2 q3 q4 q5 q6 q7 q8 q9
        rename_i ti d1 d1' d2 ti' d3
        cases hb : (Nat.beq d1 d1' && Nat.beq ti ti' && Nat.beq _ d2 && !Nat.beq ti d1 && !Nat.beq ti d2 && !Nat.beq ti d3) with
        | false => rw [hb] at hl; cases hl
        | true =>
          rw [hb] at hl
          cases hl
          simp only [Bool.and_eq_true, Bool.not_eq_true'] at hb
          obtain ⟨⟨⟨⟨⟨b1, b2⟩, b3⟩, b4⟩, b5⟩, b6⟩ := hb
          have b1 := Nat.eq_of_beq_eq_true b1
          have b2 := Nat.eq_of_beq_eq_true b2
          have b3 := Nat.eq_of_beq_eq_true b3
          subst b1 b2 b3
          exact ⟨rfl, ⟨e3, e4, ⟨q1, q2, q3⟩, ⟨q4, q5, q6⟩, ⟨q7, q8, q9⟩, rfl⟩, Nat.ne_of_beq_eq_false b4, Nat.ne_of_beq_eq_false b5, Nat.ne_of_beq_eq_false b6⟩
      · cases hl
    · cases hl
  · cases hl

def symI (i : Nat) : Nat := 1000 + 2 * i
def symsL (c : Nat) : List CV := (List.range c).map fun i => .sym (symI i)

def outC (oid c : Nat) : CV := bif Nat.beq c 0 then .lit (.slice none 0 0) else .sl oid 1 0 c c false

/-- What a body needs of memory to look at an entry. -/
def needs (hp : Tr OB) (v : CV) : R (List (Nat × List CV)) :=
  match v with
  | .ptr id _ => (cellsAt hp id).bind fun xs => R.if "loop: a symbol" (noSyms xs) (.ok [(id, xs)])
  | .lit _ => .ok []
  | _ => .no "loop: a value"

def putAll (nd : List (Nat × List CV)) : Tr OB := nd.foldr (fun p h => h.set p.1 (.cells p.2)) .e

def none3 : BinOp → CV → CV → Option CV := fun _ _ _ => none

/-- The memory in which a body is run. -/
def bodyHp (oid c : Nat) (nd : List (Nat × List CV)) : Tr OB := bif Nat.beq c 0 then putAll nd else (putAll nd).set oid (.cells (symsL c))

/-- A body is run: for an entry, when 'c' keys have been collected. -/
def bodyRun (P : Program) (call : Callee) (draw : List Oper → St → R St) (fuel : Nat) (h : Hd) (to itid oid c : Nat) (e : ME) (nd : List (Nat × List CV)) : R St :=
  (execOps P none3 call h.ops4.toList h.l4 ⟨((Tr.e.set h.ti (.it itid)).set to (outC oid c)).set h.d3 (.tup [e.k, e.v]), bodyHp oid c nd, oid + 1⟩).bind fun s4 =>
  (execC P none3 call draw (fun _ _ => none) fuel h.rest s4).bind fun r => match inB h.id1 r.1 with
    | .normal => .ok r.2
    | _ => .no "loop: it ends within"

def sameCells (hp : Tr OB) (p : Nat × List CV) : R Unit := (cellsAt hp p.1).bind fun ys => R.if "loop: it writes" (eqCVs ys p.2) (.ok ())

def sameAll (hp : Tr OB) : List (Nat × List CV) → R Unit
  | [] => .ok ()
  | p :: l => (sameCells hp p).bind fun _ => sameAll hp l

/-- Has it collected the key? -/
def collects (ti to itid oid c : Nat) (k : CV) (nd : List (Nat × List CV)) (s : St) : R Bool :=
  (R.of "loop: iterator" (s.tm.get ti)).bind fun v => R.if "loop: iterator" (eqCV v (.it itid)) <| (sameAll s.hp nd).bind fun _ => (R.of "loop: out" (s.tm.get to)).bind fun v =>
  bif eqCV v (outC oid c) then (bif Nat.beq c 0 then .ok false else (sameCells s.hp (oid, symsL c)).bind fun _ => .ok false)
  else match v with
    | .sl o st off len cap ex => R.if "loop: out" (Nat.ble oid o && Nat.beq st 1 && Nat.beq off 0 && Nat.beq len (c + 1) && Nat.beq cap (c + 1) && !ex) ((sameCells s.hp (o, symsL c ++ [k])).bind fun _ => .ok true)
    | _ => .no "loop: out"

def runE (P : Program) (call : Callee) (draw : List Oper → St → R St) (fuel : Nat) (h : Hd) (to itid : Nat) (hp : Tr OB) (oid c : Nat) (e : ME) : R Bool :=
  (needs hp e.v).bind fun nd => (bodyRun P call draw fuel h to itid oid c e nd).bind fun s => collects h.ti to itid oid c e.k nd s

def runEs (P : Program) (call : Callee) (draw : List Oper → St → R St) (fuel : Nat) (h : Hd) (to itid : Nat) (hp : Tr OB) (oid c : Nat) : List ME → R (List Bool)
  | [] => .ok []
  | e :: l => (runE P call draw fuel h to itid hp oid c e).bind fun q => (runEs P call draw fuel h to itid hp oid c l).bind fun qs => .ok (q :: qs)

def runsAll (P : Program) (call : Callee) (draw : List Oper → St → R St) (fuel : Nat) (h : Hd) (to itid : Nat) (hp : Tr OB) (oid : Nat) (es : List ME) (pr : List Bool) : Nat → R Unit
  | 0 => .ok ()
  | c + 1 => (runEs P call draw fuel h to itid hp oid (c + 1) es).bind fun qs => R.if "loop: it depends" (qs == pr) (runsAll P call draw fuel h to itid hp oid es pr c)

def keyI? : CV → Option Int
  | .lit (.int .i64 z) => some z
  | _ => none

def keysL : List ME → R (List Int)
  | [] => .ok []
  | e :: l => (R.of "loop: key" (keyI? e.k)).bind fun z => (keysL l).bind fun zs => .ok (z :: zs)

def pickL : List Bool → List Int → List Int
  | true :: ps, z :: zs => z :: pickL ps zs
  | false :: ps, _ :: zs => pickL ps zs
  | _, _ => []

def nodupB : List Nat → Bool
  | [] => true
  | x :: l => !l.any (fun y => Nat.beq x y) && nodupB l

def intsL (zs : List Int) : List CV := zs.map fun z => .lit (.int .i64 z)

def isNilT (v : CV) : Bool := eqCV v (.lit (.slice none 0 0))

/-- The rule. -/
def lpC (P : Program) (call : Callee) (draw : List Oper → St → R St) (fuel to : Nat) : Loops := fun b s =>
  match looksLike b with
  | none => none
  | some h => match s.tm.get h.ti with
    | some (.it itid) => match s.hp.get itid with
      | some (.iter m since seen last) => match mapAt s.hp m with
        | .ok (es, clock) => bif Nat.ble es.length 1 then none else some (
          R.if "loop: begin" (seen.isEmpty && Nat.beq since clock && Nat.beq last clock && (es.all fun e => Nat.blt e.b clock) && nodupB (es.map fun e => e.b) && !Nat.beq h.ti to && !Nat.beq h.d1 to && !Nat.beq h.d2 to && !Nat.beq h.d3 to && Nat.ble 1 (es.length)) <|
          (R.of "loop: out" (s.tm.get to)).bind fun ov => R.if "loop: out" (isNilT ov) <|
          (keysL es).bind fun ks => (runEs P call draw fuel h to itid s.hp s.nx 0 es).bind fun pr =>
          (runsAll P call draw fuel h to itid s.hp s.nx es pr (pickL pr ks).length).bind fun _ =>
          .ok (.exit h.x, ⟨Tr.e.set to (outC s.nx (pickL pr ks).length),
            bif Nat.beq (pickL pr ks).length 0 then s.hp.del itid else (s.hp.del itid).set s.nx (bif Nat.beq (pickL pr ks).length 1 then .cells (intsL (pickL pr ks)) else .bag (intsL (pickL pr ks))), s.nx + 1⟩))
        | _ => none
      | _ => none
    | _ => none

end Go.Cx
