/- Abstract states over the model's memory: values as trees, memory of the call's own as numbered objects; what it means that a world is as an abstract state says, and how that survives what memory undergoes. No program is named here. -/
import Derived.Calls
import Derived.Tactics
import Derived.Deep.AppendSrc
set_option linter.unusedSimpArgs false
set_option linter.unusedVariables false
set_option maxHeartbeats 1000000
namespace Go.Ab

/-- A cell whose memory no longer changes: a literal, or a slice, its elements each a list of cells. -/
inductive PV where
  | lit (v : Value)
  | sl (xs : List (List PV))

/-- A value, as it is known. -/
inductive D where
  | none
  | p (x : PV)
  | nil
  | ref (id off len : Nat)
  | ptr (id i j : Nat)
  | rd (x : List PV) (j : Nat)
  | mp (id : Nat)
  | fn (f : FuncId) (caps : List D)
  | agg (cs : List D)
  | tup (ds : List D)
  | gref (id s off len : Nat)
  deriving Inhabited

/-- An object of the call's own memory. -/
inductive Ob where
  | dead
  | unborn
  | row (s : Nat) (xs : List (List PV))
  | box (cs : List D)
  | map (es : List (Value × PV))

/-- Is it there? -/
def Ob.live : Ob → Bool
  | .dead | .unborn => false
  | _ => true

/-- Where an object lies: block, first cell, the size of the block; r: it has a block (an empty row may have none). -/
structure Loc where
  b : Nat
  o : Nat
  n : Nat
  r : Bool := true

/-- Memory that no longer changes, by blocks. -/
abbrev HV := Nat → Option (Array Value)

/-- What is there goes on to be there; a block's known beginning may grow. -/
def HLe (H H' : HV) : Prop := ∀ b c, H b = some c → ∃ c', H' b = some c' ∧ ∀ (i : Nat) v, c[i]? = some v → c'[i]? = some v

theorem HLe.refl (H : HV) : HLe H H := fun _ c h => ⟨c, h, fun _ _ h => h⟩
theorem HLe.trans {H H' H'' : HV} (h : HLe H H') (h' : HLe H' H'') : HLe H H'' := fun b c hb =>
  let ⟨c', h1, h2⟩ := h b c hb
  let ⟨c'', h3, h4⟩ := h' b c' h1
  ⟨c'', h3, fun i v hi => h4 i v (h2 i v hi)⟩

/-- A value reads as a cell that no longer changes. -/
inductive PVr (H : HV) : Value → PV → Prop
  | lit (v : Value) : PVr H v (.lit v)
  | none (a : Option Addr) (cap : Nat) : PVr H (.slice a 0 cap) (.sl [])
  | sl (b o cap s : Nat) (c : Array Value) (xs : List (List PV)) (g : Nat → Nat → Value)
      (hb : H b = some c) (hs : ∀ x, x ∈ xs → x.length = s) (hcap : xs.length ≤ cap)
      (hc : ∀ (i : Nat) x, xs[i]? = some x → ∀ (j : Nat) y, x[j]? = some y → c[o + i * s + j]? = some (g i j))
      (h1 : ∀ (i : Nat) x, xs[i]? = some x → ∀ (j : Nat) y, x[j]? = some y → (g i j).oneCell' = true)
      (hr : ∀ (i : Nat) x, xs[i]? = some x → ∀ (j : Nat) y, x[j]? = some y → PVr H (g i j) y) :
      PVr H (.slice (some ⟨b, o, Option.none⟩) xs.length cap) (.sl xs)

/-- A value reads as it is known. -/
inductive V (H : HV) (loc : Nat → Loc) (obs : List Ob) : Value → D → Prop
  | none (v : Value) : V H loc obs v .none
  | p (v : Value) (x : PV) (h : PVr H v x) : V H loc obs v (.p x)
  | nil : V H loc obs (.slice Option.none 0 0) .nil
  | ref (id off len cap s : Nat) (xs : List (List PV)) (ho : obs[id]? = some (.row s xs)) (hl : off + len ≤ xs.length) (hc : len ≤ cap)
      (hx : xs.length ≤ off + cap) (hr : (loc id).r = true) (hn : (loc id).o + (off + cap) * s ≤ (loc id).n) :
      V H loc obs (.slice (some ⟨(loc id).b, (loc id).o + off * s, Option.none⟩) len cap) (.ref id off len)
  | ref0 (a : Option Addr) (id off s : Nat) (xs : List (List PV)) (ho : obs[id]? = some (.row s xs)) (hl : off = xs.length) :
      V H loc obs (.slice a 0 0) (.ref id off 0)
  | refGone (v : Value) (id off len : Nat) (ho : obs[id]? = some .dead) : V H loc obs v (.ref id off len)
  | ptr (id i j s : Nat) (xs : List (List PV)) (ho : obs[id]? = some (.row s xs)) :
      V H loc obs (.pointer (some ⟨(loc id).b, (loc id).o + i * s + j, Option.none⟩)) (.ptr id i j)
  | ptrBox (id j : Nat) (cs : List D) (ho : obs[id]? = some (.box cs)) :
      V H loc obs (.pointer (some ⟨(loc id).b, (loc id).o + j, Option.none⟩)) (.ptr id 0 j)
  | ptrGone (v : Value) (id i j : Nat) (ho : obs[id]? = some .dead) : V H loc obs v (.ptr id i j)
  | rd (b o : Nat) (c : Array Value) (x : List PV) (j : Nat) (g : Nat → Value) (hb : H b = some c)
      (hc : ∀ (k : Nat) y, x[k]? = some y → c[o + k]? = some (g k)) (h1 : ∀ (k : Nat) y, x[k]? = some y → (g k).oneCell' = true)
      (hr : ∀ (k : Nat) y, x[k]? = some y → PVr H (g k) y) :
      V H loc obs (.pointer (some ⟨b, o + j, Option.none⟩)) (.rd x j)
  | mp (id : Nat) (es : List (Value × PV)) (ho : obs[id]? = some (.map es)) : V H loc obs (.map (some (loc id).b)) (.mp id)
  | mpGone (v : Value) (id : Nat) (ho : obs[id]? = some .dead) : V H loc obs v (.mp id)
  | fn (f : FuncId) (vs : Array Value) (caps : List D) (hn : vs.size = caps.length)
      (h : ∀ (i : Nat) v d, vs[i]? = some v → caps[i]? = some d → V H loc obs v d) : V H loc obs (.func (.func f) #[] vs) (.fn f caps)
  | agg (vs : Array Value) (cs : List D) (hn : vs.size = cs.length)
      (h : ∀ (i : Nat) v d, vs[i]? = some v → cs[i]? = some d → V H loc obs v d) : V H loc obs (.agg vs) (.agg cs)
  | tup (vs : Array Value) (cs : List D) (hn : vs.size = cs.length)
      (h : ∀ (i : Nat) v d, vs[i]? = some v → cs[i]? = some d → V H loc obs v d) : V H loc obs (.tuple vs) (.tup cs)
  | gref (id s off len cap : Nat) (cs : List D) (ho : obs[id]? = some (.box cs)) (hl : (off + len) * s ≤ cs.length) (hc : len ≤ cap) :
      V H loc obs (.slice (some ⟨(loc id).b, (loc id).o + off * s, Option.none⟩) len cap) (.gref id s off len)
  | grefGone (v : Value) (id s off len : Nat) (ho : obs[id]? = some .dead) : V H loc obs v (.gref id s off len)

theorem PVr.mono {H H' : HV} (hH : HLe H H') {v : Value} {x : PV} (h : PVr H v x) : PVr H' v x := by
  induction h with
  | lit v => exact .lit v
  | none a cap => exact .none a cap
  | sl b o cap s c xs g hb hs hcap hc h1 _ ih =>
    obtain ⟨c', hb', hp⟩ := hH b c hb
    exact .sl b o cap s c' xs g hb' hs hcap (fun i x hx j y hy => hp _ _ (hc i x hx j y hy)) h1 ih

/-- How the objects may turn while what is known of values stays true. -/
structure Turns (obs obs' : List Ob) (loc loc' : Nat → Loc) : Prop where
  row : ∀ (id s : Nat) (xs : List (List PV)), obs[id]? = some (.row s xs) → obs'[id]? = some .dead ∨ ∃ xs', obs'[id]? = some (.row s xs') ∧ xs'.length = xs.length ∧ loc' id = loc id
  box : ∀ (id : Nat) (cs : List D), obs[id]? = some (.box cs) → obs'[id]? = some .dead ∨ ∃ cs', obs'[id]? = some (.box cs') ∧ cs'.length = cs.length ∧ loc' id = loc id
  map : ∀ (id : Nat) (es : List (Value × PV)), obs[id]? = some (.map es) → obs'[id]? = some .dead ∨ ∃ es', obs'[id]? = some (.map es') ∧ loc' id = loc id
  dead : ∀ (id : Nat), obs[id]? = some .dead → obs'[id]? = some .dead

theorem Turns.refl (obs : List Ob) (loc : Nat → Loc) : Turns obs obs loc loc :=
  ⟨fun _ _ xs h => .inr ⟨xs, h, rfl, rfl⟩, fun _ cs h => .inr ⟨cs, h, rfl, rfl⟩, fun _ es h => .inr ⟨es, h, rfl⟩, fun _ h => h⟩

theorem V.turn {H H' : HV} {loc loc' : Nat → Loc} {obs obs' : List Ob} (hH : HLe H H') (ht : Turns obs obs' loc loc') {v : Value} {d : D}
    (h : V H loc obs v d) : V H' loc' obs' v d := by
  induction h with
  | none v => exact .none v
  | p v x h => exact .p v x (h.mono hH)
  | nil => exact .nil
  | ref id off len cap s xs ho hl hc hx hr hn =>
    rcases ht.row id s xs ho with hd | ⟨xs', ho', hxl, he⟩
    · exact .refGone _ id off len hd
    · rw [← he] at hn hr ⊢; exact .ref id off len cap s xs' ho' (by omega) hc (by omega) hr hn
  | ref0 a id off s xs ho hl =>
    rcases ht.row id s xs ho with hd | ⟨xs', ho', hx, he⟩
    · exact .refGone _ id off 0 hd
    · exact .ref0 a id off s xs' ho' (by omega)
  | refGone v id off len ho => exact .refGone v id off len (ht.dead id ho)
  | ptr id i j s xs ho =>
    rcases ht.row id s xs ho with hd | ⟨xs', ho', hx, he⟩
    · exact .ptrGone _ id i j hd
    · rw [← he]; exact .ptr id i j s xs' ho'
  | ptrBox id j cs ho =>
    rcases ht.box id cs ho with hd | ⟨cs', ho', hx, he⟩
    · exact .ptrGone _ id 0 j hd
    · rw [← he]; exact .ptrBox id j cs' ho'
  | ptrGone v id i j ho => exact .ptrGone v id i j (ht.dead id ho)
  | rd b o c x j g hb hc h1 hr =>
    obtain ⟨c', hb', hp⟩ := hH b c hb
    exact .rd b o c' x j g hb' (fun k y hk => hp _ _ (hc k y hk)) h1 (fun k y hk => (hr k y hk).mono hH)
  | mp id es ho =>
    rcases ht.map id es ho with hd | ⟨es', ho', he⟩
    · exact .mpGone _ id hd
    · rw [← he]; exact .mp id es' ho'
  | mpGone v id ho => exact .mpGone v id (ht.dead id ho)
  | fn f vs caps hn _ ih => exact .fn f vs caps hn ih
  | agg vs cs hn _ ih => exact .agg vs cs hn ih
  | tup vs cs hn _ ih => exact .tup vs cs hn ih
  | gref id s off len cap cs ho hl hc =>
    rcases ht.box id cs ho with hd | ⟨cs', ho', hx, he⟩
    · exact .grefGone _ id s off len hd
    · rw [← he]; exact .gref id s off len cap cs' ho' (by omega) hc
  | grefGone v id s off len ho => exact .grefGone v id s off len (ht.dead id ho)

/-- The stamps of a map's entries. -/
def Born (a : Array MapEntry) (c : Nat) : Prop := (∀ x, x ∈ a.toList → x.born < c) ∧ (a.toList.map (·.born)).Nodup

/-- An object lies in a world as it is known. -/
def Ob.holds (H : HV) (loc : Nat → Loc) (obs : List Ob) (w : World) (l : Loc) : Ob → Prop
  | .dead => True
  | .unborn => True
  | .row s xs => (l.r = false ∧ xs = []) ∨ l.r = true ∧ ∃ c e, w.heap[l.b]? = some (.cells c e (0, 0)) ∧ c.size = l.n ∧ l.o + xs.length * s ≤ l.n ∧ (∀ x, x ∈ xs → x.length = s) ∧
      ∀ (i : Nat) x, xs[i]? = some x → ∀ (j : Nat) y, x[j]? = some y → ∃ v, c[l.o + i * s + j]? = some v ∧ v.oneCell' = true ∧ PVr H v y
  | .box cs => l.r = true ∧ ∃ c e, w.heap[l.b]? = some (.cells c e (0, 0)) ∧ c.size = l.n ∧ l.o + cs.length ≤ l.n ∧
      ∀ (j : Nat) d, cs[j]? = some d → ∃ v, c[l.o + j]? = some v ∧ v.oneCell' = true ∧ V H loc obs v d
  | .map es => l.r = true ∧ ∃ a clock, w.heap[l.b]? = some (.map a clock) ∧ (a.size = es.length ∧ Born a clock) ∧
      ∀ (i : Nat) k x, es[i]? = some (k, x) → ∃ e : MapEntry, a[i]? = some e ∧ e.key = k ∧ e.val.oneCell' = true ∧ PVr H e.val x

/-- The objects and the memory that no longer changes, in a world. -/
structure Sr (H : HV) (loc : Nat → Loc) (obs : List Ob) (w : World) : Prop where
  heap : ∀ b c, H b = some c → ∃ c' e f, w.heap[b]? = some (.cells c' e f) ∧ ∀ (i : Nat) v, c[i]? = some v → c'[i]? = some v
  obj : ∀ (i : Nat) o, obs[i]? = some o → o.holds H loc obs w (loc i)
  apart : ∀ (i : Nat) o, obs[i]? = some o → o.live = true → (loc i).r = true → H (loc i).b = none
  inj : ∀ (i j : Nat) o o', obs[i]? = some o → obs[j]? = some o' → o.live = true → o'.live = true → (loc i).r = true → (loc j).r = true → (loc i).b = (loc j).b → i = j

/-- What may have become of memory: blocks of M, and new ones, may have turned. -/
structure Grows (M : Nat → Prop) (H H' : HV) (w w' : World) : Prop where
  os : w'.os = w.os
  tape : w'.tape = w.tape
  output : w'.output = w.output
  size : w.heap.size ≤ w'.heap.size
  kept : ∀ b, b < w.heap.size → ¬ M b → w'.heap[b]? = w.heap[b]?
  more : HLe H H'
  new : ∀ b c, H' b = some c → H b ≠ none ∨ w.heap.size ≤ b ∨ M b

theorem Grows.refl (M : Nat → Prop) (H : HV) (w : World) : Grows M H H w w := ⟨rfl, rfl, rfl, Nat.le_refl _, fun _ _ _ => rfl, .refl H, fun _ _ h => .inl (by rw [h]; simp)⟩

theorem Grows.trans {M M' : Nat → Prop} {H H' H'' : HV} {w w' w'' : World} (h : Grows M H H' w w') (h' : Grows M' H' H'' w' w'')
    (hM : ∀ b, M' b → M b ∨ w.heap.size ≤ b) : Grows M H H'' w w'' where
  os := h'.os.trans h.os
  tape := h'.tape.trans h.tape
  output := h'.output.trans h.output
  size := Nat.le_trans h.size h'.size
  kept := fun b hb hm => (h'.kept b (Nat.lt_of_lt_of_le hb h.size) (fun hx => (hM b hx).elim hm (by omega))).trans (h.kept b hb hm)
  more := h.more.trans h'.more
  new := fun b c hb => by
    rcases h'.new b c hb with h1 | h1 | h1
    · cases hx : H' b with
      | none => exact absurd hx h1
      | some c' => exact h.new b c' hx
    · exact .inr (.inl (Nat.le_trans h.size h1))
    · rcases hM b h1 with h2 | h2
      · exact .inr (.inr h2)
      · exact .inr (.inl h2)

theorem Ob.holds_lt {H : HV} {loc : Nat → Loc} {obs : List Ob} {w : World} {l : Loc} {o : Ob} (h : o.holds H loc obs w l) (hl : o.live = true) (hr : l.r = true) : l.b < w.heap.size := by
  have key : ∀ x : Obj, w.heap[l.b]? = some x → l.b < w.heap.size := fun x hx => by
    rcases Nat.lt_or_ge l.b w.heap.size with h' | h'
    · exact h'
    · simp [Array.getElem?_eq_none h'] at hx
  cases o with
  | dead => simp [Ob.live] at hl
  | unborn => simp [Ob.live] at hl
  | row s xs =>
    rcases h with ⟨h, _⟩ | ⟨_, c, e, h, _⟩
    · rw [hr] at h; cases h
    · exact key _ h
  | box cs => obtain ⟨_, c, e, h, _⟩ := h; exact key _ h
  | map es => obtain ⟨_, c, e, h, _⟩ := h; exact key _ h

theorem Sr.H_lt {H : HV} {loc : Nat → Loc} {obs : List Ob} {w : World} (h : Sr H loc obs w) {b : Nat} {c : Array Value} (hb : H b = some c) : b < w.heap.size := by
  obtain ⟨c', e, f, hx, _⟩ := h.heap b c hb
  rcases Nat.lt_or_ge b w.heap.size with h' | h'
  · exact h'
  · simp [Array.getElem?_eq_none h'] at hx

theorem Sr.live_lt {H : HV} {loc : Nat → Loc} {obs : List Ob} {w : World} (h : Sr H loc obs w) {i : Nat} {o : Ob} (ho : obs[i]? = some o) (hl : o.live = true) (hr : (loc i).r = true) : (loc i).b < w.heap.size :=
  Ob.holds_lt (h.obj i o ho) hl hr

/-- An object goes on to hold when its block stands and the known goes on to be true. -/
theorem Ob.holds_turn {H H' : HV} {loc loc' : Nat → Loc} {obs obs' : List Ob} {w w' : World} (hH : HLe H H') (ht : Turns obs obs' loc loc') {l : Loc} {o : Ob}
    (hw : l.r = true → w'.heap[l.b]? = w.heap[l.b]?) (h : o.holds H loc obs w l) : o.holds H' loc' obs' w' l := by
  cases o with
  | dead => trivial
  | unborn => trivial
  | row s xs =>
    rcases h with h | ⟨hr, c, e, h1, h2, h3, h4, h5⟩
    · exact .inl h
    refine .inr ⟨hr, c, e, (hw hr).trans h1, h2, h3, h4, fun i x hi j y hj => ?_⟩
    obtain ⟨v, a, b, c⟩ := h5 i x hi j y hj
    exact ⟨v, a, b, c.mono hH⟩
  | box cs =>
    obtain ⟨hr, c, e, h1, h2, h3, h5⟩ := h
    refine ⟨hr, c, e, (hw hr).trans h1, h2, h3, fun j d hj => ?_⟩
    obtain ⟨v, a, b, c⟩ := h5 j d hj
    exact ⟨v, a, b, c.turn hH ht⟩
  | map es =>
    obtain ⟨hr, c, e, h1, h2, h5⟩ := h
    refine ⟨hr, c, e, (hw hr).trans h1, h2, fun i k x hi => ?_⟩
    obtain ⟨m, a, b, c, d⟩ := h5 i k x hi
    exact ⟨m, a, b, c, d.mono hH⟩

/-- Draws turn no memory. -/
theorem Sr.of_heap {H : HV} {loc : Nat → Loc} {obs : List Ob} {w w' : World} (h : Sr H loc obs w) (hw : w'.heap = w.heap) : Sr H loc obs w' where
  heap := fun b c hb => by rw [hw]; exact h.heap b c hb
  obj := fun i o ho => Ob.holds_turn (.refl H) (Turns.refl _ _) (fun _ => by rw [hw]) (h.obj i o ho)
  apart := h.apart
  inj := h.inj

/-- Nothing of the shape turns. -/
def Ob.sameShape : Ob → Ob → Prop
  | .row s xs, .row s' xs' => s = s' ∧ xs.length = xs'.length
  | .box cs, .box cs' => cs.length = cs'.length
  | .map _, .map _ => True
  | _, .dead => True
  | _, _ => False

theorem Ob.sameShape_refl (o : Ob) (h : o ≠ .unborn) : o.sameShape o := by
  cases o <;> simp_all [Ob.sameShape]

theorem Ob.sameShape_trans {a b c : Ob} (h : a.sameShape b) (h' : b.sameShape c) : a.sameShape c := by
  cases a <;> cases b <;> cases c <;> simp_all [Ob.sameShape]

/-- An entry object is still there, or let go. -/
def stays (obs obs' : List Ob) (loc loc' : Nat → Loc) : Prop :=
  ∀ (k : Nat) o, obs[k]? = some o → obs'[k]? = some .dead ∨ ∃ o', obs'[k]? = some o' ∧ o.sameShape o' ∧ loc' k = loc k

/-- What a call began with: the blocks that it may write, the objects that it was handed, and where they lay. -/
structure En where
  M : Nat → Prop
  ob : List Ob
  loc : Nat → Loc

end Go.Ab
