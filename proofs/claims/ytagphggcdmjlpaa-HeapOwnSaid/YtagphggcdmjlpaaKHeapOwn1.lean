/- Texts of this proof, joined: Ab1, Ab2, Ab3, Ab4, Ab5, Ab6, Ab7, Ab8, Ab9, Ab10, Ab11, Ab12, Ab13, Ab14, Ab15, AbE, AbG, AbH. -/
import Derived.Calls
import Derived.Tactics
import Derived.Deep.AppendSrc
import Derived.Laws.CopyRow
import Derived.Great.BuildSlice
import Derived.Deep.Upon
import Derived.Laws.StructEq
import Derived.ChangeKeysEq
import Derived.Laws.IdiomCopy
set_option linter.unusedSimpArgs false
set_option linter.unusedVariables false
set_option maxHeartbeats 1000000
/- Abstract states over the model's memory: values as trees, memory of the call's own as numbered objects; what it means that a world is as an abstract state says, and how that survives what memory undergoes. No program is named here. -/
namespace Go.Ab

/-- A cell whose memory no longer changes: a literal, or a slice, its elements each a list of cells. -/
inductive PV where
  | lit (v : Value)
  | sl (xs : List (List PV))

/-- A value, as it is known. -/
inductive D where
  | none
  | p (x : PV)
  | nil
  | ref (id off len : Nat)
  | ptr (id i j : Nat)
  | rd (x : List PV) (j : Nat)
  | mp (id : Nat)
  | fn (f : FuncId) (caps : List D)
  | agg (cs : List D)
  | tup (ds : List D)
  | gref (id s off len : Nat)
  deriving Inhabited

/-- An object of the call's own memory. -/
inductive Ob where
  | dead
  | unborn
  | row (s : Nat) (xs : List (List PV))
  | box (cs : List D)
  | map (es : List (Value × PV))

/-- Is it there? -/
def Ob.live : Ob → Bool
  | .dead | .unborn => false
  | _ => true

/-- Where an object lies: block, first cell, the size of the block; r: it has a block (an empty row may have none). -/
structure Loc where
  b : Nat
  o : Nat
  n : Nat
  r : Bool := true

/-- Memory that no longer changes, by blocks. -/
abbrev HV := Nat → Option (Array Value)

/-- What is there goes on to be there; a block's known beginning may grow. -/
def HLe (H H' : HV) : Prop := ∀ b c, H b = some c → ∃ c', H' b = some c' ∧ ∀ (i : Nat) v, c[i]? = some v → c'[i]? = some v

theorem HLe.refl (H : HV) : HLe H H := fun _ c h => ⟨c, h, fun _ _ h => h⟩
theorem HLe.trans {H H' H'' : HV} (h : HLe H H') (h' : HLe H' H'') : HLe H H'' := fun b c hb =>
  let ⟨c', h1, h2⟩ := h b c hb
  let ⟨c'', h3, h4⟩ := h' b c' h1
  ⟨c'', h3, fun i v hi => h4 i v (h2 i v hi)⟩

/-- A value reads as a cell that no longer changes. -/
inductive PVr (H : HV) : Value → PV → Prop
  | lit (v : Value) : PVr H v (.lit v)
  | none (a : Option Addr) (cap : Nat) : PVr H (.slice a 0 cap) (.sl [])
  | sl (b o cap s : Nat) (c : Array Value) (xs : List (List PV)) (g : Nat → Nat → Value)
      (hb : H b = some c) (hs : ∀ x, x ∈ xs → x.length = s) (hcap : xs.length ≤ cap)
      (hc : ∀ (i : Nat) x, xs[i]? = some x → ∀ (j : Nat) y, x[j]? = some y → c[o + i * s + j]? = some (g i j))
      (h1 : ∀ (i : Nat) x, xs[i]? = some x → ∀ (j : Nat) y, x[j]? = some y → (g i j).oneCell' = true)
      (hr : ∀ (i : Nat) x, xs[i]? = some x → ∀ (j : Nat) y, x[j]? = some y → PVr H (g i j) y) :
      PVr H (.slice (some ⟨b, o, Option.none⟩) xs.length cap) (.sl xs)

/-- A value reads as it is known. -/
inductive V (H : HV) (loc : Nat → Loc) (obs : List Ob) : Value → D → Prop
  | none (v : Value) : V H loc obs v .none
  | p (v : Value) (x : PV) (h : PVr H v x) : V H loc obs v (.p x)
  | nil : V H loc obs (.slice Option.none 0 0) .nil
  | ref (id off len cap s : Nat) (xs : List (List PV)) (ho : obs[id]? = some (.row s xs)) (hl : off + len ≤ xs.length) (hc : len ≤ cap)
      (hx : xs.length ≤ off + cap) (hr : (loc id).r = true) (hn : (loc id).o + (off + cap) * s ≤ (loc id).n) :
      V H loc obs (.slice (some ⟨(loc id).b, (loc id).o + off * s, Option.none⟩) len cap) (.ref id off len)
  | ref0 (a : Option Addr) (id off s : Nat) (xs : List (List PV)) (ho : obs[id]? = some (.row s xs)) (hl : off = xs.length) :
      V H loc obs (.slice a 0 0) (.ref id off 0)
  | refGone (v : Value) (id off len : Nat) (ho : obs[id]? = some .dead) : V H loc obs v (.ref id off len)
  | ptr (id i j s : Nat) (xs : List (List PV)) (ho : obs[id]? = some (.row s xs)) :
      V H loc obs (.pointer (some ⟨(loc id).b, (loc id).o + i * s + j, Option.none⟩)) (.ptr id i j)
  | ptrBox (id j : Nat) (cs : List D) (ho : obs[id]? = some (.box cs)) :
      V H loc obs (.pointer (some ⟨(loc id).b, (loc id).o + j, Option.none⟩)) (.ptr id 0 j)
  | ptrGone (v : Value) (id i j : Nat) (ho : obs[id]? = some .dead) : V H loc obs v (.ptr id i j)
  | rd (b o : Nat) (c : Array Value) (x : List PV) (j : Nat) (g : Nat → Value) (hb : H b = some c)
      (hc : ∀ (k : Nat) y, x[k]? = some y → c[o + k]? = some (g k)) (h1 : ∀ (k : Nat) y, x[k]? = some y → (g k).oneCell' = true)
      (hr : ∀ (k : Nat) y, x[k]? = some y → PVr H (g k) y) :
      V H loc obs (.pointer (some ⟨b, o + j, Option.none⟩)) (.rd x j)
  | mp (id : Nat) (es : List (Value × PV)) (ho : obs[id]? = some (.map es)) : V H loc obs (.map (some (loc id).b)) (.mp id)
  | mpGone (v : Value) (id : Nat) (ho : obs[id]? = some .dead) : V H loc obs v (.mp id)
  | fn (f : FuncId) (vs : Array Value) (caps : List D) (hn : vs.size = caps.length)
      (h : ∀ (i : Nat) v d, vs[i]? = some v → caps[i]? = some d → V H loc obs v d) : V H loc obs (.func (.func f) #[] vs) (.fn f caps)
  | agg (vs : Array Value) (cs : List D) (hn : vs.size = cs.length)
      (h : ∀ (i : Nat) v d, vs[i]? = some v → cs[i]? = some d → V H loc obs v d) : V H loc obs (.agg vs) (.agg cs)
  | tup (vs : Array Value) (cs : List D) (hn : vs.size = cs.length)
      (h : ∀ (i : Nat) v d, vs[i]? = some v → cs[i]? = some d → V H loc obs v d) : V H loc obs (.tuple vs) (.tup cs)
  | gref (id s off len cap : Nat) (cs : List D) (ho : obs[id]? = some (.box cs)) (hl : (off + len) * s ≤ cs.length) (hc : len ≤ cap) :
      V H loc obs (.slice (some ⟨(loc id).b, (loc id).o + off * s, Option.none⟩) len cap) (.gref id s off len)
  | grefGone (v : Value) (id s off len : Nat) (ho : obs[id]? = some .dead) : V H loc obs v (.gref id s off len)

theorem PVr.mono {H H' : HV} (hH : HLe H H') {v : Value} {x : PV} (h : PVr H v x) : PVr H' v x := by
  induction h with
  | lit v => exact .lit v
  | none a cap => exact .none a cap
  | sl b o cap s c xs g hb hs hcap hc h1 _ ih =>
    obtain ⟨c', hb', hp⟩ := hH b c hb
    exact .sl b o cap s c' xs g hb' hs hcap (fun i x hx j y hy => hp _ _ (hc i x hx j y hy)) h1 ih

/-- How the objects may turn while what is known of values stays true. -/
structure Turns (obs obs' : List Ob) (loc loc' : Nat → Loc) : Prop where
  row : ∀ (id s : Nat) (xs : List (List PV)), obs[id]? = some (.row s xs) → obs'[id]? = some .dead ∨ ∃ xs', obs'[id]? = some (.row s xs') ∧ xs'.length = xs.length ∧ loc' id = loc id
  box : ∀ (id : Nat) (cs : List D), obs[id]? = some (.box cs) → obs'[id]? = some .dead ∨ ∃ cs', obs'[id]? = some (.box cs') ∧ cs'.length = cs.length ∧ loc' id = loc id
  map : ∀ (id : Nat) (es : List (Value × PV)), obs[id]? = some (.map es) → obs'[id]? = some .dead ∨ ∃ es', obs'[id]? = some (.map es') ∧ loc' id = loc id
  dead : ∀ (id : Nat), obs[id]? = some .dead → obs'[id]? = some .dead

theorem Turns.refl (obs : List Ob) (loc : Nat → Loc) : Turns obs obs loc loc :=
  ⟨fun _ _ xs h => .inr ⟨xs, h, rfl, rfl⟩, fun _ cs h => .inr ⟨cs, h, rfl, rfl⟩, fun _ es h => .inr ⟨es, h, rfl⟩, fun _ h => h⟩

theorem V.turn {H H' : HV} {loc loc' : Nat → Loc} {obs obs' : List Ob} (hH : HLe H H') (ht : Turns obs obs' loc loc') {v : Value} {d : D}
    (h : V H loc obs v d) : V H' loc' obs' v d := by
  induction h with
  | none v => exact .none v
  | p v x h => exact .p v x (h.mono hH)
  | nil => exact .nil
  | ref id off len cap s xs ho hl hc hx hr hn =>
    rcases ht.row id s xs ho with hd | ⟨xs', ho', hxl, he⟩
    · exact .refGone _ id off len hd
    · rw [← he] at hn hr ⊢; exact .ref id off len cap s xs' ho' (by omega) hc (by omega) hr hn
  | ref0 a id off s xs ho hl =>
    rcases ht.row id s xs ho with hd | ⟨xs', ho', hx, he⟩
    · exact .refGone _ id off 0 hd
    · exact .ref0 a id off s xs' ho' (by omega)
  | refGone v id off len ho => exact .refGone v id off len (ht.dead id ho)
  | ptr id i j s xs ho =>
    rcases ht.row id s xs ho with hd | ⟨xs', ho', hx, he⟩
    · exact .ptrGone _ id i j hd
    · rw [← he]; exact .ptr id i j s xs' ho'
  | ptrBox id j cs ho =>
    rcases ht.box id cs ho with hd | ⟨cs', ho', hx, he⟩
    · exact .ptrGone _ id 0 j hd
    · rw [← he]; exact .ptrBox id j cs' ho'
  | ptrGone v id i j ho => exact .ptrGone v id i j (ht.dead id ho)
  | rd b o c x j g hb hc h1 hr =>
    obtain ⟨c', hb', hp⟩ := hH b c hb
    exact .rd b o c' x j g hb' (fun k y hk => hp _ _ (hc k y hk)) h1 (fun k y hk => (hr k y hk).mono hH)
  | mp id es ho =>
    rcases ht.map id es ho with hd | ⟨es', ho', he⟩
    · exact .mpGone _ id hd
    · rw [← he]; exact .mp id es' ho'
  | mpGone v id ho => exact .mpGone v id (ht.dead id ho)
  | fn f vs caps hn _ ih => exact .fn f vs caps hn ih
  | agg vs cs hn _ ih => exact .agg vs cs hn ih
  | tup vs cs hn _ ih => exact .tup vs cs hn ih
  | gref id s off len cap cs ho hl hc =>
    rcases ht.box id cs ho with hd | ⟨cs', ho', hx, he⟩
    · exact .grefGone _ id s off len hd
    · rw [← he]; exact .gref id s off len cap cs' ho' (by omega) hc
  | grefGone v id s off len ho => exact .grefGone v id s off len (ht.dead id ho)

/-- The stamps of a map's entries. -/
def Born (a : Array MapEntry) (c : Nat) : Prop := (∀ x, x ∈ a.toList → x.born < c) ∧ (a.toList.map (·.born)).Nodup

/-- An object lies in a world as it is known. -/
def Ob.holds (H : HV) (loc : Nat → Loc) (obs : List Ob) (w : World) (l : Loc) : Ob → Prop
  | .dead => True
  | .unborn => True
  | .row s xs => (l.r = false ∧ xs = []) ∨ l.r = true ∧ ∃ c e, w.heap[l.b]? = some (.cells c e (0, 0)) ∧ c.size = l.n ∧ l.o + xs.length * s ≤ l.n ∧ (∀ x, x ∈ xs → x.length = s) ∧
      ∀ (i : Nat) x, xs[i]? = some x → ∀ (j : Nat) y, x[j]? = some y → ∃ v, c[l.o + i * s + j]? = some v ∧ v.oneCell' = true ∧ PVr H v y
  | .box cs => l.r = true ∧ ∃ c e, w.heap[l.b]? = some (.cells c e (0, 0)) ∧ c.size = l.n ∧ l.o + cs.length ≤ l.n ∧
      ∀ (j : Nat) d, cs[j]? = some d → ∃ v, c[l.o + j]? = some v ∧ v.oneCell' = true ∧ V H loc obs v d
  | .map es => l.r = true ∧ ∃ a clock, w.heap[l.b]? = some (.map a clock) ∧ (a.size = es.length ∧ Born a clock) ∧
      ∀ (i : Nat) k x, es[i]? = some (k, x) → ∃ e : MapEntry, a[i]? = some e ∧ e.key = k ∧ e.val.oneCell' = true ∧ PVr H e.val x

/-- The objects and the memory that no longer changes, in a world. -/
structure Sr (H : HV) (loc : Nat → Loc) (obs : List Ob) (w : World) : Prop where
  heap : ∀ b c, H b = some c → ∃ c' e f, w.heap[b]? = some (.cells c' e f) ∧ ∀ (i : Nat) v, c[i]? = some v → c'[i]? = some v
  obj : ∀ (i : Nat) o, obs[i]? = some o → o.holds H loc obs w (loc i)
  apart : ∀ (i : Nat) o, obs[i]? = some o → o.live = true → (loc i).r = true → H (loc i).b = none
  inj : ∀ (i j : Nat) o o', obs[i]? = some o → obs[j]? = some o' → o.live = true → o'.live = true → (loc i).r = true → (loc j).r = true → (loc i).b = (loc j).b → i = j

/-- What may have become of memory: blocks of M, and new ones, may have turned. -/
structure Grows (M : Nat → Prop) (H H' : HV) (w w' : World) : Prop where
  os : w'.os = w.os
  tape : w'.tape = w.tape
  output : w'.output = w.output
  size : w.heap.size ≤ w'.heap.size
  kept : ∀ b, b < w.heap.size → ¬ M b → w'.heap[b]? = w.heap[b]?
  more : HLe H H'
  new : ∀ b c, H' b = some c → H b ≠ none ∨ w.heap.size ≤ b ∨ M b

theorem Grows.refl (M : Nat → Prop) (H : HV) (w : World) : Grows M H H w w := ⟨rfl, rfl, rfl, Nat.le_refl _, fun _ _ _ => rfl, .refl H, fun _ _ h => .inl (by rw [h]; simp)⟩

theorem Grows.trans {M M' : Nat → Prop} {H H' H'' : HV} {w w' w'' : World} (h : Grows M H H' w w') (h' : Grows M' H' H'' w' w'')
    (hM : ∀ b, M' b → M b ∨ w.heap.size ≤ b) : Grows M H H'' w w'' where
  os := h'.os.trans h.os
  tape := h'.tape.trans h.tape
  output := h'.output.trans h.output
  size := Nat.le_trans h.size h'.size
  kept := fun b hb hm => (h'.kept b (Nat.lt_of_lt_of_le hb h.size) (fun hx => (hM b hx).elim hm (by omega))).trans (h.kept b hb hm)
  more := h.more.trans h'.more
  new := fun b c hb => by
    rcases h'.new b c hb with h1 | h1 | h1
    · cases hx : H' b with
      | none => exact absurd hx h1
      | some c' => exact h.new b c' hx
    · exact .inr (.inl (Nat.le_trans h.size h1))
    · rcases hM b h1 with h2 | h2
      · exact .inr (.inr h2)
      · exact .inr (.inl h2)

theorem Ob.holds_lt {H : HV} {loc : Nat → Loc} {obs : List Ob} {w : World} {l : Loc} {o : Ob} (h : o.holds H loc obs w l) (hl : o.live = true) (hr : l.r = true) : l.b < w.heap.size := by
  have key : ∀ x : Obj, w.heap[l.b]? = some x → l.b < w.heap.size := fun x hx => by
    rcases Nat.lt_or_ge l.b w.heap.size with h' | h'
    · exact h'
    · simp [Array.getElem?_eq_none h'] at hx
  cases o with
  | dead => simp [Ob.live] at hl
  | unborn => simp [Ob.live] at hl
  | row s xs =>
    rcases h with ⟨h, _⟩ | ⟨_, c, e, h, _⟩
    · rw [hr] at h; cases h
    · exact key _ h
  | box cs => obtain ⟨_, c, e, h, _⟩ := h; exact key _ h
  | map es => obtain ⟨_, c, e, h, _⟩ := h; exact key _ h

theorem Sr.H_lt {H : HV} {loc : Nat → Loc} {obs : List Ob} {w : World} (h : Sr H loc obs w) {b : Nat} {c : Array Value} (hb : H b = some c) : b < w.heap.size := by
  obtain ⟨c', e, f, hx, _⟩ := h.heap b c hb
  rcases Nat.lt_or_ge b w.heap.size with h' | h'
  · exact h'
  · simp [Array.getElem?_eq_none h'] at hx

theorem Sr.live_lt {H : HV} {loc : Nat → Loc} {obs : List Ob} {w : World} (h : Sr H loc obs w) {i : Nat} {o : Ob} (ho : obs[i]? = some o) (hl : o.live = true) (hr : (loc i).r = true) : (loc i).b < w.heap.size :=
  Ob.holds_lt (h.obj i o ho) hl hr

/-- An object goes on to hold when its block stands and the known goes on to be true. -/
theorem Ob.holds_turn {H H' : HV} {loc loc' : Nat → Loc} {obs obs' : List Ob} {w w' : World} (hH : HLe H H') (ht : Turns obs obs' loc loc') {l : Loc} {o : Ob}
    (hw : l.r = true → w'.heap[l.b]? = w.heap[l.b]?) (h : o.holds H loc obs w l) : o.holds H' loc' obs' w' l := by
  cases o with
  | dead => trivial
  | unborn => trivial
  | row s xs =>
    rcases h with h | ⟨hr, c, e, h1, h2, h3, h4, h5⟩
    · exact .inl h
    refine .inr ⟨hr, c, e, (hw hr).trans h1, h2, h3, h4, fun i x hi j y hj => ?_⟩
    obtain ⟨v, a, b, c⟩ := h5 i x hi j y hj
    exact ⟨v, a, b, c.mono hH⟩
  | box cs =>
    obtain ⟨hr, c, e, h1, h2, h3, h5⟩ := h
    refine ⟨hr, c, e, (hw hr).trans h1, h2, h3, fun j d hj => ?_⟩
    obtain ⟨v, a, b, c⟩ := h5 j d hj
    exact ⟨v, a, b, c.turn hH ht⟩
  | map es =>
    obtain ⟨hr, c, e, h1, h2, h5⟩ := h
    refine ⟨hr, c, e, (hw hr).trans h1, h2, fun i k x hi => ?_⟩
    obtain ⟨m, a, b, c, d⟩ := h5 i k x hi
    exact ⟨m, a, b, c, d.mono hH⟩

/-- Draws turn no memory. -/
theorem Sr.of_heap {H : HV} {loc : Nat → Loc} {obs : List Ob} {w w' : World} (h : Sr H loc obs w) (hw : w'.heap = w.heap) : Sr H loc obs w' where
  heap := fun b c hb => by rw [hw]; exact h.heap b c hb
  obj := fun i o ho => Ob.holds_turn (.refl H) (Turns.refl _ _) (fun _ => by rw [hw]) (h.obj i o ho)
  apart := h.apart
  inj := h.inj

/-- Nothing of the shape turns. -/
def Ob.sameShape : Ob → Ob → Prop
  | .row s xs, .row s' xs' => s = s' ∧ xs.length = xs'.length
  | .box cs, .box cs' => cs.length = cs'.length
  | .map _, .map _ => True
  | _, .dead => True
  | _, _ => False

theorem Ob.sameShape_refl (o : Ob) (h : o ≠ .unborn) : o.sameShape o := by
  cases o <;> simp_all [Ob.sameShape]

theorem Ob.sameShape_trans {a b c : Ob} (h : a.sameShape b) (h' : b.sameShape c) : a.sameShape c := by
  cases a <;> cases b <;> cases c <;> simp_all [Ob.sameShape]

/-- An entry object is still there, or let go. -/
def stays (obs obs' : List Ob) (loc loc' : Nat → Loc) : Prop :=
  ∀ (k : Nat) o, obs[k]? = some o → obs'[k]? = some .dead ∨ ∃ o', obs'[k]? = some o' ∧ o.sameShape o' ∧ loc' k = loc k

/-- What a call began with: the blocks that it may write, the objects that it was handed, and where they lay. -/
structure En where
  M : Nat → Prop
  ob : List Ob
  loc : Nat → Loc

end Go.Ab

/- The calculus over abstract states: what it means that code leads from an abstract state to others, for sequences, branches, blocks, loops and a function's body. No program is named here. -/
namespace Go.Ab

/-- An abstract state: what is known of each temporary, and the objects of the call's own memory. -/
structure St where
  tm : Nat → D
  ob : List Ob
  n0 : Nat := 0

/-- Temporaries out of a list. -/
def ofL : List (Nat × D) → Nat → D
  | [], _ => .none
  | (k, d) :: l, t => if k = t then d else ofL l t

/-- An execution is as an abstract state says. M, H0, w0: what the call may write, what it may read, and the world in which it began. -/
structure Rel (M : En) (H0 : HV) (w0 : World) (nt : Nat) (H : HV) (loc : Nat → Loc) (w : World) (st : St) (a : Act) : Prop where
  sr : Sr H loc st.ob w
  tm : ∀ t, V H loc st.ob (a.tmps.getD t undef) (st.tm t)
  sz : a.tmps.size = nt
  df : a.defers = []
  gr : Grows M.M H0 H w0 w
  own : ∀ (i : Nat) o, st.ob[i]? = some o → o.live = true → (loc i).r = true → M.M (loc i).b ∨ w0.heap.size ≤ (loc i).b
  n0 : M.ob.length = st.n0
  ent : stays M.ob st.ob M.loc loc

/-- There is a concrete side to an abstract state. -/
def Is (M : En) (H0 : HV) (w0 : World) (nt : Nat) (st : St) (a : Act) (w : World) : Prop := ∃ H loc, Rel M H0 w0 nt H loc w st a

/-- Where code leads to, told of abstract states. -/
def AWp (P : Program) (nt : Nat) (c : Code) (Q : Exit → St → Prop) (st : St) : Prop :=
  ∀ M H0 w0 w a, Is M H0 w0 nt st a w → c.wp P (fun e a' w' => ∃ st', Q e st' ∧ Is M H0 w0 nt st' a' w') a w

/-- The same of a list of operations. -/
def AOps (P : Program) (nt : Nat) (ops : Array Oper) (l : List Oper) (K : St → Prop) (st : St) : Prop :=
  ∀ M H0 w0 w a, Is M H0 w0 nt st a w → wpList P ops (fun e a' w' => e = .normal ∧ ∃ st', K st' ∧ Is M H0 w0 nt st' a' w') l a w

theorem upon_mono {P : Program} {o : Oper} {a : Act} {next next' : Act → World → Prop} {Q Q' : Exit → Act → World → Prop} (hn : ∀ a w, next a w → next' a w) (hq : ∀ e a w, Q e a w → Q' e a w)
    {r : Result Next} (h : o.upon P a next Q r) : o.upon P a next' Q' r := by
  cases r with
  | ok n w' =>
    cases n <;> simp only [Oper.upon] at h ⊢ <;> first | exact hn _ _ h | skip
    case enter f args =>
      refine h.mono fun e w' he => ?_
      cases e with
      | returned v => exact hn _ _ he
      | panicked c => exact hq _ _ _ he
      | outgrown => obtain ⟨a, w, hx⟩ := he; exact ⟨a, w, hq _ _ _ hx⟩
    case row r args => exact h.mono fun v w' he => hn _ _ he
  | halt x w' => cases x <;> simp only [Oper.upon] at h ⊢ <;> first | exact h.elim | exact hq _ _ _ h

theorem wpList_mono {P : Program} {ops : Array Oper} {Q Q' : Exit → Act → World → Prop} (hq : ∀ e a w, Q e a w → Q' e a w) : ∀ {l : List Oper} {a : Act} {w : World}, wpList P ops Q l a w → wpList P ops Q' l a w
  | [], a, w, h => hq _ _ _ h
  | o :: rest, a, w, h => by
    unfold wpList at h ⊢
    split
    · rename_i hw
      rw [if_pos hw] at h
      rcases h with h | ⟨h, a', w', h2⟩
      · exact .inl (upon_mono (fun a w h => wpList_mono hq h) hq h)
      · exact .inr ⟨h, a', w', hq _ _ _ h2⟩
    · rename_i hw
      rw [if_neg hw] at h
      exact wpList_mono hq h

section
variable {P : Program} {nt : Nat} {Q : Exit → St → Prop} {st : St}

theorem AWp.mono {c : Code} {Q' : Exit → St → Prop} (h : AWp P nt c Q st) (hq : ∀ e s, Q e s → Q' e s) : AWp P nt c Q' st :=
  fun M H0 w0 w a hi => wp_mono (h M H0 w0 w a hi) fun _ _ _ ⟨s, q, i⟩ => ⟨s, hq _ _ q, i⟩

theorem awp_skip (h : Q .normal st) : AWp P nt .skip Q st := fun _ _ _ _ _ hi => wp_skip ⟨st, h, hi⟩
theorem awp_exit {id : Nat} (h : Q (.exit id) st) : AWp P nt (.exit id) Q st := fun _ _ _ _ _ hi => wp_exit ⟨st, h, hi⟩
theorem awp_ret (h : Q .ret st) : AWp P nt .ret Q st := fun _ _ _ _ _ hi => wp_ret ⟨st, h, hi⟩

/-- Behind the first of two. -/
def andThen (next : St → Prop) (Q : Exit → St → Prop) : Exit → St → Prop
  | .normal, s => next s
  | e, s => Q e s

theorem awp_seq {x y : Code} (h : AWp P nt x (andThen (AWp P nt y Q) Q) st) : AWp P nt (.seq x y) Q st := by
  intro M H0 w0 w a hi
  refine wp_seq (wp_mono (h M H0 w0 w a hi) ?_)
  rintro e a' w' ⟨s, q, i⟩
  cases e with
  | normal => exact q M H0 w0 w' a' i
  | _ => exact ⟨s, q, i⟩

/-- A block's exit. -/
def inBlock (id : Nat) (Q : Exit → St → Prop) : Exit → St → Prop
  | .exit id', s => if id' = id then Q .normal s else Q (.exit id') s
  | e, s => Q e s

theorem awp_block {id : Nat} {c : Code} (h : AWp P nt c (inBlock id Q) st) : AWp P nt (.block id c) Q st := by
  intro M H0 w0 w a hi
  refine wp_block (wp_mono (h M H0 w0 w a hi) ?_)
  rintro e a' w' ⟨s, q, i⟩
  cases e with
  | exit id' =>
    simp only [inBlock] at q
    simp only [Exit.inBlock]
    split <;> rename_i hid
    · rw [if_pos hid] at q; exact ⟨s, q, i⟩
    · rw [if_neg hid] at q; exact ⟨s, q, i⟩
  | _ => exact ⟨s, q, i⟩

theorem exists_least {p : Nat → Prop} : (∃ n, p n) → ∃ n, p n ∧ ∀ m, p m → n ≤ m := by
  rintro ⟨n, hn⟩
  induction n using Nat.strongRecOn with
  | _ n ih =>
    by_cases h : ∃ m, m < n ∧ p m
    · obtain ⟨m, hm, hp⟩ := h; exact ih m hm hp
    · exact ⟨n, hn, fun m hm => Nat.le_of_not_lt fun hlt => h ⟨m, hlt, hm⟩⟩

/-- A loop, by what holds at each round's head; the number falls with every round. -/
theorem awp_loop {c : Code} (I : Nat → St → Prop) (h0 : ∃ n, I n st)
    (round : ∀ n s, I n s → AWp P nt c (andThen (fun s' => ∃ m, m < n ∧ I m s') Q) s) : AWp P nt (.loop c) Q st := by
  classical
  intro M H0 w0 w a hi
  let J : Act → World → Nat → Prop := fun a w n => ∃ s, I n s ∧ Is M H0 w0 nt s a w
  let μ : Act → World → Nat := fun a w => if h : ∃ n, J a w n then Classical.choose (exists_least h) else 0
  have hμ : ∀ a w n, J a w n → J a w (μ a w) ∧ μ a w ≤ n := fun a w n hJ => by
    have hx : ∃ n, J a w n := ⟨n, hJ⟩
    have := Classical.choose_spec (exists_least hx)
    simp only [μ, dif_pos hx]
    exact ⟨this.1, this.2 n hJ⟩
  refine wp_loop (fun a w => ∃ n, J a w n) μ ?_ ?_
  · obtain ⟨n, hn⟩ := h0; exact ⟨n, st, hn, hi⟩
  · rintro a w ⟨n, hJ⟩
    obtain ⟨⟨s, hI, hs⟩, _⟩ := hμ a w n hJ
    refine wp_mono (round _ s hI M H0 w0 w a hs) ?_
    rintro e a' w' ⟨s', q, i'⟩
    cases e with
    | normal =>
      obtain ⟨m, hm, hI'⟩ := q
      have := hμ a' w' m ⟨s', hI', i'⟩
      exact ⟨⟨m, s', hI', i'⟩, Nat.lt_of_le_of_lt this.2 hm⟩
    | _ => exact ⟨s', q, i'⟩

/-- A branch, its test a known Bool. -/
theorem awp_cond {c : Operand} {x y : Code} (t : Nat) (hc : c = .tmp t) (b : Bool) (hb : st.tm t = .p (.lit (.bool b)))
    (h1 : b = true → AWp P nt x Q st) (h2 : b = false → AWp P nt y Q st) : AWp P nt (.cond c x y) Q st := by
  intro M H0 w0 w a hi
  subst hc
  obtain ⟨H, loc, r⟩ := hi
  have hv := r.tm t
  rw [hb] at hv
  have he : a.eval (.tmp t) = .bool b := by
    have : a.eval (.tmp t) = a.tmps.getD t undef := rfl
    rw [this]
    generalize a.tmps.getD t undef = v at hv
    cases hv with
    | p v x h => cases h; rfl
  refine wp_cond_split he (fun h => h1 h M H0 w0 w a ⟨H, loc, r⟩) (fun h => h2 h M H0 w0 w a ⟨H, loc, r⟩)

end

/-- What code answers at its end: one value, or several as a tuple. -/
def resD (st : St) : List Nat → D
  | [t] => st.tm t
  | ts => .tup (ts.map st.tm)

/-- A call, told of abstract values and objects: with objects 'obs' of the caller's, handed over, and new ones behind them. -/
def ACalls (P : Program) (f : FuncId) (args : List D) (obs : List Ob) (Q : D → List Ob → Prop) : Prop :=
  ∀ (H : HV) (loc : Nat → Loc) (w : World) (vs : Array Value), Sr H loc obs w → vs.size = args.length →
    (∀ (i : Nat) v d, vs[i]? = some v → args[i]? = some d → V H loc obs v d) →
    Calls P f vs w fun e w' => ∃ v H' loc' r obs', Q r obs' ∧ e = .returned v ∧ V H' loc' obs' v r ∧ Sr H' loc' obs' w' ∧
      Grows (fun b => ∃ (i : Nat) (o : Ob), obs[i]? = some o ∧ o.live = true ∧ (loc i).r = true ∧ (loc i).b = b) H H' w w' ∧
      (∀ (i : Nat) o, obs'[i]? = some o → o.live = true → (loc' i).r = true → (∃ (k : Nat) (o' : Ob), obs[k]? = some o' ∧ o'.live = true ∧ (loc k).r = true ∧ (loc k).b = (loc' i).b) ∨ w.heap.size ≤ (loc' i).b) ∧
      stays obs obs' loc loc'

theorem ACalls.mono {P : Program} {f : FuncId} {args : List D} {obs : List Ob} {Q Q' : D → List Ob → Prop} (h : ACalls P f args obs Q) (hq : ∀ r o, Q r o → Q' r o) : ACalls P f args obs Q' :=
  fun H loc w vs h1 h2 h3 => (h H loc w vs h1 h2 h3).mono fun _ _ ⟨v, H', loc', r, obs', q, rest⟩ => ⟨v, H', loc', r, obs', hq _ _ q, rest⟩

/-- The temporaries at a function's begin. -/
def startTm (args : List D) (t : Nat) : D := args.getD t .none

/-- A call by the function's body. -/
theorem acalls_of {P : Program} {f : FuncId} {fn : Func} {c : Code} {args : List D} {obs : List Ob} {Q : D → List Ob → Prop} (ts : List Nat)
    (hf : P.funcs[f]? = some fn) (hb : fn.body = some c) (hr : fn.results = (ts.map ResultVar.tmp).toArray) (hn : args.length ≤ fn.ntmps)
    (h : AWp P fn.ntmps c (fun e st => (e = .normal ∨ e = .ret) ∧ Q (resD st ts) st.ob) ⟨startTm args, obs, obs.length⟩) (hub : ∀ o, o ∈ obs → o ≠ .unborn) : ACalls P f args obs Q := by
  intro H loc w vs hs hvs hv
  refine calls_of_wp hf hb ?_
  let M : Nat → Prop := fun b => ∃ (i : Nat) (o : Ob), obs[i]? = some o ∧ o.live = true ∧ (loc i).r = true ∧ (loc i).b = b
  have hi : Is ⟨M, obs, loc⟩ H w fn.ntmps ⟨startTm args, obs, obs.length⟩ { tmps := vs ++ Array.replicate (fn.ntmps - vs.size) undef, defers := [] } w := by
    refine ⟨H, loc, hs, fun t => ?_, ?_, rfl, Grows.refl _ _ _, fun i o ho hl hr => .inl ⟨i, o, ho, hl, hr, rfl⟩, rfl, fun k o ho => .inr ⟨o, ho, Ob.sameShape_refl o (hub o (List.mem_of_getElem? ho)), rfl⟩⟩
    · simp only [startTm]
      by_cases ht : t < args.length
      · have h1 : args[t]? = some args[t] := List.getElem?_eq_getElem ht
        have h2 : vs[t]? = some vs[t] := Array.getElem?_eq_getElem (by omega)
        have := hv t vs[t] args[t] h2 h1
        have e1 : (vs ++ Array.replicate (fn.ntmps - vs.size) undef).getD t undef = vs[t] := by
          rw [Array.getD_eq_getD_getElem?, Array.getElem?_append_left (by omega), h2]; rfl
        rw [e1, List.getD_eq_getElem?_getD, h1]; exact this
      · have h1 : args.getD t .none = .none := by rw [List.getD_eq_getElem?_getD, List.getElem?_eq_none (by omega)]; rfl
        rw [h1]; exact .none _
    · simp; omega
  refine wp_mono (h ⟨M, obs, loc⟩ H w w _ hi) ?_
  rintro e a' w' ⟨st', ⟨he, hq⟩, H', loc', r⟩
  have hm : ∀ (F : ResultVar → Sem Value), (∀ t, F (.tmp t) = pure (a'.tmps.getD t undef)) → ∀ (l : List Nat) (w : World), ((l.map ResultVar.tmp).mapM F).run P w = .ok (l.map fun t => a'.tmps.getD t undef) w := by
    intro F hF l
    induction l with
    | nil => intro w; rfl
    | cons t l ih => intro w; simp only [List.map_cons, List.mapM_cons, Sem.run_bind, hF, Sem.run_pure, Result.andThen_ok, ih]
  have hres : ∀ w', ∃ v, (results fn a'.tmps).run P w' = .ok v w' ∧ V H' loc' st'.ob v (resD st' ts) := by
    intro w'
    unfold results
    rw [hr, List.mapM_toArray]
    simp only [Sem.run_bind, Sem.run_map, Sem.run_pure]
    rw [hm _ (fun _ => rfl)]
    simp only [Result.andThen_ok]
    refine ⟨_, rfl, ?_⟩
    match ts with
    | [t] => exact r.tm t
    | [] => exact .tup #[] [] rfl (fun i v d h1 h2 => by simp at h2)
    | t :: t' :: ts =>
      rw [dif_neg (by simp)]
      refine .tup _ _ (by simp) fun i v d h1 h2 => ?_
      simp only [List.getElem?_toArray, List.getElem?_map] at h1 h2
      cases hx : (t :: t' :: ts)[i]? with
      | none => rw [hx] at h1; cases h1
      | some k =>
        rw [hx] at h1 h2
        cases h1; cases h2
        exact r.tm k
  obtain ⟨v, hv1, hv2⟩ := hres w'
  have post : bodyPost P fn (fun e w' => ∃ v H' loc' r obs', Q r obs' ∧ e = .returned v ∧ V H' loc' obs' v r ∧ Sr H' loc' obs' w' ∧ Grows M H H' w w' ∧
      (∀ (i : Nat) o, obs'[i]? = some o → o.live = true → (loc' i).r = true → (∃ (k : Nat) (o' : Ob), obs[k]? = some o' ∧ o'.live = true ∧ (loc k).r = true ∧ (loc k).b = (loc' i).b) ∨ w.heap.size ≤ (loc' i).b) ∧ stays obs obs' loc loc') .ret a' w' :=
    ⟨r.df, v, hv1, v, H', loc', _, _, hq, rfl, hv2, r.sr, r.gr, fun i o ho hl hr => (r.own i o ho hl hr).imp (fun ⟨k, o', a, b, c, d⟩ => ⟨k, o', a, b, c, d⟩) id, r.ent⟩
  rcases he with rfl | rfl
  · exact post
  · exact post

end Go.Ab

/- Changing how objects are numbered: what an abstract state says stays true when objects are left out or numbered anew, when temporaries are forgotten, and when an object is kept from then on as data. No program is named here. -/
namespace Go.Ab

mutual
/-- A change at the leaves. -/
def D.map (g : D → D) : D → D
  | .fn f caps => .fn f (D.mapL g caps)
  | .agg cs => .agg (D.mapL g cs)
  | .tup ds => .tup (D.mapL g ds)
  | d => g d
def D.mapL (g : D → D) : List D → List D
  | [] => []
  | d :: l => D.map g d :: D.mapL g l
end

theorem D.mapL_eq (g : D → D) : ∀ l : List D, D.mapL g l = l.map (D.map g)
  | [] => rfl
  | d :: l => by simp [D.mapL, D.mapL_eq g l]

/-- What a change must do at a leaf. -/
def Leafy (g : D → D) (H H' : HV) (loc loc' : Nat → Loc) (obs obs' : List Ob) : Prop :=
  ∀ v d, V H loc obs v d → (∀ f c, d ≠ .fn f c) → (∀ c, d ≠ .agg c) → (∀ c, d ≠ .tup c) → V H' loc' obs' v (g d)

theorem V.map {g : D → D} {H H' : HV} {loc loc' : Nat → Loc} {obs obs' : List Ob} (hg : Leafy g H H' loc loc' obs obs') {v : Value} {d : D} (h : V H loc obs v d) : V H' loc' obs' v (D.map g d) := by
  have sub : ∀ (vs : Array Value) (cs : List D), vs.size = cs.length → (∀ (i : Nat) v d, vs[i]? = some v → cs[i]? = some d → V H' loc' obs' v (D.map g d)) →
      vs.size = (D.mapL g cs).length ∧ ∀ (i : Nat) v d, vs[i]? = some v → (D.mapL g cs)[i]? = some d → V H' loc' obs' v d := by
    intro vs cs hn ih
    rw [D.mapL_eq]
    refine ⟨by simp [hn], fun i v d h1 h2 => ?_⟩
    rw [List.getElem?_map] at h2
    cases hx : cs[i]? with
    | none => rw [hx] at h2; cases h2
    | some x => rw [hx] at h2; cases h2; exact ih i v x h1 hx
  induction h with
  | fn f vs caps hn h ih => simp only [D.map]; exact .fn f vs _ (sub vs caps hn ih).1 (sub vs caps hn ih).2
  | agg vs cs hn h ih => simp only [D.map]; exact .agg vs _ (sub vs cs hn ih).1 (sub vs cs hn ih).2
  | tup vs cs hn h ih => simp only [D.map]; exact .tup vs _ (sub vs cs hn ih).1 (sub vs cs hn ih).2
  | none v => exact hg _ _ (.none v) (by simp) (by simp) (by simp)
  | p v x h => exact hg _ _ (.p v x h) (by simp) (by simp) (by simp)
  | nil => exact hg _ _ .nil (by simp) (by simp) (by simp)
  | ref id off len cap s xs ho hl hc hx hr hn => exact hg _ _ (.ref id off len cap s xs ho hl hc hx hr hn) (by simp) (by simp) (by simp)
  | ref0 a id off s xs ho hl => exact hg _ _ (.ref0 a id off s xs ho hl) (by simp) (by simp) (by simp)
  | refGone v id off len ho => exact hg _ _ (.refGone v id off len ho) (by simp) (by simp) (by simp)
  | ptr id i j s xs ho => exact hg _ _ (.ptr id i j s xs ho) (by simp) (by simp) (by simp)
  | ptrBox id j cs ho => exact hg _ _ (.ptrBox id j cs ho) (by simp) (by simp) (by simp)
  | ptrGone v id i j ho => exact hg _ _ (.ptrGone v id i j ho) (by simp) (by simp) (by simp)
  | rd b o c x j g' hb hc h1 hr => exact hg _ _ (.rd b o c x j g' hb hc h1 hr) (by simp) (by simp) (by simp)
  | mp id es ho => exact hg _ _ (.mp id es ho) (by simp) (by simp) (by simp)
  | mpGone v id ho => exact hg _ _ (.mpGone v id ho) (by simp) (by simp) (by simp)
  | gref id s off len cap cs ho hl hc => exact hg _ _ (.gref id s off len cap cs ho hl hc) (by simp) (by simp) (by simp)
  | grefGone v id s off len ho => exact hg _ _ (.grefGone v id s off len ho) (by simp) (by simp) (by simp)

/-- Where a number stands in a list. -/
def idx : List Nat → Nat → Option Nat
  | [], _ => none
  | i :: l, k => if i = k then some 0 else (idx l k).map (· + 1)

theorem idx_some : ∀ {ids : List Nat} {i k : Nat}, idx ids i = some k → ids[k]? = some i
  | [], _, _, h => by cases h
  | j :: l, i, k, h => by
    unfold idx at h
    split at h
    · cases h; subst_vars; rfl
    · cases hx : idx l i with
      | none => rw [hx] at h; cases h
      | some m => rw [hx] at h; cases h; simpa using idx_some hx

/-- Numbers anew: an object has its place in the list; what is not in the list is forgotten. -/
def ren1 (ids : List Nat) : D → D
  | .ref id off len => match idx ids id with | some k => .ref k off len | none => .none
  | .ptr id i j => match idx ids id with | some k => .ptr k i j | none => .none
  | .mp id => match idx ids id with | some k => .mp k | none => .none
  | .gref id s off len => match idx ids id with | some k => .gref k s off len | none => .none
  | d => d

def renOb (g : D → D) : Ob → Ob
  | .box cs => .box (D.mapL g cs)
  | o => o

def newObs (obs : List Ob) (ids : List Nat) : List Ob := ids.map fun i => renOb (ren1 ids) (obs.getD i .dead)

theorem newObs_get {obs : List Ob} {ids : List Nat} {k i : Nat} {o : Ob} (hk : ids[k]? = some i) (ho : obs[i]? = some o) : (newObs obs ids)[k]? = some (renOb (ren1 ids) o) := by
  unfold newObs
  rw [List.getElem?_map, hk]
  simp [List.getD_eq_getElem?_getD, ho]

theorem leafy_ren (H : HV) (loc : Nat → Loc) (obs : List Ob) (ids : List Nat) : Leafy (ren1 ids) H H loc (fun k => loc (ids.getD k 0)) obs (newObs obs ids) := by
  intro v d h n1 n2 n3
  have hl : ∀ {k i : Nat}, ids[k]? = some i → (fun k => loc (ids.getD k 0)) k = loc i := fun {k i} hk => by
    simp [List.getD_eq_getElem?_getD, hk]
  cases h with
  | none v => exact .none v
  | p v x h => exact .p v x h
  | nil => exact .nil
  | ref id off len cap s xs ho h1 h2 hx hr h3 =>
    simp only [ren1]
    split
    · rename_i k hk
      have hk := idx_some hk
      rw [← hl hk] at h3 hr ⊢
      exact .ref k off len cap s xs (newObs_get hk ho) h1 h2 hx hr h3
    · exact .none _
  | ref0 a id off s xs ho h1 =>
    simp only [ren1]
    split
    · rename_i k hk; exact .ref0 a k off s xs (newObs_get (idx_some hk) ho) h1
    · exact .none _
  | refGone v id off len ho =>
    simp only [ren1]
    split
    · rename_i k hk; exact .refGone v k off len (newObs_get (idx_some hk) ho)
    · exact .none _
  | ptr id i j s xs ho =>
    simp only [ren1]
    split
    · rename_i k hk
      have hk := idx_some hk
      rw [← hl hk]
      exact .ptr k i j s xs (newObs_get hk ho)
    · exact .none _
  | ptrBox id j cs ho =>
    simp only [ren1]
    split
    · rename_i k hk
      have hk := idx_some hk
      rw [← hl hk]
      exact .ptrBox k j _ (newObs_get hk ho)
    · exact .none _
  | ptrGone v id i j ho =>
    simp only [ren1]
    split
    · rename_i k hk; exact .ptrGone v k i j (newObs_get (idx_some hk) ho)
    · exact .none _
  | rd b o c x j g hb hc h1 hr => exact .rd b o c x j g hb hc h1 hr
  | mp id es ho =>
    simp only [ren1]
    split
    · rename_i k hk
      have hk := idx_some hk
      rw [← hl hk]
      exact .mp k es (newObs_get hk ho)
    · exact .none _
  | mpGone v id ho =>
    simp only [ren1]
    split
    · rename_i k hk; exact .mpGone v k (newObs_get (idx_some hk) ho)
    · exact .none _
  | gref id s off len cap cs ho h1 h2 =>
    simp only [ren1]
    split
    · rename_i k hk
      have hk := idx_some hk
      rw [← hl hk]
      exact .gref k s off len cap _ (newObs_get hk ho) (by rw [D.mapL_eq, List.length_map]; exact h1) h2
    · exact .none _
  | grefGone v id s off len ho =>
    simp only [ren1]
    split
    · rename_i k hk; exact .grefGone v k s off len (newObs_get (idx_some hk) ho)
    · exact .none _
  | fn f vs caps hn h => exact absurd rfl (n1 f caps)
  | agg vs cs hn h => exact absurd rfl (n2 cs)
  | tup vs cs hn h => exact absurd rfl (n3 cs)

theorem renOb_live (g : D → D) (o : Ob) : (renOb g o).live = o.live := by cases o <;> rfl

theorem holds_map {g : D → D} {H H' : HV} {loc loc' : Nat → Loc} {obs obs' : List Ob} {w : World} (hg : Leafy g H H' loc loc' obs obs') (hH : HLe H H') {l : Loc} {o : Ob}
    (h : o.holds H loc obs w l) : (renOb g o).holds H' loc' obs' w l := by
  cases o with
  | dead => trivial
  | unborn => trivial
  | row s xs => 
    rcases h with h | ⟨hr, c, e, h1, h2, h3, h4, h5⟩
    · exact .inl h
    refine .inr ⟨hr, c, e, h1, h2, h3, h4, fun i x hi j y hj => ?_⟩
    obtain ⟨v, a, b, c⟩ := h5 i x hi j y hj
    exact ⟨v, a, b, c.mono hH⟩
  | box cs =>
    obtain ⟨hr, c, e, h1, h2, h3, h5⟩ := h
    refine ⟨hr, c, e, h1, h2, by rw [D.mapL_eq]; simpa using h3, fun j d hj => ?_⟩
    rw [D.mapL_eq, List.getElem?_map] at hj
    cases hx : cs[j]? with
    | none => rw [hx] at hj; cases hj
    | some x =>
      rw [hx] at hj; cases hj
      obtain ⟨v, a, b, c⟩ := h5 j x hx
      exact ⟨v, a, b, c.map hg⟩
  | map es =>
    obtain ⟨hr, c, e, h1, h2, h5⟩ := h
    refine ⟨hr, c, e, h1, h2, fun i k x hi => ?_⟩
    obtain ⟨m, a, b, c, d⟩ := h5 i k x hi
    exact ⟨m, a, b, c, d.mono hH⟩

theorem newObs_of {obs : List Ob} {ids : List Nat} {k : Nat} {o : Ob} (h : (newObs obs ids)[k]? = some o) : ∃ i o', ids[k]? = some i ∧ o = renOb (ren1 ids) o' ∧ (obs[i]? = some o' ∨ o' = .dead) := by
  unfold newObs at h
  rw [List.getElem?_map] at h
  cases hx : ids[k]? with
  | none => rw [hx] at h; cases h
  | some i =>
    rw [hx] at h
    cases h
    refine ⟨i, _, rfl, rfl, ?_⟩
    rw [List.getD_eq_getElem?_getD]
    cases hy : obs[i]? with
    | none => exact .inr rfl
    | some o => exact .inl rfl

theorem nodup_get {α : Type} : ∀ {l : List α} {i j : Nat} {x : α}, l.Nodup → l[i]? = some x → l[j]? = some x → i = j
  | [], i, _, _, _, h, _ => by simp at h
  | y :: l, 0, 0, _, _, _, _ => rfl
  | y :: l, 0, j + 1, x, h, h1, h2 => by
    simp at h1 h2
    rw [List.nodup_cons] at h
    exact absurd (h1 ▸ List.mem_of_getElem? h2) h.1
  | y :: l, i + 1, 0, x, h, h1, h2 => by
    simp at h1 h2
    rw [List.nodup_cons] at h
    exact absurd (h2 ▸ List.mem_of_getElem? h1) h.1
  | y :: l, i + 1, j + 1, x, h, h1, h2 => by
    simp at h1 h2
    rw [List.nodup_cons] at h
    rw [nodup_get h.2 h1 h2]

theorem Sr.ren {H : HV} {loc : Nat → Loc} {obs : List Ob} {w : World} (h : Sr H loc obs w) {ids : List Nat} (hd : ids.Nodup) : Sr H (fun k => loc (ids.getD k 0)) (newObs obs ids) w := by
  have hl : ∀ {k i : Nat}, ids[k]? = some i → loc (ids.getD k 0) = loc i := fun {k i} hk => by simp [List.getD_eq_getElem?_getD, hk]
  have hlive : ∀ {k : Nat} {o : Ob}, (newObs obs ids)[k]? = some o → o.live = true → ∃ i o', ids[k]? = some i ∧ obs[i]? = some o' ∧ o'.live = true := fun {k o} ho hv => by
    obtain ⟨i, o', hi, rfl, hx⟩ := newObs_of ho
    rw [renOb_live] at hv
    rcases hx with hx | rfl
    · exact ⟨i, o', hi, hx, hv⟩
    · cases hv
  refine ⟨h.heap, fun k o ho => ?_, fun k o ho hv hr => ?_, fun k j o o' ho ho' hv hv' hr hr' e => ?_⟩
  · obtain ⟨i, o', hi, rfl, hx⟩ := newObs_of ho
    rcases hx with hx | rfl
    · show Ob.holds _ _ _ _ (loc (ids.getD k 0)) _
      rw [hl hi]
      exact holds_map (leafy_ren H loc obs ids) (.refl H) (h.obj i o' hx)
    · trivial
  · obtain ⟨i, o', hi, hx, hv'⟩ := hlive ho hv
    show H (loc (ids.getD k 0)).b = none
    have hr2 : (loc (ids.getD k 0)).r = true := hr
    rw [hl hi] at hr2 ⊢; exact h.apart i o' hx hv' hr2
  · obtain ⟨i, x, hi, hx, hxv⟩ := hlive ho hv
    obtain ⟨i', x', hi', hx', hxv'⟩ := hlive ho' hv'
    have e' : (loc (ids.getD k 0)).b = (loc (ids.getD j 0)).b := e
    have hr2 : (loc (ids.getD k 0)).r = true := hr
    have hr3 : (loc (ids.getD j 0)).r = true := hr'
    rw [hl hi, hl hi'] at e'
    rw [hl hi] at hr2
    rw [hl hi'] at hr3
    have := h.inj i i' x x' hx hx' hxv hxv' hr2 hr3 e'
    subst this
    exact nodup_get hd hi hi'

/-- Forgets temporaries, all but some. -/
def keepTm (ts : List Nat) (f : Nat → D) : Nat → D := ofL (ts.map fun t => (t, f t))

theorem keepTm_is (ts : List Nat) (f : Nat → D) (t : Nat) : keepTm ts f t = f t ∨ keepTm ts f t = .none := by
  unfold keepTm
  induction ts with
  | nil => exact .inr rfl
  | cons k l ih =>
    simp only [List.map_cons, ofL]
    split
    · rename_i h; subst h; exact .inl rfl
    · exact ih

/-- The state with some temporaries alone, the objects numbered anew. -/
def St.cut (ts ids : List Nat) (st : St) : St := ⟨ofL (ts.map fun t => (t, D.map (ren1 ids) (st.tm t))), newObs st.ob ids, st.n0⟩

theorem Is.cut {M : En} {H0 : HV} {w0 : World} {nt : Nat} {st : St} {a : Act} {w : World} (h : Is M H0 w0 nt st a w) (ts : List Nat) {ids : List Nat} (hd : ids.Nodup) (hp : ∀ k, k < st.n0 → ids[k]? = some k) :
    Is M H0 w0 nt (st.cut ts ids) a w := by
  obtain ⟨H, loc, r⟩ := h
  refine ⟨H, fun k => loc (ids.getD k 0), r.sr.ren hd, fun t => ?_, r.sz, r.df, r.gr, fun k o ho hv hr => ?_, r.n0, fun k o ho => ?_⟩
  · have e : (st.cut ts ids).tm t = keepTm ts (fun t => D.map (ren1 ids) (st.tm t)) t := rfl
    rw [e]
    rcases keepTm_is ts (fun t => D.map (ren1 ids) (st.tm t)) t with h | h
    · rw [h]; exact (r.tm t).map (leafy_ren H loc st.ob ids)
    · rw [h]; exact .none _
  · obtain ⟨i, o', hi, rfl, hx⟩ := newObs_of ho
    rw [renOb_live] at hv
    have hl : loc (ids.getD k 0) = loc i := by simp [List.getD_eq_getElem?_getD, hi]
    have hr2 : (loc (ids.getD k 0)).r = true := hr
    show M.M (loc (ids.getD k 0)).b ∨ _ ≤ (loc (ids.getD k 0)).b
    rw [hl] at hr2 ⊢
    rcases hx with hx | rfl
    · exact r.own i o' hx hv hr2
    · cases hv
  · have hk : k < st.n0 := by
      rw [← r.n0]
      rcases Nat.lt_or_ge k M.ob.length with h' | h'
      · exact h'
      · simp [List.getElem?_eq_none h'] at ho
    have hk2 := hp k hk
    have hl : loc (ids.getD k 0) = loc k := by simp [List.getD_eq_getElem?_getD, hk2]
    rcases r.ent k o ho with h1 | ⟨o', h1, h2, h3⟩
    · exact .inl (newObs_get hk2 h1)
    · refine .inr ⟨_, newObs_get hk2 h1, ?_, ?_⟩
      · cases o' <;> cases o <;> simp_all [Ob.sameShape, renOb, D.mapL_eq]
      · show loc (ids.getD k 0) = _
        rw [hl]; exact h3

/-- Temporaries alone are forgotten. -/
def St.keep (ts : List Nat) (st : St) : St := ⟨ofL (ts.map fun t => (t, st.tm t)), st.ob, st.n0⟩

theorem Is.keep {M : En} {H0 : HV} {w0 : World} {nt : Nat} {st : St} {a : Act} {w : World} (h : Is M H0 w0 nt st a w) (ts : List Nat) : Is M H0 w0 nt (st.keep ts) a w := by
  obtain ⟨H, loc, r⟩ := h
  refine ⟨H, loc, r.sr, fun t => ?_, r.sz, r.df, r.gr, r.own, r.n0, r.ent⟩
  have e : (st.keep ts).tm t = keepTm ts st.tm t := rfl
  rw [e]
  rcases keepTm_is ts st.tm t with h | h
  · rw [h]; exact r.tm t
  · rw [h]; exact .none _

/-- A state that says no more than another one. -/
def St.le (s s' : St) : Prop := s.ob = s'.ob ∧ s.n0 = s'.n0 ∧ ∀ t, s'.tm t = s.tm t ∨ s'.tm t = .none

theorem Is.le {M : En} {H0 : HV} {w0 : World} {nt : Nat} {s s' : St} {a : Act} {w : World} (h : Is M H0 w0 nt s a w) (hl : s.le s') : Is M H0 w0 nt s' a w := by
  obtain ⟨H, loc, r⟩ := h
  obtain ⟨tm, ob, n0⟩ := s
  obtain ⟨tm', ob', n0'⟩ := s'
  obtain ⟨e, e', ht⟩ := hl
  dsimp only at e e'
  subst e
  subst e'
  refine ⟨H, loc, r.sr, fun t => ?_, r.sz, r.df, r.gr, r.own, r.n0, r.ent⟩
  rcases ht t with h | h
  · dsimp only at h ⊢; rw [h]; exact r.tm t
  · dsimp only at h ⊢; rw [h]; exact .none _

end Go.Ab

/- The operations over abstract states: what each answers, as a function that can be unfolded; and that the model's operation comes to just that. No program is named here. -/
namespace Go.Ab

/-- One operation, told of abstract states. -/
def OpS (P : Program) (nt : Nat) (o : Oper) (st : St) (K : D → St → Prop) : Prop :=
  ∀ M H0 w0 w a, Is M H0 w0 nt st a w → ∀ (next : Act → World → Prop) (Q : Exit → Act → World → Prop),
    (∀ d st' v w' H loc, K d st' → Rel M H0 w0 nt H loc w' st' a → V H loc st'.ob v d → next (a.put o.dst v) w') → o.wp P a w next Q

/-- An operation that answers a value. -/
theorem opS_val {P : Program} {nt : Nat} {o : Oper} {st : St} {K : D → St → Prop}
    (h : ∀ M H0 w0 H loc w a, Rel M H0 w0 nt H loc w st a → ∃ v w' H' loc' d st', (execOp a.eval o).run P w = .ok (.value v) w' ∧ K d st' ∧ V H' loc' st'.ob v d ∧ Rel M H0 w0 nt H' loc' w' st' a) : OpS P nt o st K := by
  rintro M H0 w0 w a ⟨H, loc, r⟩ next Q hn
  obtain ⟨v, w', H', loc', d, st', h1, h2, h3, h4⟩ := h M H0 w0 H loc w a r
  unfold Oper.wp
  rw [h1, Oper.upon_value]
  exact hn d st' v w' H' loc' h2 h4 h3

/-- An operation that answers a value out of what is known alone. -/
theorem opS_pure {P : Program} {nt : Nat} {o : Oper} {st : St} {K : D → St → Prop} (d : D) (hK : K d st)
    (h : ∀ M H0 w0 H loc w a, Rel M H0 w0 nt H loc w st a → ∃ v, (execOp a.eval o).run P w = .ok (.value v) w ∧ V H loc st.ob v d) : OpS P nt o st K :=
  opS_val fun M H0 w0 H loc w a r => let ⟨v, h1, h2⟩ := h M H0 w0 H loc w a r; ⟨v, w, H, loc, d, st, h1, hK, h2, r⟩

/-- An operation that writes. -/
theorem opS_skip {P : Program} {nt : Nat} {o : Oper} {st : St} {K : D → St → Prop}
    (h : ∀ M H0 w0 H loc w a, Rel M H0 w0 nt H loc w st a → ∃ w' H' loc' st', (execOp a.eval o).run P w = .ok .skip w' ∧ K (.p (.lit undef)) st' ∧ Rel M H0 w0 nt H' loc' w' st' a) : OpS P nt o st K := by
  rintro M H0 w0 w a ⟨H, loc, r⟩ next Q hn
  obtain ⟨w', H', loc', st', h1, h2, h4⟩ := h M H0 w0 H loc w a r
  unfold Oper.wp
  rw [h1, Oper.upon_skip]
  exact hn _ st' undef w' H' loc' h2 h4 (.p _ _ (.lit _))

/-- A temporary is set. -/
def St.put (st : St) (dst : Option Tmp) (d : D) : St :=
  match dst with
  | some t => ⟨fun k => if t = k then d else st.tm k, st.ob, st.n0⟩
  | none => st

def dstOk (nt : Nat) : Option Tmp → Prop
  | some t => t < nt
  | none => True

theorem Rel.put {M : En} {H0 : HV} {w0 : World} {nt : Nat} {H : HV} {loc : Nat → Loc} {w : World} {st : St} {a : Act} (r : Rel M H0 w0 nt H loc w st a) {dst : Option Tmp} (hd : dstOk nt dst)
    {v : Value} {d : D} (hv : V H loc st.ob v d) : Rel M H0 w0 nt H loc w (st.put dst d) (a.put dst v) := by
  cases dst with
  | none => exact r
  | some t =>
    refine ⟨r.sr, fun k => ?_, ?_, r.df, r.gr, r.own, r.n0, r.ent⟩
    · show V H loc st.ob ((a.tmps.setIfInBounds t v).getD k undef) (if t = k then d else st.tm k)
      have hsz := r.sz
      split
      · rename_i h; subst h
        have : (a.tmps.setIfInBounds t v).getD t undef = v := by
          rw [Array.getD_eq_getD_getElem?, Array.getElem?_setIfInBounds]
          have : t < a.tmps.size := by rw [hsz]; exact hd
          simp [this]
        rw [this]; exact hv
      · rename_i h
        have : (a.tmps.setIfInBounds t v).getD k undef = a.tmps.getD k undef := by
          rw [Array.getD_eq_getD_getElem?, Array.getElem?_setIfInBounds, Array.getD_eq_getD_getElem?, if_neg h]
        rw [this]; exact r.tm k
    · show (a.tmps.setIfInBounds t v).size = nt
      rw [Array.size_setIfInBounds]; exact r.sz

/-- A guarded operation's guard. -/
def guardD (ops : Array Oper) (st : St) (j : Nat) : D :=
  match (ops[j]?).bind (·.dst) with
  | some t => st.tm t
  | none => .none

/-- A list of operations, unfolded one by one. -/
def alist (A : Oper → St → (D → St → Prop) → Prop) (nt : Nat) (ops : Array Oper) : List Oper → St → (St → Prop) → Prop
  | [], st, K => K st
  | o :: rest, st, K =>
    match o.guard with
    | none => dstOk nt o.dst ∧ A o st fun d st' => alist A nt ops rest (st'.put o.dst d) K
    | some (j, want) =>
      match guardD ops st j with
      | .p (.lit (.bool b)) => dstOk nt o.dst ∧ (b = want → A o st fun d st' => alist A nt ops rest (st'.put o.dst d) K) ∧ (b = !want → alist A nt ops rest (st.put o.dst (.p (.lit undef))) K)
      | .p (.lit (.tuple vs)) => dstOk nt o.dst ∧ alist A nt ops rest (st.put o.dst (.p (.lit undef))) K
      | _ => False

theorem yielded_of {M : En} {H0 : HV} {w0 : World} {nt : Nat} {H : HV} {loc : Nat → Loc} {w : World} {st : St} {a : Act} (r : Rel M H0 w0 nt H loc w st a) {ops : Array Oper} {j : Nat} {x : Value}
    (hg : guardD ops st j = .p (.lit x)) : yielded ops a.tmps j = match x with | .bool b => some b | _ => none := by
  unfold guardD at hg
  unfold yielded
  cases ht : (ops[j]?).bind (·.dst) with
  | none => rw [ht] at hg; cases hg
  | some t =>
    rw [ht] at hg
    dsimp only at hg
    have := r.tm t
    rw [hg] at this
    simp only [Option.bind_some]
    have hx : a.tmps.getD t undef = x := by
      generalize a.tmps.getD t undef = v at this
      cases this with
      | p v y h => cases h; rfl
    rw [Array.getD_eq_getD_getElem?] at hx
    cases hy : a.tmps[t]? with
    | none => rw [hy] at hx; subst hx; rfl
    | some v => rw [hy] at hx; simp at hx; subst hx; cases v <;> rfl

theorem alist_sound {P : Program} {nt : Nat} {A : Oper → St → (D → St → Prop) → Prop} (hA : ∀ o st K, A o st K → OpS P nt o st K) {ops : Array Oper} : ∀ (l : List Oper) (st : St) (K : St → Prop),
    alist A nt ops l st K → AOps P nt ops l K st
  | [], st, K, h => fun M H0 w0 w a hi => ⟨rfl, st, h, hi⟩
  | o :: rest, st, K, h => by
    intro M H0 w0 w a hi
    have goOn : ∀ st', dstOk nt o.dst → ∀ v d H loc w', alist A nt ops rest (st'.put o.dst d) K → Rel M H0 w0 nt H loc w' st' a → V H loc st'.ob v d →
        wpList P ops (fun e a' w' => e = .normal ∧ ∃ st', K st' ∧ Is M H0 w0 nt st' a' w') rest (a.put o.dst v) w' := fun st' hd v d H loc w' hk r hv =>
      alist_sound hA rest _ K hk M H0 w0 w' _ ⟨H, loc, r.put hd hv⟩
    have run : dstOk nt o.dst → (A o st fun d st' => alist A nt ops rest (st'.put o.dst d) K) →
        o.wp P a w (wpList P ops (fun e a' w' => e = .normal ∧ ∃ st', K st' ∧ Is M H0 w0 nt st' a' w') rest) (fun e a' w' => e = .normal ∧ ∃ st', K st' ∧ Is M H0 w0 nt st' a' w') := fun hd ha =>
      hA _ _ _ ha M H0 w0 w a hi _ _ fun d st' v w' H loc hk r hv => goOn st' hd v d H loc w' hk r hv
    have skip : dstOk nt o.dst → alist A nt ops rest (st.put o.dst (.p (.lit undef))) K →
        wpList P ops (fun e a' w' => e = .normal ∧ ∃ st', K st' ∧ Is M H0 w0 nt st' a' w') rest (a.put o.dst undef) w := fun hd ha => by
      obtain ⟨H, loc, r⟩ := hi
      exact goOn st hd undef _ H loc w ha r (.p _ _ (.lit _))
    obtain ⟨H, loc, r⟩ := hi
    unfold alist at h
    unfold wpList
    cases hg : o.guard with
    | none =>
      rw [hg] at h
      rw [if_pos (by simp [Region.wanted, hg])]
      exact .inl (run h.1 h.2)
    | some jw =>
      obtain ⟨j, want⟩ := jw
      rw [hg] at h
      dsimp only at h
      split at h
      · rename_i b hb
        have hy := yielded_of r hb
        dsimp only at hy
        simp only [Region.wanted, hg, hy]
        by_cases e : b = want
        · subst e; simp only [beq_self_eq_true, if_true]; exact .inl (run h.1 (h.2.1 rfl))
        · have e' : b = !want := by cases b <;> cases want <;> simp_all
          have : (some b == some want) = false := by subst e'; cases want <;> rfl
          rw [this]
          exact skip h.1 (h.2.2 e')
      · rename_i vs hb
        have hy := yielded_of r hb
        dsimp only at hy
        simp only [Region.wanted, hg, hy]
        exact skip h.1 h.2
      · exact h.elim

end Go.Ab

/- The operations that make no memory and write none: operands, arithmetic, tests, tuples, addresses, loads, lengths. No program is named here. -/
namespace Go.Ab

/-- A constant cell. -/
def constC : Value → D
  | .slice none 0 0 => .nil
  | v => .p (.lit v)

/-- A constant. -/
def constD : Value → D
  | .slice none 0 0 => .nil
  | .agg vs => .agg (vs.toList.map constC)
  | v => .p (.lit v)

theorem V.constC {H : HV} {loc : Nat → Loc} {obs : List Ob} (v : Value) : V H loc obs v (constC v) := by
  unfold Ab.constC
  split
  · exact .nil
  · exact .p _ _ (.lit _)

theorem V.cells_const {H : HV} {loc : Nat → Loc} {obs : List Ob} (vs : Array Value) : V H loc obs (.agg vs) (.agg (vs.toList.map Ab.constC)) := by
  refine .agg vs _ (by simp) fun i v d h1 h2 => ?_
  rw [List.getElem?_map, Array.getElem?_toList, h1] at h2
  cases h2
  exact V.constC v

theorem V.constD {H : HV} {loc : Nat → Loc} {obs : List Ob} (v : Value) : V H loc obs v (constD v) := by
  unfold Ab.constD
  split
  · exact .nil
  · exact V.cells_const _
  · exact .p _ _ (.lit _)

/-- An operand. -/
def St.ev (st : St) : Operand → D
  | .tmp t => st.tm t
  | .const v => constD v
  | .func f => .fn f []
  | .global _ => .none

theorem Rel.ev {M : En} {H0 : HV} {w0 : World} {nt : Nat} {H : HV} {loc : Nat → Loc} {w : World} {st : St} {a : Act} (r : Rel M H0 w0 nt H loc w st a) (x : Operand) :
    V H loc st.ob (a.eval x) (st.ev x) := by
  cases x with
  | tmp t => exact r.tm t
  | const v => exact V.constD v
  | global g => exact .none _
  | func f => exact .fn f #[] [] rfl (fun i v d h1 h2 => by simp at h2)

theorem V.lit_inv {H : HV} {loc : Nat → Loc} {obs : List Ob} {v x : Value} (h : V H loc obs v (.p (.lit x))) : v = x := by
  cases h with
  | p v y h => cases h; rfl

abbrev iD (n : Int) : D := .p (.lit (.int .i64 n))
abbrev bD (b : Bool) : D := .p (.lit (.bool b))

/-- Whole numbers. -/
def intBin (op : BinOp) (k : IntKind) (a b : Int) (K : D → Prop) : Prop :=
  match op with
  | .add => K (.p (.lit (.int k (k.wrap (a + b)))))
  | .sub => K (.p (.lit (.int k (k.wrap (a - b)))))
  | .mul => K (.p (.lit (.int k (k.wrap (a * b)))))
  | .quo => b ≠ 0 ∧ K (.p (.lit (.int k (k.wrap (a.tdiv b)))))
  | .rem => b ≠ 0 ∧ K (.p (.lit (.int k (a.tmod b))))
  | .and => K (.p (.lit (.int k (bits .and k a b))))
  | .or => K (.p (.lit (.int k (bits .or k a b))))
  | .xor => K (.p (.lit (.int k (bits .xor k a b))))
  | .eql => K (bD (a == b))
  | .neq => K (bD (a != b))
  | .lss => K (bD (decide (a < b)))
  | .leq => K (bD (decide (a ≤ b)))
  | .gtr => K (bD (decide (a > b)))
  | .geq => K (bD (decide (a ≥ b)))
  | _ => False

/-- What an operator answers. 'flatT t': a struct or array type whose cells are compared one by one. -/
def abin (flatT : TypeId → Bool) (op : BinOp) (t : TypeId) (x y : D) (K : D → Prop) : Prop :=
  match x, y with
  | .p (.lit (.int k a)), .p (.lit (.int k' b)) =>
    match op with
    | .shl => 0 ≤ b ∧ K (.p (.lit (.int k (k.wrap (a * 2 ^ (min b.toNat k.bits))))))
    | .shr => 0 ≤ b ∧ K (.p (.lit (.int k (a.fdiv (2 ^ (min b.toNat k.bits))))))
    | op => k = k' ∧ intBin op k a b K
  | .p (.lit (.string a)), .p (.lit (.string b)) =>
    match op with
    | .eql => K (bD (a.toList == b.toList))
    | .neq => K (bD (!(a.toList == b.toList)))
    | .add => ((a.size + b.size : Nat) : Int) ≤ 9223372036854775807 ∧ K (.p (.lit (.string (a ++ b))))
    | _ => False
  | _, _ => False

theorem abin_sound {P : Program} {flatT : TypeId → Bool} {op : BinOp} {t : TypeId} {x y : D} {K : D → Prop} (h : abin flatT op t x y K) {H : HV} {loc : Nat → Loc} {obs : List Ob} {vx vy : Value} (hx : V H loc obs vx x) (hy : V H loc obs vy y) (w : World) :
    ∃ v d, (binOp op t vx vy).run P w = .ok v w ∧ K d ∧ V H loc obs v d := by
  unfold abin at h
  split at h
  · rename_i k a k' b
    have := hx.lit_inv; subst this
    have := hy.lit_inv; subst this
    split at h
    · refine ⟨_, _, ?_, h.2, .p _ _ (.lit _)⟩
      simp [binOp, Op.shift, show ¬ b < 0 by omega]
    · refine ⟨_, _, ?_, h.2, .p _ _ (.lit _)⟩
      simp [binOp, Op.shift, show ¬ b < 0 by omega]
    · rename_i h1 h2
      obtain ⟨rfl, h⟩ := h
      cases op <;> simp only [intBin] at h
      case add => exact ⟨_, _, by simp [binOp, Op.intArith], h, .p _ _ (.lit _)⟩
      case sub => exact ⟨_, _, by simp [binOp, Op.intArith], h, .p _ _ (.lit _)⟩
      case mul => exact ⟨_, _, by simp [binOp, Op.intArith], h, .p _ _ (.lit _)⟩
      case quo => exact ⟨_, _, by simp [binOp, Op.intDiv, h.1], h.2, .p _ _ (.lit _)⟩
      case rem => exact ⟨_, _, by simp [binOp, Op.intDiv, h.1], h.2, .p _ _ (.lit _)⟩
      case and => exact ⟨.int k (bits .and k a b), _, by simp [binOp, Op.intBits]; rfl, h, .p _ _ (.lit _)⟩
      case or => exact ⟨.int k (bits .or k a b), _, by simp [binOp, Op.intBits]; rfl, h, .p _ _ (.lit _)⟩
      case xor => exact ⟨.int k (bits .xor k a b), _, by simp [binOp, Op.intBits]; rfl, h, .p _ _ (.lit _)⟩
      all_goals first
        | exact h.elim
        | exact ⟨_, _, by simp only [binOp, Op.intCmp, ne_eq, not_true_eq_false, if_false, Sem.run_pure], h, .p _ _ (.lit _)⟩
  · rename_i a b
    have := hx.lit_inv; subst this
    have := hy.lit_inv; subst this
    split at h
    · exact ⟨_, _, by simp only [binOp, Op.stringOp, Sem.run_pure], h, .p _ _ (.lit _)⟩
    · exact ⟨_, _, by simp only [binOp, Op.stringOp, Sem.run_pure], h, .p _ _ (.lit _)⟩
    · have := h.1
      refine ⟨.string (a ++ b), _, ?_, h.2, .p _ _ (.lit _)⟩
      simp only [binOp, Op.stringOp, IntKind.max, IntKind.signed, IntKind.bits]
      rw [if_neg (by simp; omega)]; rfl
    · exact h.elim
  · exact h.elim

end Go.Ab

/- Addresses and loads over abstract states. No program is named here. -/
namespace Go.Ab

/-- A type: is it a struct or an array, and how many cells has it? -/
def tyO (P : Program) (t : TypeId) : Option (Bool × Nat) :=
  match P.underlying t, P.info? t with
  | some (.struct _), some i => some (true, i.size)
  | some (.array _ _), some i => some (true, i.size)
  | some _, some i => some (false, i.size)
  | _, _ => none

/-- Where a field begins in a struct. -/
def fdO (P : Program) (s : TypeId) (f : Nat) : Option Nat :=
  match P.underlying s with
  | some (.struct fs) => (fs[f]?).bind fun x => (P.info? x.type).bind fun i => if i.size = 0 then none else some x.offset
  | _ => none

/-- A slice's element: its cells and its bytes. -/
def elO (P : Program) (t : TypeId) : Option (Nat × Nat) :=
  match P.underlying t with
  | some (.slice e) => (P.info? e).map fun i => (i.size, i.bytes)
  | _ => none

/-- An array's length, and its element's cells. -/
def arO (P : Program) (t : TypeId) : Option (Nat × Nat) :=
  match P.underlying t with
  | some (.array n e) => (P.info? e).map fun i => (n, i.size)
  | _ => none

theorem run_isAgg_of {P : Program} {t : TypeId} {g : Bool} {n : Nat} (h : tyO P t = some (g, n)) (w : World) : (isAgg t).run P w = .ok g w ∧ (sizeOf t).run P w = .ok n w := by
  unfold tyO at h
  cases hu : P.underlying t with
  | none => rw [hu] at h; cases h
  | some d =>
    cases hi : P.info? t with
    | none => rw [hu, hi] at h; cases d <;> cases h
    | some i =>
      rw [hu, hi] at h
      have h1 : (underlying t).run P w = .ok d w := run_underlying hu w
      constructor
      · unfold isAgg
        cases d <;> simp at h <;> simp [h1, h]
      · cases d <;> simp at h <;> simp [sizeOf, typeInfo, hi, h]

/-- The cells behind an address. -/
def derefD (ob : List Ob) : D → Option (List D)
  | .ptr id i j =>
    match ob[id]? with
    | some (.row s xs) => match xs[i]? with | some x => if j ≤ s then some ((x.drop j).map .p) else none | none => none
    | some (.box cs) => if i = 0 then some (cs.drop j) else none
    | _ => none
  | .rd x j => some ((x.drop j).map .p)
  | _ => none

theorem deref_cells {H : HV} {loc : Nat → Loc} {obs : List Ob} {w : World} (hs : Sr H loc obs w) {v : Value} {d : D} {cs : List D} (hv : V H loc obs v d) (hd : derefD obs d = some cs) :
    ∃ b o, v = .pointer (some ⟨b, o, none⟩) ∧ ∀ (k : Nat) y, cs[k]? = some y → ∃ u, w.cell? ⟨b, o + k, none⟩ = some u ∧ u.oneCell' = true ∧ V H loc obs u y := by
  have cell : ∀ b o (c : Array Value) e f u, w.heap[b]? = some (.cells c e f) → c[o]? = some u → w.cell? ⟨b, o, none⟩ = some u := fun b o c e f u h1 h2 => by
    simp [World.cell?, h1, h2]
  cases hv with
  | ptr id i j s xs ho =>
    simp only [derefD, ho] at hd
    split at hd
    · rename_i x hx
      split at hd
      · rename_i hj
        cases hd
        rcases hs.obj id _ ho with ⟨_, rfl⟩ | ⟨_, c, e, h1, h2, h3, h4, h5⟩
        · simp at hx
        refine ⟨_, _, rfl, fun k y hk => ?_⟩
        rw [List.getElem?_map, List.getElem?_drop] at hk
        cases hy : x[j + k]? with
        | none => rw [hy] at hk; cases hk
        | some z =>
          rw [hy] at hk; cases hk
          obtain ⟨u, a, b, c'⟩ := h5 i x hx (j + k) z hy
          exact ⟨u, cell _ _ c e _ u h1 (by rw [show (loc id).o + i * s + j + k = (loc id).o + i * s + (j + k) by omega]; exact a), b, .p _ _ c'⟩
      · cases hd
    · cases hd
  | ptrBox id j cs' ho =>
    simp only [derefD, ho, if_true] at hd
    cases hd
    obtain ⟨_, c, e, h1, h2, h3, h5⟩ := hs.obj id _ ho
    refine ⟨_, _, rfl, fun k y hk => ?_⟩
    rw [List.getElem?_drop] at hk
    obtain ⟨u, a, b, c'⟩ := h5 (j + k) y hk
    exact ⟨u, cell _ _ c e _ u h1 (by rw [show (loc id).o + j + k = (loc id).o + (j + k) by omega]; exact a), b, c'⟩
  | ptrGone v id i j ho => simp only [derefD, ho] at hd; cases hd
  | rd b o c x j g hb hc h1 hr =>
    simp only [derefD] at hd
    cases hd
    obtain ⟨c', e, f, hw, hp⟩ := hs.heap b c hb
    refine ⟨_, _, rfl, fun k y hk => ?_⟩
    rw [List.getElem?_map, List.getElem?_drop] at hk
    cases hy : x[j + k]? with
    | none => rw [hy] at hk; cases hk
    | some z =>
      rw [hy] at hk; cases hk
      exact ⟨g (j + k), cell _ _ c' e f _ hw (by rw [show o + j + k = o + (j + k) by omega]; exact hp _ _ (hc _ _ hy)), h1 _ _ hy, .p _ _ (hr _ _ hy)⟩
  | none => simp [derefD] at hd
  | p => simp [derefD] at hd
  | nil => simp [derefD] at hd
  | ref => simp [derefD] at hd
  | ref0 => simp [derefD] at hd
  | refGone => simp [derefD] at hd
  | mp => simp [derefD] at hd
  | mpGone => simp [derefD] at hd
  | gref => simp [derefD] at hd
  | grefGone => simp [derefD] at hd
  | fn => simp [derefD] at hd
  | agg => simp [derefD] at hd
  | tup => simp [derefD] at hd

/-- What a load answers: a struct's or an array's cells together, or the one cell. -/
def loadD (g : Bool) (n : Nat) (cs : List D) : Option D :=
  if g then (if n ≤ cs.length then some (.agg (cs.take n)) else none) else cs[0]?

theorem load_of {P : Program} {H : HV} {loc : Nat → Loc} {obs : List Ob} {w : World} (hs : Sr H loc obs w) {v : Value} {d : D} {cs : List D} (hv : V H loc obs v d) (hd : derefD obs d = some cs)
    {t : TypeId} {g : Bool} {n : Nat} (ht : tyO P t = some (g, n)) {r : D} (hl : loadD g n cs = some r) : ∃ u, (Instr.loadAt t v).run P w = .ok u w ∧ V H loc obs u r := by
  obtain ⟨b, o, rfl, hc⟩ := deref_cells hs hv hd
  have ha := (run_isAgg_of ht w).1
  have hz := (run_isAgg_of ht w).2
  unfold loadD at hl
  cases g with
  | true =>
    simp only [if_true] at hl
    split at hl
    · rename_i hn
      cases hl
      have hx : ∀ k, k < n → ∃ u, w.cell? ⟨b, o + k, none⟩ = some u ∧ u.oneCell' = true ∧ ∀ y, cs[k]? = some y → V H loc obs u y := fun k hk => by
        obtain ⟨u, h1, h2, h3⟩ := hc k cs[k] (List.getElem?_eq_getElem (by omega))
        exact ⟨u, h1, h2, fun y hy => by rw [List.getElem?_eq_getElem (by omega)] at hy; cases hy; exact h3⟩
      let f : Nat → Value := fun k => (w.cell? ⟨b, o + k, none⟩).getD undef
      have hf : ∀ k, k < n → w.cell? ⟨b, o + k, none⟩ = some (f k) := fun k hk => by
        obtain ⟨u, h1, _⟩ := hx k hk
        simp [f, h1]
      have hrun : (loadCells ⟨b, o, none⟩ n).run P w = .ok ((List.range n).map f).toArray w :=
        run_loadCells w _ n f (fun k hk => by rw [Addr.add_lit]; exact hf k hk)
      refine ⟨.agg ((List.range n).map f).toArray, ?_, ?_⟩
      · simp only [Instr.loadAt, Instr.sureAddr, loadVar, pure_bind, Sem.run_bind, ha, hz, Result.andThen_ok, if_true, hrun, Sem.run_pure]
      · refine .agg _ _ (by simp; omega) fun k u y h1 h2 => ?_
        have hk : k < n := by
          rcases Nat.lt_or_ge k n with h | h
          · exact h
          · simp [List.getElem?_take, Nat.not_lt.2 h] at h2
        rw [List.getElem?_take, if_pos hk] at h2
        simp [hk] at h1
        subst h1
        obtain ⟨u, h1, _, h3⟩ := hx k hk
        have : f k = u := by have := hf k hk; rw [h1] at this; exact (Option.some.inj this).symm
        rw [this]; exact h3 y h2
    · cases hl
  | false =>
    simp only [Bool.false_eq_true, if_false] at hl
    obtain ⟨u, h1, h2, h3⟩ := hc 0 r hl
    refine ⟨u, ?_, h3⟩
    simp only [Instr.loadAt, Instr.sureAddr, loadVar, pure_bind, Sem.run_bind, ha, Result.andThen_ok, Bool.false_eq_true, if_false, run_load]
    rw [show o + 0 = o from rfl] at h1
    rw [h1]

end Go.Ab

/- Addresses of fields and elements, lengths, parts of slices, over abstract states. No program is named here. -/
namespace Go.Ab

section
variable {P : Program} {H : HV} {loc : Nat → Loc} {obs : List Ob} {w : World}

/-- A field's address. -/
def fieldD (off : Nat) : D → Option D
  | .ptr id i j => some (.ptr id i (j + off))
  | .rd x j => some (.rd x (j + off))
  | _ => none

theorem field_of {s : TypeId} {f off : Nat} (hf : fdO P s f = some off) {v : Value} {d r : D} (hv : V H loc obs v d) (hd : fieldD off d = some r)
    (hg : ∀ id i j, d = .ptr id i j → ∃ o, obs[id]? = some o ∧ o.live = true) : ∃ u, (∀ w, (Instr.fieldAt s v f).run P w = .ok u w) ∧ V H loc obs u r := by
  have hrun : ∀ b o w, (Instr.fieldAt s (.pointer (some ⟨b, o, none⟩)) f).run P w = .ok (.pointer (some ⟨b, o + off, none⟩)) w := by
    intro b o w
    unfold fdO at hf
    cases hu : P.underlying s with
    | none => rw [hu] at hf; cases hf
    | some dsc =>
      rw [hu] at hf
      cases dsc <;> dsimp only at hf <;> try cases hf
      case struct fs =>
        cases hx : fs[f]? with
        | none => rw [hx] at hf; cases hf
        | some x =>
          rw [hx] at hf
          simp only [Option.bind_some] at hf
          cases hi : P.info? x.type with
          | none => rw [hi] at hf; cases hf
          | some i =>
            rw [hi] at hf
            simp only [Option.bind_some] at hf
            split at hf
            · cases hf
            · rename_i hz
              cases hf
              simp [Instr.fieldAt, run_underlying hu, hx, Instr.sureAddr, fieldPlace, sizeOf, typeInfo, hi, hz, Addr.add_lit]
  cases hv with
  | ptr id i j s' xs ho =>
    cases hd
    exact ⟨_, hrun _ _, by rw [Nat.add_assoc]; exact .ptr id i (j + off) s' xs ho⟩
  | ptrBox id j cs ho =>
    cases hd
    exact ⟨_, hrun _ _, by rw [Nat.add_assoc]; exact .ptrBox id (j + off) cs ho⟩
  | ptrGone v id i j ho =>
    obtain ⟨o, h1, h2⟩ := hg id i j rfl
    rw [ho] at h1; cases h1; cases h2
  | rd b o c x j g hb hc h1 hr =>
    cases hd
    exact ⟨_, hrun _ _, by rw [Nat.add_assoc]; exact .rd b o c x (j + off) g hb hc h1 hr⟩
  | _ => cases hd

/-- Is an object there? -/
def liveAt (obs : List Ob) (id : Nat) : Prop := match obs[id]? with | some o => o.live = true | none => False

theorem liveAt_of {obs : List Ob} {id : Nat} (h : liveAt obs id) : ∃ o, obs[id]? = some o ∧ o.live = true := by
  unfold liveAt at h
  cases ho : obs[id]? with
  | none => rw [ho] at h; exact h.elim
  | some o => rw [ho] at h; exact ⟨o, rfl, h⟩

theorem run_index_slice {t : TypeId} {n m : Nat} (ht : elO P t = some (n, m)) (b o len cap : Nat) (k : IntKind) (i : Int) (h0 : 0 ≤ i) (h1 : i < len) :
    (Instr.indexAt t (.slice (some ⟨b, o, none⟩) len cap) (.int k i)).run P w = .ok (.pointer (some ⟨b, o + i.toNat * n, none⟩)) w := by
  unfold elO at ht
  cases hu : P.underlying t with
  | none => rw [hu] at ht; cases ht
  | some d =>
    rw [hu] at ht
    cases d <;> dsimp only at ht <;> try cases ht
    case slice e =>
      cases hi : P.info? e with
      | none => rw [hi] at ht; cases ht
      | some x =>
        rw [hi] at ht
        simp only [Option.map_some, Option.some.injEq, Prod.mk.injEq] at ht
        obtain ⟨rfl, rfl⟩ := ht
        simp [Instr.indexAt, run_underlying hu, asIntOf, h0, h1, sizeOf, typeInfo, hi, Addr.add_lit]

/-- An element's address. -/
def indexD (obs : List Ob) (n : Nat) (i : Int) (K : D → Prop) : D → Prop
  | .p (.sl xs) => 0 ≤ i ∧ match xs[i.toNat]? with | some x => x.length = n ∧ K (.rd x 0) | none => False
  | .ref id off len => match obs[id]? with | some (.row s _) => s = n ∧ 0 ≤ i ∧ i < (len : Int) ∧ K (.ptr id (off + i.toNat) 0) | _ => False
  | .gref id s off len => match obs[id]? with | some (.box _) => s = n ∧ 0 ≤ i ∧ i < (len : Int) ∧ K (.ptr id 0 ((off + i.toNat) * s)) | _ => False
  | _ => False

theorem index_of {t : TypeId} {n m : Nat} (ht : elO P t = some (n, m)) {v : Value} {d : D} {k : IntKind} {i : Int} {K : D → Prop} (hv : V H loc obs v d) (h : indexD obs n i K d) :
    ∃ u r, (∀ w, (Instr.indexAt t v (.int k i)).run P w = .ok u w) ∧ V H loc obs u r ∧ K r := by
  cases hv with
  | p v x hp =>
    cases hp with
    | lit v => exact h.elim
    | none a cap => simp [indexD] at h
    | sl b o cap s c xs g hb hs hcap hc h1 hr =>
      simp only [indexD] at h
      obtain ⟨h0, h⟩ := h
      cases hx : xs[i.toNat]? with
      | none => rw [hx] at h; exact h.elim
      | some x =>
        rw [hx] at h
        obtain ⟨hl, hk⟩ := h
        have hlt : i.toNat < xs.length := by
          rcases Nat.lt_or_ge i.toNat xs.length with h' | h'
          · exact h'
          · simp [List.getElem?_eq_none h'] at hx
        have hsn : s = n := (hs x (List.mem_of_getElem? hx)).symm.trans hl
        subst hsn
        exact ⟨_, _, fun _ => run_index_slice ht b o _ cap k i h0 (by omega), .rd b (o + i.toNat * s) c x 0 (g i.toNat) hb (fun k y hy => hc _ _ hx _ _ hy) (fun k y hy => h1 _ _ hx _ _ hy) (fun k y hy => hr _ _ hx _ _ hy), hk⟩
  | ref id off len cap s xs ho hl hc hx hr hn =>
    simp only [indexD, ho] at h
    obtain ⟨rfl, h0, h1, hk⟩ := h
    refine ⟨_, _, fun _ => run_index_slice ht _ _ _ cap k i h0 h1, ?_, hk⟩
    rw [show (loc id).o + off * s + i.toNat * s = (loc id).o + (off + i.toNat) * s + 0 by rw [Nat.add_mul]; omega]
    exact .ptr id (off + i.toNat) 0 s xs ho
  | ref0 a id off s xs ho hl =>
    simp only [indexD, ho] at h
    obtain ⟨_, h0, h1, _⟩ := h
    omega
  | refGone v id off len ho => simp only [indexD, ho] at h
  | gref id s off len cap cs ho hl hc =>
    simp only [indexD, ho] at h
    obtain ⟨rfl, h0, h1, hk⟩ := h
    refine ⟨_, _, fun _ => run_index_slice ht _ _ _ cap k i h0 h1, ?_, hk⟩
    rw [show (loc id).o + off * s + i.toNat * s = (loc id).o + (off + i.toNat) * s by rw [Nat.add_mul]; omega]
    exact .ptrBox id ((off + i.toNat) * s) cs ho
  | grefGone v id s off len ho => simp only [indexD, ho] at h
  | _ => exact h.elim

theorem run_index_array {t : TypeId} {n m : Nat} (ht : arO P t = some (n, m)) (b o : Nat) (k : IntKind) (i : Int) (h0 : 0 ≤ i) (h1 : i < n) :
    (Instr.indexAt t (.pointer (some ⟨b, o, none⟩)) (.int k i)).run P w = .ok (.pointer (some ⟨b, o + i.toNat * m, none⟩)) w := by
  unfold arO at ht
  cases hu : P.underlying t with
  | none => rw [hu] at ht; cases ht
  | some d =>
    rw [hu] at ht
    cases d <;> dsimp only at ht <;> try cases ht
    case array len e =>
      cases hi : P.info? e with
      | none => rw [hi] at ht; cases ht
      | some x =>
        rw [hi] at ht
        simp only [Option.map_some, Option.some.injEq, Prod.mk.injEq] at ht
        obtain ⟨rfl, rfl⟩ := ht
        simp [Instr.indexAt, run_underlying hu, asIntOf, Instr.sureAddr, h0, h1, sizeOf, typeInfo, hi, Addr.add_lit]

theorem index_array_of {t : TypeId} {n m : Nat} (ht : arO P t = some (n, m)) {v : Value} {d r : D} {k : IntKind} {i : Int} (hv : V H loc obs v d) (h0 : 0 ≤ i) (h1 : i < n) (hd : fieldD (i.toNat * m) d = some r)
    (hg : ∀ id i j, d = .ptr id i j → ∃ o, obs[id]? = some o ∧ o.live = true) : ∃ u, (∀ w, (Instr.indexAt t v (.int k i)).run P w = .ok u w) ∧ V H loc obs u r := by
  cases hv with
  | ptr id i' j s' xs ho =>
    cases hd
    exact ⟨_, fun _ => run_index_array ht _ _ k i h0 h1, by rw [Nat.add_assoc]; exact .ptr id i' (j + i.toNat * m) s' xs ho⟩
  | ptrBox id j cs ho =>
    cases hd
    exact ⟨_, fun _ => run_index_array ht _ _ k i h0 h1, by rw [Nat.add_assoc]; exact .ptrBox id (j + i.toNat * m) cs ho⟩
  | ptrGone v id i j ho =>
    obtain ⟨o, h1, h2⟩ := hg id i j rfl
    rw [ho] at h1; cases h1; cases h2
  | rd b o c x j g hb hc h1' hr =>
    cases hd
    exact ⟨_, fun _ => run_index_array ht _ _ k i h0 h1, by rw [Nat.add_assoc]; exact .rd b o c x (j + i.toNat * m) g hb hc h1' hr⟩
  | _ => cases hd

/-- A length. -/
def lenD (obs : List Ob) : D → Option Nat
  | .p (.sl xs) => some xs.length
  | .p (.lit (.string s)) => some s.size
  | .nil => some 0
  | .ref id _ len => match obs[id]? with | some (.row _ _) => some len | _ => none
  | .gref id _ _ len => match obs[id]? with | some (.box _) => some len | _ => none
  | _ => none

theorem len_of {t ty : TypeId} (ht : (∃ e, P.underlying t = some (.slice e)) ∨ P.underlying t = some .string) {v : Value} {d : D} {n : Nat} (hv : V H loc obs v d) (hd : lenD obs d = some n)
    (hk : (∃ e, P.underlying t = some (.slice e)) ↔ (∀ s, d ≠ .p (.lit (.string s)))) : (Builtin.len_ #[t] ty #[v]).run P w = .ok (.int .i64 n) w := by
  have hsl : ∀ a len cap, (∃ e, P.underlying t = some (.slice e)) → (Builtin.len_ #[t] ty #[.slice a len cap]).run P w = .ok (.int .i64 len) w := by
    rintro a len cap ⟨e, hu⟩
    simp [Builtin.len_, run_underlying hu, goInt]
  cases hv with
  | p v x hp =>
    cases hp with
    | lit v =>
      cases v with
      | string s =>
        cases hd
        rcases ht with ⟨e, hu⟩ | hu
        · exact absurd rfl ((hk.1 ⟨e, hu⟩) s)
        · simp [Builtin.len_, run_underlying hu, goInt]
      | _ => cases hd
    | none a cap => cases hd; exact hsl _ _ _ (hk.2 (by simp))
    | sl b o cap s c xs g hb hs hcap hc h1 hr => cases hd; exact hsl _ _ _ (hk.2 (by simp))
  | nil => cases hd; exact hsl _ _ _ (hk.2 (by simp))
  | ref id off len cap s xs ho hl hc hx hr hn => simp only [lenD, ho] at hd; cases hd; exact hsl _ _ _ (hk.2 (by simp))
  | ref0 a id off s xs ho hl => simp only [lenD, ho] at hd; cases hd; exact hsl _ _ _ (hk.2 (by simp))
  | refGone v id off len ho => simp only [lenD, ho] at hd; cases hd
  | gref id s off len cap cs ho hl hc => simp only [lenD, ho] at hd; cases hd; exact hsl _ _ _ (hk.2 (by simp))
  | grefGone v id s off len ho => simp only [lenD, ho] at hd; cases hd
  | _ => cases hd

end
end Go.Ab

/- New objects, and objects written, over abstract states. No program is named here. -/
namespace Go.Ab

section
variable {P : Program} {H : HV} {loc : Nat → Loc} {obs : List Ob} {w : World}

/-- Where the objects lie, with one more at the end. -/
def locPush (loc : Nat → Loc) (n : Nat) (l : Loc) (i : Nat) : Loc := if i = n then l else loc i

theorem get_push_old {o x : Ob} {i : Nat} (h : obs[i]? = some x) : (obs ++ [o])[i]? = some x ∧ i ≠ obs.length := by
  have hlt : i < obs.length := by
    rcases Nat.lt_or_ge i obs.length with h' | h'
    · exact h'
    · simp [List.getElem?_eq_none h'] at h
  exact ⟨by rw [List.getElem?_append_left hlt]; exact h, by omega⟩

theorem turns_push (obs : List Ob) (loc : Nat → Loc) (o : Ob) (l : Loc) : Turns obs (obs ++ [o]) loc (locPush loc obs.length l) := by
  refine ⟨fun id s xs h => ?_, fun id cs h => ?_, fun id es h => ?_, fun id h => (get_push_old h).1⟩
  · have := get_push_old (o := o) h; exact .inr ⟨xs, this.1, rfl, if_neg this.2⟩
  · have := get_push_old (o := o) h; exact .inr ⟨cs, this.1, rfl, if_neg this.2⟩
  · have := get_push_old (o := o) h; exact .inr ⟨es, this.1, if_neg this.2⟩

theorem heap_alloc_old (w : World) (x : Obj) {i : Nat} (h : i < w.heap.size) : (w.alloc x).heap[i]? = w.heap[i]? := by
  show (w.heap.push x)[i]? = _
  rw [Array.getElem?_push, if_neg (by omega)]

theorem heap_alloc_new (w : World) (x : Obj) : (w.alloc x).heap[w.heap.size]? = some x := by
  show (w.heap.push x)[w.heap.size]? = _
  simp

/-- A new object. -/
theorem Sr.push (h : Sr H loc obs w) (x : Obj) (o : Ob) (off n : Nat)
    (hn : o.holds H (locPush loc obs.length ⟨w.heap.size, off, n, true⟩) (obs ++ [o]) (w.alloc x) ⟨w.heap.size, off, n, true⟩) : Sr H (locPush loc obs.length ⟨w.heap.size, off, n, true⟩) (obs ++ [o]) (w.alloc x) := by
  have part : ∀ {i : Nat} {y : Ob}, (obs ++ [o])[i]? = some y → (i < obs.length ∧ obs[i]? = some y) ∨ (i = obs.length ∧ y = o) := fun {i y} hi => by
    rcases Nat.lt_trichotomy i obs.length with hlt | heq | hgt
    · rw [List.getElem?_append_left hlt] at hi; exact .inl ⟨hlt, hi⟩
    · subst heq; simp at hi; exact .inr ⟨rfl, hi.symm⟩
    · rw [List.getElem?_eq_none (by simp; omega)] at hi; cases hi
  have hold : ∀ {i : Nat}, i < obs.length → locPush loc obs.length ⟨w.heap.size, off, n, true⟩ i = loc i := fun h => if_neg (by omega)
  have hnew : locPush loc obs.length ⟨w.heap.size, off, n, true⟩ obs.length = ⟨w.heap.size, off, n, true⟩ := if_pos rfl
  have hH : H w.heap.size = none := by
    cases hx : H w.heap.size with
    | none => rfl
    | some c => exact absurd (h.H_lt hx) (by omega)
  refine ⟨fun b c hb => ?_, fun i y hi => ?_, fun i y hi hl hr => ?_, fun i j y y' hi hj hl hl' hr hr' e => ?_⟩
  · obtain ⟨c', e, f, h1, h2⟩ := h.heap b c hb
    exact ⟨c', e, f, by rw [heap_alloc_old w x (h.H_lt hb)]; exact h1, h2⟩
  · rcases part hi with ⟨hlt, hi⟩ | ⟨rfl, rfl⟩
    · rw [hold hlt]
      cases hl : y.live with
      | false => cases y <;> first | trivial | cases hl
      | true => exact Ob.holds_turn (.refl H) (turns_push obs loc o _) (fun hr => heap_alloc_old w x (h.live_lt hi hl hr)) (h.obj i y hi)
    · rw [hnew]; exact hn
  · rcases part hi with ⟨hlt, hi⟩ | ⟨rfl, rfl⟩
    · rw [hold hlt] at hr ⊢; exact h.apart i y hi hl hr
    · rw [hnew]; exact hH
  · rcases part hi with ⟨hlt, hi2⟩ | ⟨e1, e2⟩ <;> rcases part hj with ⟨hlt', hj2⟩ | ⟨e3, e4⟩
    · rw [hold hlt, hold hlt'] at e; rw [hold hlt] at hr; rw [hold hlt'] at hr'; exact h.inj i j y y' hi2 hj2 hl hl' hr hr' e
    · rw [hold hlt, e3, hnew] at e
      rw [hold hlt] at hr
      exact absurd (h.live_lt hi2 hl hr) (by rw [e]; exact Nat.lt_irrefl _)
    · rw [hold hlt', e1, hnew] at e
      rw [hold hlt'] at hr'
      exact absurd (h.live_lt hj2 hl' hr') (by rw [← e]; exact Nat.lt_irrefl _)
    · rw [e1, e3]

theorem turns_set {id : Nat} {o o' : Ob} (ho : obs[id]? = some o) (hs : o.sameShape o') : Turns obs (obs.set id o') loc loc := by
  have hlt : id < obs.length := by
    rcases Nat.lt_or_ge id obs.length with h' | h'
    · exact h'
    · simp [List.getElem?_eq_none h'] at ho
  have get : ∀ i, (obs.set id o')[i]? = if id = i then some o' else obs[i]? := fun i => by
    rw [List.getElem?_set]
    split
    · subst_vars; simp [hlt]
    · rfl
  refine ⟨fun i s xs h => ?_, fun i cs h => ?_, fun i es h => ?_, fun i h => ?_⟩ <;> rw [get]
  · split
    · subst_vars; rw [ho] at h; cases h
      cases o' <;> simp only [Ob.sameShape] at hs
      · exact .inl rfl
      · obtain ⟨rfl, h2⟩ := hs; exact .inr ⟨_, rfl, h2.symm, rfl⟩
    · exact .inr ⟨xs, h, rfl, rfl⟩
  · split
    · subst_vars; rw [ho] at h; cases h
      cases o' <;> simp only [Ob.sameShape] at hs
      · exact .inl rfl
      · exact .inr ⟨_, rfl, hs.symm, rfl⟩
    · exact .inr ⟨cs, h, rfl, rfl⟩
  · split
    · subst_vars; rw [ho] at h; cases h
      cases o' <;> simp only [Ob.sameShape] at hs
      · exact .inl rfl
      · exact .inr ⟨_, rfl, rfl⟩
    · exact .inr ⟨es, h, rfl⟩
  · split
    · subst_vars; rw [ho] at h; cases h
      cases o' <;> simp only [Ob.sameShape] at hs
      rfl
    · exact h

/-- An object is written in place: its block alone turns. -/
theorem Sr.setOb (h : Sr H loc obs w) {id : Nat} {o o' : Ob} (ho : obs[id]? = some o) (hl : o.live = true) (hlr : (loc id).r = true) (hs : o.sameShape o') {w' : World}
    (hw : ∀ b, b ≠ (loc id).b → w'.heap[b]? = w.heap[b]?) (hn : o'.holds H loc (obs.set id o') w' (loc id)) : Sr H loc (obs.set id o') w' := by
  have hlt : id < obs.length := by
    rcases Nat.lt_or_ge id obs.length with h' | h'
    · exact h'
    · simp [List.getElem?_eq_none h'] at ho
  have get : ∀ {i : Nat} {y : Ob}, (obs.set id o')[i]? = some y → (i = id ∧ y = o') ∨ (i ≠ id ∧ obs[i]? = some y) := fun {i y} hi => by
    rw [List.getElem?_set] at hi
    split at hi
    · subst_vars; simp [hlt] at hi; exact .inl ⟨rfl, hi.symm⟩
    · rename_i hne; exact .inr ⟨fun e => hne e.symm, hi⟩
  refine ⟨fun b c hb => ?_, fun i y hi => ?_, fun i y hi hly hr => ?_, fun i j y y' hi hj hly hly' hr hr' e => ?_⟩
  · obtain ⟨c', e, f, h1, h2⟩ := h.heap b c hb
    exact ⟨c', e, f, by rw [hw b (fun hx => by rw [hx, h.apart id o ho hl hlr] at hb; cases hb)]; exact h1, h2⟩
  · rcases get hi with ⟨rfl, rfl⟩ | ⟨hne, hi⟩
    · exact hn
    · cases hly : y.live with
      | false => cases y <;> first | trivial | cases hly
      | true => exact Ob.holds_turn (.refl H) (turns_set ho hs) (fun hr => hw _ fun e => hne (h.inj i id y o hi ho hly hl hr hlr e)) (h.obj i y hi)
  · rcases get hi with ⟨rfl, rfl⟩ | ⟨hne, hi⟩
    · exact h.apart i o ho hl hr
    · exact h.apart i y hi hly hr
  · rcases get hi with ⟨e1, e2⟩ | ⟨hne, hi2⟩ <;> rcases get hj with ⟨e3, e4⟩ | ⟨hne', hj2⟩
    · rw [e1, e3]
    · rw [e1] at e hr ⊢; exact h.inj _ _ o y' ho hj2 hl hly' hr hr' e
    · rw [e3] at e hr' ⊢; exact h.inj _ _ y o hi2 ho hly hl hr hr' e
    · exact h.inj i j y y' hi2 hj2 hly hly' hr hr' e

end

section
variable {P : Program} {M : En} {H0 : HV} {w0 : World} {nt : Nat} {H : HV} {loc : Nat → Loc} {w : World} {st : St} {a : Act}

/-- A draw. -/
theorem Rel.drew (r : Rel M H0 w0 nt H loc w st a) : Rel M H0 w0 nt H loc w.drew st a :=
  ⟨r.sr.of_heap rfl, r.tm, r.sz, r.df, ⟨r.gr.os, r.gr.tape, r.gr.output, r.gr.size, r.gr.kept, r.gr.more, r.gr.new⟩, r.own, r.n0, r.ent⟩

theorem Rel.push (r : Rel M H0 w0 nt H loc w st a) (x : Obj) (o : Ob) (off n : Nat)
    (hn : o.holds H (locPush loc st.ob.length ⟨w.heap.size, off, n, true⟩) (st.ob ++ [o]) (w.alloc x) ⟨w.heap.size, off, n, true⟩) :
    Rel M H0 w0 nt H (locPush loc st.ob.length ⟨w.heap.size, off, n, true⟩) (w.alloc x) ⟨st.tm, st.ob ++ [o], st.n0⟩ a where
  sr := r.sr.push x o off n hn
  tm := fun t => (r.tm t).turn (.refl H) (turns_push _ _ _ _)
  sz := r.sz
  df := r.df
  gr := ⟨r.gr.os, r.gr.tape, r.gr.output, by have := r.gr.size; simp; omega, fun b hb hm => by
    have := r.gr.size
    rw [heap_alloc_old w x (by omega)]; exact r.gr.kept b hb hm, r.gr.more, r.gr.new⟩
  own := fun i y hi hl hr => by
    rcases Nat.lt_trichotomy i st.ob.length with hlt | heq | hgt
    · dsimp only at hi
      rw [List.getElem?_append_left hlt] at hi
      have : locPush loc st.ob.length ⟨w.heap.size, off, n, true⟩ i = loc i := if_neg (by omega)
      rw [this] at hr ⊢; exact r.own i y hi hl hr
    · subst heq
      have : locPush loc st.ob.length ⟨w.heap.size, off, n, true⟩ st.ob.length = ⟨w.heap.size, off, n, true⟩ := if_pos rfl
      rw [this]; exact .inr r.gr.size
    · dsimp only at hi
      rw [List.getElem?_eq_none (by simp; omega)] at hi; cases hi
  n0 := r.n0
  ent := fun k y hk => by
    rcases r.ent k y hk with h1 | ⟨o', h1, h2, h3⟩
    · exact .inl (get_push_old h1).1
    · exact .inr ⟨o', (get_push_old h1).1, h2, (if_neg (get_push_old (o := o) h1).2).trans h3⟩

theorem Rel.setOb (r : Rel M H0 w0 nt H loc w st a) {id : Nat} {o o' : Ob} (ho : st.ob[id]? = some o) (hl : o.live = true) (hlr : (loc id).r = true) (hs : o.sameShape o') {w' : World}
    (hw : ∀ b, b ≠ (loc id).b → w'.heap[b]? = w.heap[b]?) (hsz : w'.heap.size = w.heap.size) (hos : w'.os = w.os) (htp : w'.tape = w.tape) (hout : w'.output = w.output)
    (hn : o'.holds H loc (st.ob.set id o') w' (loc id)) : Rel M H0 w0 nt H loc w' ⟨st.tm, st.ob.set id o', st.n0⟩ a where
  sr := r.sr.setOb ho hl hlr hs hw hn
  tm := fun t => (r.tm t).turn (.refl H) (turns_set ho hs)
  sz := r.sz
  df := r.df
  gr := ⟨hos.trans r.gr.os, htp.trans r.gr.tape, hout.trans r.gr.output, by rw [hsz]; exact r.gr.size, fun b hb hm => by
    rw [hw b (fun e => (r.own id o ho hl hlr).elim (fun hx => hm (e ▸ hx)) (fun hx => by omega))]; exact r.gr.kept b hb hm, r.gr.more, r.gr.new⟩
  own := fun i y hi hly hr => by
    dsimp only at hi
    rw [List.getElem?_set] at hi
    split at hi
    · subst_vars; exact r.own _ o ho hl hr
    · exact r.own i y hi hly hr
  n0 := r.n0
  ent := fun k y hk => by
    dsimp only
    have hlt : id < st.ob.length := by
      rcases Nat.lt_or_ge id st.ob.length with h' | h'
      · exact h'
      · simp [List.getElem?_eq_none h'] at ho
    rw [List.getElem?_set]
    split
    · rename_i e
      subst e
      rcases r.ent id y hk with h1 | ⟨o2, h1, h2, h3⟩
      · rw [h1] at ho; cases ho; cases hl
      · rw [h1] at ho; cases ho
        exact .inr ⟨o', by simp [hlt], Ob.sameShape_trans h2 hs, h3⟩
    · exact r.ent k y hk

end
end Go.Ab

/- Variables that are made, and stores, over abstract states. No program is named here. -/
namespace Go.Ab

/-- Some of a list written anew, from a place on. -/
def putAt {α : Type} (l : List α) (j : Nat) (ys : List α) : List α := l.take j ++ ys ++ l.drop (j + ys.length)

theorem putAt_length {α : Type} {l : List α} {j : Nat} {ys : List α} (h : j + ys.length ≤ l.length) : (putAt l j ys).length = l.length := by
  simp [putAt]; omega

theorem putAt_get {α : Type} {l : List α} {j : Nat} {ys : List α} (h : j + ys.length ≤ l.length) (k : Nat) :
    (putAt l j ys)[k]? = if j ≤ k ∧ k < j + ys.length then ys[k - j]? else l[k]? := by
  unfold putAt
  by_cases h1 : k < j
  · rw [List.append_assoc, List.getElem?_append_left (by simp; omega), List.getElem?_take, if_pos h1, if_neg (by omega)]
  · by_cases h2 : k < j + ys.length
    · rw [List.append_assoc, List.getElem?_append_right (by simp; omega), List.getElem?_append_left (by simp; omega), if_pos (by omega)]
      congr 1; simp; omega
    · rw [List.append_assoc, List.getElem?_append_right (by simp; omega), List.getElem?_append_right (by simp; omega), List.getElem?_drop, if_neg (by omega)]
      congr 1; simp; omega

/-- The cells of a value. -/
def cellsD : D → List D
  | .agg cs => cs
  | d => [d]

/-- It stands in one cell. -/
def cellOk (obs : List Ob) : D → Prop
  | .p (.lit v) => v.oneCell' = true
  | .p (.sl _) => True
  | .nil => True
  | .ref id _ _ => liveAt obs id
  | .ptr id _ _ => liveAt obs id
  | .mp id => liveAt obs id
  | .gref id _ _ _ => liveAt obs id
  | .rd _ _ => True
  | .fn _ _ => True
  | _ => False

section
variable {P : Program} {H : HV} {loc : Nat → Loc} {obs : List Ob} {w : World}

theorem V.oneCell {v : Value} {d : D} (h : V H loc obs v d) (hd : cellOk obs d) : v.oneCell' = true := by
  have dead : ∀ {id : Nat}, obs[id]? = some .dead → ¬ liveAt obs id := fun {id} h hl => by
    simp [liveAt, h, Ob.live] at hl
  cases h with
  | none => exact hd.elim
  | p v x hp => cases hp with
    | lit => exact hd
    | none => rfl
    | sl => rfl
  | nil => rfl
  | ref => rfl
  | ref0 => rfl
  | refGone v id off len ho => exact absurd hd (dead ho)
  | ptr => rfl
  | ptrBox => rfl
  | ptrGone v id i j ho => exact absurd hd (dead ho)
  | rd => rfl
  | mp => rfl
  | mpGone v id ho => exact absurd hd (dead ho)
  | gref => rfl
  | grefGone v id s off len ho => exact absurd hd (dead ho)
  | fn => rfl
  | agg => exact hd.elim
  | tup => exact hd.elim

theorem V.cellsD {v : Value} {d : D} (h : V H loc obs v d) (hok : ∀ c, c ∈ cellsD d → cellOk obs c) :
    v.cells.size = (cellsD d).length ∧ ∀ (i : Nat) u c, v.cells[i]? = some u → (Ab.cellsD d)[i]? = some c → V H loc obs u c ∧ u.oneCell' = true := by
  have one : ∀ {v : Value} {d : D}, V H loc obs v d → cellOk obs d → Ab.cellsD d = [d] → v.cells.size = (Ab.cellsD d).length ∧
      ∀ (i : Nat) u c, v.cells[i]? = some u → (Ab.cellsD d)[i]? = some c → V H loc obs u c ∧ u.oneCell' = true := fun {v d} h hk hc => by
    have h1 := h.oneCell hk
    have hv : v.cells = #[v] := by cases v <;> first | rfl | cases h1
    rw [hv, hc]
    refine ⟨rfl, fun i u c h2 h3 => ?_⟩
    cases i with
    | zero => simp at h2 h3; subst h2; subst h3; exact ⟨h, h1⟩
    | succ i => simp at h3
  by_cases hd : ∃ cs, d = .agg cs
  · obtain ⟨cs, rfl⟩ := hd
    cases h with
    | agg vs cs hn h =>
      refine ⟨hn, fun i u c h2 h3 => ?_⟩
      have := h i u c h2 h3
      exact ⟨this, this.oneCell (hok c (List.mem_of_getElem? h3))⟩
  · have hc : Ab.cellsD d = [d] := by cases d <;> first | rfl | exact absurd ⟨_, rfl⟩ hd
    exact one h (hok d (by rw [hc]; simp)) hc

/-- A new variable that holds cells. -/
theorem Rel.newBox {M : En} {H0 : HV} {w0 : World} {nt : Nat} {st : St} {a : Act} (r : Rel M H0 w0 nt H loc w st a) (e : TypeId) {c : Array Value} {cs : List D} (hn : c.size = cs.length)
    (hc : ∀ (i : Nat) u d, c[i]? = some u → cs[i]? = some d → V H loc st.ob u d ∧ u.oneCell' = true) :
    ∃ loc', Rel M H0 w0 nt H loc' (w.alloc (.cells c e)) ⟨st.tm, st.ob ++ [.box cs], st.n0⟩ a ∧
      V H loc' (st.ob ++ [.box cs]) (.pointer (some ⟨w.heap.size, 0, none⟩)) (.ptr st.ob.length 0 0) := by
  refine ⟨_, r.push (.cells c e) (.box cs) 0 c.size ⟨rfl, c, e, heap_alloc_new w _, rfl, by show 0 + cs.length ≤ c.size; omega, fun j d hj => ?_⟩, ?_⟩
  · have hlt : j < c.size := by
      rcases Nat.lt_or_ge j cs.length with h' | h'
      · omega
      · simp [List.getElem?_eq_none h'] at hj
    have h1 : c[j]? = some c[j] := Array.getElem?_eq_getElem hlt
    have := hc j _ d h1 hj
    exact ⟨c[j], by rw [Nat.zero_add]; exact h1, this.2, this.1.turn (.refl H) (turns_push _ _ _ _)⟩
  · have hl : locPush loc st.ob.length ⟨w.heap.size, 0, c.size, true⟩ st.ob.length = ⟨w.heap.size, 0, c.size, true⟩ := if_pos rfl
    have := V.ptrBox (H := H) (loc := locPush loc st.ob.length ⟨w.heap.size, 0, c.size, true⟩) (obs := st.ob ++ [.box cs]) st.ob.length 0 cs (by simp)
    rw [hl] at this
    exact this

theorem opS_box {nt : Nat} {o : Oper} {st : St} {K : D → St → Prop} {e : TypeId} {x : Operand} (ho : o.op = .box e x) (hok : ∀ c, c ∈ cellsD (st.ev x) → cellOk st.ob c)
    (h : K (.ptr st.ob.length 0 0) ⟨st.tm, st.ob ++ [.box (cellsD (st.ev x))], st.n0⟩) : OpS P nt o st K := by
  refine opS_val fun M H0 w0 H loc w a r => ?_
  have hv := (r.ev x).cellsD hok
  obtain ⟨loc', r', hv'⟩ := r.newBox e hv.1 hv.2
  refine ⟨_, _, H, loc', _, _, ?_, h, hv', r'⟩
  simp only [execOp, ho, Instr.box, newVar, newRow, bind_pure_comp, map_pure, Sem.run_map, run_newObj, Result.andThen_ok]
  rfl

/-- A type's zero value, by cells. -/
def zeroO (P : Program) (t : TypeId) : Option (List D) := (P.info? t).bind fun i => i.zero.bind fun z => some (z.cells.toList.map constC)

theorem zero_of {t : TypeId} {cs : List D} (h : zeroO P t = some cs) (w : World) : ∃ z : Value, (zeroValue t).run P w = .ok z w ∧ cs = z.cells.toList.map constC := by
  unfold zeroO at h
  cases hi : P.info? t with
  | none => rw [hi] at h; cases h
  | some i =>
    rw [hi] at h
    simp only [Option.bind_some] at h
    cases hz : i.zero with
    | none => rw [hz] at h; cases h
    | some z => rw [hz] at h; cases h; exact ⟨z, by simp [zeroValue, typeInfo, hi, hz], rfl⟩

/-- Each cell of a zero value is one cell. -/
def cellOk0 : D → Bool
  | .p (.lit v) => v.oneCell'
  | .nil => true
  | _ => false

theorem opS_alloc {nt : Nat} {o : Oper} {st : St} {K : D → St → Prop} {e : TypeId} {cs : List D} (ho : o.op = .alloc e) (hz : zeroO P e = some cs) (hok : cs.all cellOk0 = true)
    (h : K (.ptr st.ob.length 0 0) ⟨st.tm, st.ob ++ [.box cs], st.n0⟩) : OpS P nt o st K := by
  refine opS_val fun M H0 w0 H loc w a r => ?_
  obtain ⟨z, hz1, rfl⟩ := zero_of hz w
  obtain ⟨loc', r', hv'⟩ := r.newBox (c := z.cells) (cs := z.cells.toList.map constC) e (by simp) (fun i u d h1 h2 => by
    rw [List.getElem?_map, Array.getElem?_toList, h1] at h2
    cases h2
    refine ⟨V.constC u, ?_⟩
    have := (List.all_eq_true.1 hok) (constC u) (List.mem_map.2 ⟨u, by simpa using Array.mem_of_getElem? h1, rfl⟩)
    unfold constC at this
    split at this
    · rfl
    · exact this)
  refine ⟨_, _, H, loc', _, _, ?_, h, hv', r'⟩
  simp only [execOp, ho, Instr.alloc, newVar, newRow, bind_pure_comp, map_pure, Sem.run_bind, Sem.run_map, hz1, run_newObj, Result.andThen_ok]
  rfl

/-- A value as data that no longer changes. -/
def toPV : D → Option PV
  | .p x => some x
  | .nil => some (.sl [])
  | _ => none

theorem toPV_of {v : Value} {d : D} {x : PV} (h : V H loc obs v d) (hx : toPV d = some x) : PVr H v x := by
  cases h with
  | p v y hp => cases hx; exact hp
  | nil => cases hx; exact .none _ 0
  | _ => cases hx

def toPVs : List D → Option (List PV)
  | [] => some []
  | d :: l => match toPV d, toPVs l with
    | some x, some xs => some (x :: xs)
    | _, _ => none

theorem toPVs_get : ∀ {l : List D} {xs : List PV}, toPVs l = some xs → xs.length = l.length ∧ ∀ (i : Nat) y, xs[i]? = some y → ∃ d, l[i]? = some d ∧ toPV d = some y
  | [], xs, h => by cases h; exact ⟨rfl, fun i y hy => by simp at hy⟩
  | d :: l, xs, h => by
    unfold toPVs at h
    cases h1 : toPV d with
    | none => rw [h1] at h; cases h
    | some x =>
      cases h2 : toPVs l with
      | none => rw [h1, h2] at h; cases h
      | some ys =>
        rw [h1, h2] at h; cases h
        have ih := toPVs_get h2
        refine ⟨by simp [ih.1], fun i y hy => ?_⟩
        cases i with
        | zero => simp at hy; subst hy; exact ⟨d, rfl, h1⟩
        | succ i => simpa using ih.2 i y (by simpa using hy)

/-- A store. -/
def storeD (n : Nat) (st : St) (addr val : D) (K : St → Prop) : Prop :=
  (cellsD val).length = n ∧ (∀ c, c ∈ cellsD val → cellOk st.ob c) ∧
  match addr with
  | .ptr id i j =>
    match st.ob[id]? with
    | some (.box cs) => i = 0 ∧ j + n ≤ cs.length ∧ K ⟨st.tm, st.ob.set id (.box (putAt cs j (cellsD val))), st.n0⟩
    | some (.row s xs) =>
      match xs[i]?, toPVs (cellsD val) with
      | some x, some ys => j + n ≤ x.length ∧ K ⟨st.tm, st.ob.set id (.row s (xs.set i (putAt x j ys))), st.n0⟩
      | _, _ => False
    | _ => False
  | _ => False

theorem run_storeVar_of {t : TypeId} {g : Bool} {n : Nat} (ht : tyO P t = some (g, n)) {b o : Nat} {c : Array Value} {e : TypeId} (hc : w.heap[b]? = some (.cells c e (0, 0))) {v : Value} (hn : v.cells.size = n) (hfit : o + n ≤ c.size)
    (h1 : ∀ u, u ∈ v.cells.toList → u.oneCell' = true) :
    (storeVar t ⟨b, o, none⟩ v).run P w = .ok () (w.setRow b (putAt c.toList o v.cells.toList).toArray) := by
  have hz := (run_isAgg_of ht w).2
  have := run_storeCells_at (P := P) b o e v.cells.toList 0 c w hc (by simp; omega) h1
  simp only [Nat.add_zero] at this
  simp only [storeVar, Sem.run_bind, hz, Result.andThen_ok, hn, ne_eq, not_true_eq_false, if_false, this]
  rfl

theorem opS_store {nt : Nat} {o : Oper} {st : St} {K : D → St → Prop} {t : TypeId} {x y : Operand} {g : Bool} {n : Nat} (ho : o.op = .store t x y) (ht : tyO P t = some (g, n))
    (h : storeD n st (st.ev x) (st.ev y) (K (.p (.lit undef)))) : OpS P nt o st K := by
  refine opS_skip fun M H0 w0 H loc w a r => ?_
  have hx := r.ev x
  have hy := r.ev y
  generalize hvx : a.eval x = vx at hx
  generalize hvy : a.eval y = vy at hy
  generalize st.ev x = dx at hx h
  generalize st.ev y = dy at hy h
  obtain ⟨hn, hok, h⟩ := h
  obtain ⟨hcs, hcv⟩ := hy.cellsD hok
  have hone : ∀ u, u ∈ vy.cells.toList → u.oneCell' = true := fun u hu => by
    obtain ⟨i, hi⟩ := List.mem_iff_getElem?.1 hu
    rw [Array.getElem?_toList] at hi
    have hlt : i < (cellsD dy).length := by
      rw [← hcs]
      rcases Nat.lt_or_ge i vy.cells.size with h' | h'
      · exact h'
      · simp [Array.getElem?_eq_none h'] at hi
    exact (hcv i u _ hi (List.getElem?_eq_getElem hlt)).2
  cases dx with
  | ptr id i j =>
    dsimp only at h
    split at h
    · rename_i cs hob
      obtain ⟨rfl, hj, hK⟩ := h
      obtain ⟨hlr, c, e, h1, h2, h3, h5⟩ := r.sr.obj id _ hob
      cases hx with
      | ptr _ _ _ s xs ho' => rw [hob] at ho'; cases ho'
      | ptrGone _ _ _ _ ho' => rw [hob] at ho'; cases ho'
      | ptrBox _ _ cs' ho' =>
        have hrun := run_storeVar_of (P := P) (w := w) (o := (loc id).o + j) ht h1 (v := vy) (by omega) (by omega) hone
        have hfit : (loc id).o + j + vy.cells.toList.length ≤ c.toList.length := by simp; omega
        refine ⟨_, H, loc, _, ?_, hK, r.setOb hob rfl hlr (by simp [Ob.sameShape, putAt_length (show j + (cellsD dy).length ≤ cs.length by omega)])
          (w' := w.setRow (loc id).b (putAt c.toList ((loc id).o + j) vy.cells.toList).toArray) (fun b hb => setRow_other w _ b _ hb) (by simp [World.setRow]) rfl rfl rfl ?_⟩
        · simp only [execOp, ho, hvx, Instr.storeAt, Instr.sureAddr, pure_bind, Sem.run_bind, hrun, Result.andThen_ok, hvy]; rfl
        · refine ⟨hlr, _, e, setRow_heap w _ c _ e _ h1, by simp [putAt_length hfit, h2], by rw [putAt_length (by omega)]; exact h3, fun k d hk => ?_⟩
          rw [putAt_get (by omega)] at hk
          rw [List.getElem?_toArray, putAt_get hfit]
          have hl : vy.cells.toList.length = (cellsD dy).length := by simp [hcs]
          by_cases hr : j ≤ k ∧ k < j + (cellsD dy).length
          · rw [if_pos hr] at hk
            rw [if_pos (by omega), show (loc id).o + k - ((loc id).o + j) = k - j by omega, Array.getElem?_toList]
            have hlt : k - j < vy.cells.size := by omega
            have := hcv (k - j) _ d (Array.getElem?_eq_getElem hlt) hk
            exact ⟨_, Array.getElem?_eq_getElem hlt, this.2, this.1.turn (.refl H) (turns_set hob (by simp [Ob.sameShape, putAt_length (show j + (cellsD dy).length ≤ cs.length by omega)]))⟩
          · rw [if_neg hr] at hk
            rw [if_neg (by omega), Array.getElem?_toList]
            obtain ⟨u, a1, a2, a3⟩ := h5 k d hk
            exact ⟨u, a1, a2, a3.turn (.refl H) (turns_set hob (by simp [Ob.sameShape, putAt_length (show j + (cellsD dy).length ≤ cs.length by omega)]))⟩
    · rename_i s xs hob
      split at h
      · rename_i x' ys hxi hys
        obtain ⟨hj, hK⟩ := h
        obtain ⟨hyl, hyg⟩ := toPVs_get hys
        rcases r.sr.obj id _ hob with ⟨_, rfl⟩ | ⟨hlr, c, e, h1, h2, h3, h4, h5⟩
        · simp at hxi
        have hxs : x'.length = s := h4 x' (List.mem_of_getElem? hxi)
        have hi : i < xs.length := by
          rcases Nat.lt_or_ge i xs.length with h' | h'
          · exact h'
          · simp [List.getElem?_eq_none h'] at hxi
        have hmul : i * s + s ≤ xs.length * s := by rw [← Nat.succ_mul]; exact Nat.mul_le_mul_right s hi
        cases hx with
        | ptrBox _ _ cs' ho' => rw [hob] at ho'; cases ho'
        | ptrGone _ _ _ _ ho' => rw [hob] at ho'; cases ho'
        | ptr _ _ _ s' xs' ho' =>
          rw [hob] at ho'; cases ho'
          have hrun := run_storeVar_of (P := P) (w := w) (o := (loc id).o + i * s + j) ht h1 (v := vy) (by omega) (by omega) hone
          have hfit : (loc id).o + i * s + j + vy.cells.toList.length ≤ c.toList.length := by simp; omega
          refine ⟨_, H, loc, _, ?_, hK, r.setOb hob rfl hlr (by simp [Ob.sameShape])
            (w' := w.setRow (loc id).b (putAt c.toList ((loc id).o + i * s + j) vy.cells.toList).toArray) (fun b hb => setRow_other w _ b _ hb) (by simp [World.setRow]) rfl rfl rfl ?_⟩
          · simp only [execOp, ho, hvx, Instr.storeAt, Instr.sureAddr, pure_bind, Sem.run_bind, hrun, Result.andThen_ok, hvy]; rfl
          · refine .inr ⟨hlr, _, e, setRow_heap w _ c _ e _ h1, by simp [putAt_length hfit, h2], by simpa using h3, fun z hz => ?_, fun k z hk m y hm => ?_⟩
            · obtain ⟨m, hm⟩ := List.mem_iff_getElem?.1 hz
              rw [List.getElem?_set] at hm
              split at hm
              · simp [hi] at hm; subst_vars; rw [putAt_length (by omega)]
              · exact h4 z (List.mem_of_getElem? hm)
            · rw [List.getElem?_toArray, putAt_get hfit]
              rw [List.getElem?_set] at hk
              have hl : vy.cells.toList.length = ys.length := by simp [hcs, hyl]
              split at hk
              · rename_i hik
                subst hik
                simp [hi] at hk; subst hk
                rw [putAt_get (by omega)] at hm
                by_cases hr : j ≤ m ∧ m < j + ys.length
                · rw [if_pos hr] at hm
                  rw [if_pos (by omega), show (loc id).o + i * s + m - ((loc id).o + i * s + j) = m - j by omega, Array.getElem?_toList]
                  have hlt : m - j < vy.cells.size := by omega
                  obtain ⟨d, hd1, hd2⟩ := hyg _ _ hm
                  have := hcv (m - j) _ d (Array.getElem?_eq_getElem hlt) hd1
                  exact ⟨_, Array.getElem?_eq_getElem hlt, this.2, toPV_of this.1 hd2⟩
                · rw [if_neg hr] at hm
                  rw [if_neg (by omega), Array.getElem?_toList]
                  exact h5 i x' hxi m y hm
              · rename_i hik
                have hml : m < s := by
                  have := h4 z (List.mem_of_getElem? hk)
                  rcases Nat.lt_or_ge m z.length with h' | h'
                  · omega
                  · simp [List.getElem?_eq_none h'] at hm
                have hne : ¬ ((loc id).o + i * s + j ≤ (loc id).o + k * s + m ∧ (loc id).o + k * s + m < (loc id).o + i * s + j + vy.cells.toList.length) := by
                  intro hh
                  rcases Nat.lt_trichotomy i k with hlt | heq | hgt
                  · have : i * s + s ≤ k * s := by rw [← Nat.succ_mul]; exact Nat.mul_le_mul_right s hlt
                    omega
                  · exact hik heq
                  · have : k * s + s ≤ i * s := by rw [← Nat.succ_mul]; exact Nat.mul_le_mul_right s hgt
                    omega
                rw [if_neg hne, Array.getElem?_toList]
                exact h5 k z hk m y hm
      · exact h.elim
    · exact h.elim
  | _ => exact h.elim

end
end Go.Ab

/- Struct and slice literals over abstract states. No program is named here. -/
namespace Go.Ab

theorem fold_fill (off : Nat) : ∀ (vs : List Value) (n0 : Nat) (cells : Array Value), off + n0 + vs.length ≤ cells.size →
    ((vs.zipIdx n0).foldl (fun (cs : Array Value) (x : Value × Nat) => cs.setIfInBounds (off + x.2) x.1) cells).size = cells.size ∧
    ∀ k, ((vs.zipIdx n0).foldl (fun (cs : Array Value) (x : Value × Nat) => cs.setIfInBounds (off + x.2) x.1) cells)[k]? = if off + n0 ≤ k ∧ k < off + n0 + vs.length then vs[k - (off + n0)]? else cells[k]?
  | [], n0, cells, h => ⟨rfl, fun k => by simp; omega⟩
  | v :: vs, n0, cells, h => by
    simp only [List.length_cons] at h
    have ih := fold_fill off vs (n0 + 1) (cells.setIfInBounds (off + n0) v) (by simp; omega)
    simp only [List.zipIdx_cons, List.foldl_cons]
    refine ⟨by rw [ih.1]; simp, fun k => ?_⟩
    rw [ih.2 k]
    by_cases h1 : off + (n0 + 1) ≤ k ∧ k < off + (n0 + 1) + vs.length
    · rw [if_pos h1, if_pos (by simp; omega)]
      rw [show k - (off + n0) = (k - (off + (n0 + 1))) + 1 by omega, List.getElem?_cons_succ]
    · rw [if_neg h1, Array.getElem?_setIfInBounds]
      by_cases h2 : off + n0 = k
      · rw [if_pos h2, if_pos (by omega), if_pos (by simp; omega)]
        subst h2; simp
      · rw [if_neg h2, if_neg (by simp; omega)]

/-- A literal's cells: its parts over the zero value. -/
def fillD (place : Nat → Option (Nat × Nat)) (cs : List D) : List (Nat × D) → Option (List D)
  | [] => some cs
  | (i, d) :: rest =>
    match place i with
    | none => none
    | some (off, size) => if (cellsD d).length = size ∧ off + size ≤ cs.length then fillD place (putAt cs off (cellsD d)) rest else none

section
variable {P : Program} {H : HV} {loc : Nat → Loc} {obs : List Ob} {w : World}

theorem fill_of (place : Nat → Option (Nat × Nat)) : ∀ (parts : List (Nat × Value)) (ds : List (Nat × D)) {c : Array Value} {cs r : List D}, c.size = cs.length →
    (∀ (k : Nat) u d, c[k]? = some u → cs[k]? = some d → V H loc obs u d) → parts.map Prod.fst = ds.map Prod.fst →
    (∀ (k : Nat) x y, parts[k]? = some x → ds[k]? = some y → V H loc obs x.2 y.2 ∧ ∀ c, c ∈ cellsD y.2 → cellOk obs c) → fillD place cs ds = some r →
    ∃ c', Instr.fill place c parts = some c' ∧ c'.size = r.length ∧ r.length = cs.length ∧ ∀ (k : Nat) u d, c'[k]? = some u → r[k]? = some d → V H loc obs u d
  | [], [], c, cs, r, hn, hc, _, _, hf => by cases hf; exact ⟨c, rfl, hn, rfl, hc⟩
  | [], _ :: _, _, _, _, _, _, he, _, _ => by simp at he
  | _ :: _, [], _, _, _, _, _, he, _, _ => by simp at he
  | (i, v) :: parts, (i', d) :: ds, c, cs, r, hn, hc, he, hp, hf => by
    simp only [List.map_cons, List.cons.injEq] at he
    obtain ⟨rfl, he⟩ := he
    unfold fillD at hf
    cases hpl : place i with
    | none => rw [hpl] at hf; cases hf
    | some os =>
      obtain ⟨off, size⟩ := os
      rw [hpl] at hf
      dsimp only at hf
      split at hf
      · rename_i hsz
        obtain ⟨h1, h2⟩ := hsz
        obtain ⟨hv, hok⟩ := hp 0 (i, v) (i, d) rfl rfl
        obtain ⟨hs, hg⟩ := hv.cellsD hok
        dsimp only at hs hg
        have hfold := fold_fill off v.cells.toList 0 c (by simp; omega)
        simp only [Nat.add_zero] at hfold
        have key := fill_of place parts ds (cs := putAt cs off (cellsD d)) (r := r) (c := (v.cells.toList.zipIdx 0).foldl (fun (cs : Array Value) (x : Value × Nat) => cs.setIfInBounds (off + x.2) x.1) c)
          (by rw [hfold.1, putAt_length (by omega)]; exact hn) (fun k u y hu hy => by
            rw [hfold.2] at hu
            rw [putAt_get (by omega)] at hy
            simp only [Array.length_toList, hs] at hu
            split at hu
            · rename_i hr
              rw [if_pos hr] at hy
              rw [Array.getElem?_toList] at hu
              exact (hg _ u y hu hy).1
            · rename_i hr
              rw [if_neg hr] at hy
              exact hc k u y hu hy) he (fun k x y hx hy => hp (k + 1) x y (by simpa using hx) (by simpa using hy)) hf
        obtain ⟨c', a1, a2, a3, a4⟩ := key
        refine ⟨c', ?_, a2, by rw [a3, putAt_length (by omega)], a4⟩
        unfold Instr.fill
        rw [hpl]
        dsimp only
        rw [if_neg (by simp; omega)]
        rw [← a1]
        congr 1
        rw [← Array.foldl_toList]
        simp
      · cases hf

/-- The places of a struct's fields. -/
def plO (P : Program) (t : TypeId) : Option (List (Nat × Nat)) :=
  match P.underlying t with
  | some (.struct fields) => fields.toList.mapM fun f => (P.info? f.type).map fun i => (f.offset, i.size)
  | some (.array n e) => (P.info? e).map fun i => (List.range n).map fun k => (k * i.size, i.size)
  | _ => none

theorem fill_more {p q : Nat → Option (Nat × Nat)} (hpq : ∀ i x, p i = some x → q i = some x) : ∀ (l : List (Nat × Value)) (c r : Array Value), Instr.fill p c l = some r → Instr.fill q c l = some r
  | [], c, r, h => h
  | (i, v) :: l, c, r, h => by
    unfold Instr.fill at h ⊢
    cases hp : p i with
    | none => rw [hp] at h; cases h
    | some x =>
      rw [hp] at h
      rw [hpq i x hp]
      obtain ⟨off, size⟩ := x
      dsimp only at h ⊢
      split at h
      · cases h
      · rename_i hc
        rw [if_neg hc]
        exact fill_more hpq l _ r h

theorem opS_build {nt : Nat} {o : Oper} {st : St} {K : D → St → Prop} {t : TypeId} {parts : Array (Nat × Operand)} {pl : List (Nat × Nat)} {z r : List D} (ho : o.op = .build t parts) (hp : plO P t = some pl)
    (hz : zeroO P t = some z) (hok : ∀ x, x ∈ parts.toList → ∀ c, c ∈ cellsD (st.ev x.2) → cellOk st.ob c) (hf : fillD (pl[·]?) z (parts.toList.map fun x => (x.1, st.ev x.2)) = some r)
    (h : K (.agg r) st) : OpS P nt o st K := by
  refine opS_pure (.agg r) h fun M H0 w0 H loc w a rel => ?_
  have hz' := hz
  unfold zeroO at hz'
  cases hi : P.info? t with
  | none => rw [hi] at hz'; cases hz'
  | some i =>
    rw [hi] at hz'
    simp only [Option.bind_some] at hz'
    cases hzv : i.zero with
    | none => rw [hzv] at hz'; cases hz'
    | some zv =>
      rw [hzv] at hz'; cases hz'
      obtain ⟨c', a1, a2, a3, a4⟩ := fill_of (H := H) (loc := loc) (obs := st.ob) (pl[·]?) (parts.toList.map fun x => (x.1, a.eval x.2)) (parts.toList.map fun x => (x.1, st.ev x.2)) (c := zv.cells) (cs := zv.cells.toList.map constC) (r := r) (by simp)
        (fun k u d h1 h2 => by
          rw [List.getElem?_map, Array.getElem?_toList, h1] at h2
          cases h2
          exact V.constC u) (by simp) (fun k x y hx hy => by
          rw [List.getElem?_map] at hx hy
          cases hq : parts.toList[k]? with
          | none => rw [hq] at hx; cases hx
          | some q =>
            rw [hq] at hx hy
            cases hx; cases hy
            exact ⟨rel.ev q.2, hok q (List.mem_of_getElem? hq)⟩) hf
      refine ⟨.agg c', ?_, .agg c' r a2 a4⟩
      have hb : P.built t (parts.map fun (i, x) => (i, a.eval x)).toList = some c' := by
        unfold Program.built
        unfold plO at hp
        rw [hi]
        cases hu : P.underlying t with
        | none => rw [hu] at hp; cases hp
        | some dsc =>
          rw [hu] at hp
          cases dsc <;> dsimp only at hp <;> try cases hp
          case struct fields =>
            dsimp only
            rw [hzv, hp]
            simp only [Array.toList_map]
            rw [← a1]
            simp
          case array n e =>
            cases he : P.info? e with
            | none => rw [he] at hp; cases hp
            | some ie =>
              rw [he] at hp
              simp only [Option.map_some, Option.some.injEq] at hp
              subst hp
              simp only [hzv, he]
              have := fill_more (q := fun i => some (i * ie.size, ie.size)) (fun i x hx => by
                simp only [List.getElem?_map] at hx
                cases hr : (List.range n)[i]? with
                | none => rw [hr] at hx; cases hx
                | some k =>
                  rw [hr] at hx
                  have : k = i := by
                    rcases Nat.lt_or_ge i n with h' | h'
                    · simp [h'] at hr; omega
                    · simp [h'] at hr
                  subst this
                  exact hx) _ _ _ a1
              simp only [Array.toList_map]
              rw [← this]
      simp only [execOp, ho, Sem.run_bind, run_build w t _ c' hb, Result.andThen_ok]
      rfl

/-- The elements of a slice literal, all of them given, in order. -/
def rowsD (s : Nat) : List (Nat × D) → Nat → Option (List (List PV))
  | [], _ => some []
  | (i, d) :: rest, k =>
    if i = k ∧ (cellsD d).length = s then
      match toPVs (cellsD d), rowsD s rest (k + 1) with
      | some x, some xs => some (x :: xs)
      | _, _ => none
    else none

theorem rowsD_get (s : Nat) : ∀ (l : List (Nat × D)) (k : Nat) (xs : List (List PV)), rowsD s l k = some xs → xs.length = l.length ∧
    ∀ (i : Nat) x, xs[i]? = some x → ∃ d, l[i]? = some (k + i, d) ∧ toPVs (cellsD d) = some x ∧ (cellsD d).length = s
  | [], k, xs, h => by cases h; exact ⟨rfl, fun i x hx => by simp at hx⟩
  | (i, d) :: rest, k, xs, h => by
    unfold rowsD at h
    split at h
    · rename_i hc
      obtain ⟨rfl, hl⟩ := hc
      cases h1 : toPVs (cellsD d) with
      | none => rw [h1] at h; cases h
      | some x =>
        cases h2 : rowsD s rest (i + 1) with
        | none => rw [h1, h2] at h; cases h
        | some ys =>
          rw [h1, h2] at h; cases h
          have ih := rowsD_get s rest (i + 1) ys h2
          refine ⟨by simp [ih.1], fun j y hy => ?_⟩
          cases j with
          | zero => simp at hy; subst hy; exact ⟨d, rfl, h1, hl⟩
          | succ j =>
            obtain ⟨d', a, b, c⟩ := ih.2 j y (by simpa using hy)
            exact ⟨d', by simp [a]; omega, b, c⟩
    · cases h

/-- A slice's element: its cells, its zero value is there. -/
def slO (P : Program) (t : TypeId) : Option Nat :=
  match P.underlying t with
  | some (.slice e) => (P.info? e).bind fun i => i.zero.bind fun z => if z.cells.size = i.size ∧ i.size ≠ 0 then some i.size else none
  | _ => none

/-- A new row. -/
theorem Rel.newRow {M : En} {H0 : HV} {w0 : World} {nt : Nat} {st : St} {a : Act} (r : Rel M H0 w0 nt H loc w st a) (e : TypeId) {c : Array Value} (s : Nat) (xs : List (List PV)) (cap : Nat) (hn : xs.length * s ≤ c.size) (hcap : cap * s ≤ c.size) (hlc : xs.length ≤ cap)
    (hs : ∀ x, x ∈ xs → x.length = s) (hc : ∀ (i : Nat) x, xs[i]? = some x → ∀ (j : Nat) y, x[j]? = some y → ∃ u, c[i * s + j]? = some u ∧ u.oneCell' = true ∧ PVr H u y) :
    ∃ loc', Rel M H0 w0 nt H loc' (w.alloc (.cells c e)) ⟨st.tm, st.ob ++ [.row s xs], st.n0⟩ a ∧
      V H loc' (st.ob ++ [.row s xs]) (.slice (some ⟨w.heap.size, 0, none⟩) xs.length cap) (.ref st.ob.length 0 xs.length) := by
  refine ⟨_, r.push (.cells c e) (.row s xs) 0 c.size (.inr ⟨rfl, c, e, heap_alloc_new w _, rfl, by show 0 + _ ≤ c.size; omega, hs, fun i x hx j y hy => ?_⟩), ?_⟩
  · show ∃ v, c[0 + i * s + j]? = some v ∧ _
    rw [Nat.zero_add]; exact hc i x hx j y hy
  · have hl : locPush loc st.ob.length ⟨w.heap.size, 0, c.size, true⟩ st.ob.length = ⟨w.heap.size, 0, c.size, true⟩ := if_pos rfl
    have := V.ref (H := H) (loc := locPush loc st.ob.length ⟨w.heap.size, 0, c.size, true⟩) (obs := st.ob ++ [.row s xs]) st.ob.length 0 xs.length cap s xs (by simp) (by omega) hlc (by omega) (by rw [hl]) (by rw [hl]; simpa using hcap)
    rw [hl] at this
    simpa using this

theorem opS_buildSlice {nt : Nat} {o : Oper} {st : St} {K : D → St → Prop} {t : TypeId} {len : Nat} {parts : Array (Nat × Operand)} {s : Nat} {xs : List (List PV)} (ho : o.op = .buildSlice t len parts) (hp : slO P t = some s)
    (hok : ∀ x, x ∈ parts.toList → ∀ c, c ∈ cellsD (st.ev x.2) → cellOk st.ob c) (hf : rowsD s (parts.toList.map fun x => (x.1, st.ev x.2)) 0 = some xs) (hlen : xs.length = len) (hsmall : len * s ≤ 16777216)
    (h : K (.ref st.ob.length 0 len) ⟨st.tm, st.ob ++ [.row s xs], st.n0⟩) : OpS P nt o st K := by
  refine opS_val fun M H0 w0 H loc w a r => ?_
  subst hlen
  obtain ⟨hl, hg⟩ := rowsD_get s _ 0 xs hf
  rw [List.length_map] at hl
  unfold slO at hp
  cases hu : P.underlying t with
  | none => rw [hu] at hp; cases hp
  | some dsc =>
    rw [hu] at hp
    cases dsc <;> dsimp only at hp <;> try cases hp
    case slice e =>
      cases hi : P.info? e with
      | none => rw [hi] at hp; cases hp
      | some i =>
        rw [hi] at hp
        simp only [Option.bind_some] at hp
        cases hz : i.zero with
        | none => rw [hz] at hp; cases hp
        | some z =>
          rw [hz] at hp
          simp only [Option.bind_some] at hp
          split at hp
          · rename_i hzs
            cases hp
            have hs : ∀ x, x ∈ xs → x.length = i.size := fun x hx => by
              obtain ⟨k, hk⟩ := List.mem_iff_getElem?.1 hx
              obtain ⟨d, _, h2, h3⟩ := hg k x hk
              rw [(toPVs_get h2).1, h3]
            -- the cells that the parts leave
            have hfill : ∀ (ps : List (Nat × Value)) (k : Nat) (c : Array Value), (∀ (m : Nat) q, ps[m]? = some q → q.1 = k + m ∧ q.2.cells.size = i.size) → (k + ps.length) * i.size ≤ c.size →
                ∃ c', Instr.fill (fun j => some (j * i.size, i.size)) c ps = some c' ∧ c'.size = c.size ∧ (∀ m, m < k * i.size → c'[m]? = c[m]?) ∧
                  ∀ (m : Nat) q, ps[m]? = some q → ∀ j, j < i.size → c'[(k + m) * i.size + j]? = q.2.cells[j]? := by
              intro ps
              induction ps with
              | nil => intro k c _ _; exact ⟨c, rfl, rfl, fun _ _ => rfl, fun m q hq => by simp at hq⟩
              | cons p ps ih =>
                intro k c hps hfit
                obtain ⟨pi, pv⟩ := p
                obtain ⟨e1, e2⟩ := hps 0 _ rfl
                dsimp only at e1 e2
                simp only [Nat.add_zero] at e1
                subst e1
                simp only [List.length_cons] at hfit
                have hk1 : pi * i.size + i.size ≤ c.size := by
                  have : (pi + 1) * i.size ≤ (pi + (ps.length + 1)) * i.size := Nat.mul_le_mul_right _ (by omega)
                  rw [Nat.succ_mul] at this; omega
                have hfold := fold_fill (pi * i.size) pv.cells.toList 0 c (by simp; omega)
                simp only [Nat.add_zero, Array.length_toList] at hfold
                obtain ⟨c', b1, b2, b3, b4⟩ := ih (pi + 1) ((pv.cells.toList.zipIdx 0).foldl (fun (cs : Array Value) (x : Value × Nat) => cs.setIfInBounds (pi * i.size + x.2) x.1) c)
                  (fun m q hq => by
                    have := hps (m + 1) q (by simpa using hq)
                    exact ⟨by omega, this.2⟩) (by rw [hfold.1, show pi + 1 + ps.length = pi + (ps.length + 1) by omega]; exact hfit)
                refine ⟨c', ?_, by rw [b2, hfold.1], fun m hm => ?_, fun m q hq j hj => ?_⟩
                · unfold Instr.fill
                  dsimp only
                  rw [if_neg (by simp; omega), ← b1]
                  congr 1
                  rw [← Array.foldl_toList]
                  simp
                · rw [b3 m (by rw [Nat.succ_mul]; omega), hfold.2, if_neg (by omega)]
                · cases m with
                  | zero =>
                    simp at hq; subst hq
                    dsimp only
                    rw [Nat.add_zero, b3 _ (by rw [Nat.succ_mul]; omega), hfold.2, if_pos (by omega), Array.getElem?_toList]
                    congr 1; omega
                  | succ m =>
                    have := b4 m q (by simpa using hq) j hj
                    rw [show pi + (m + 1) = pi + 1 + m by omega]; exact this
            have hps : ∀ (m : Nat) q, (parts.map fun (x : Nat × Operand) => (x.1, a.eval x.2)).toList[m]? = some q → q.1 = 0 + m ∧ q.2.cells.size = i.size ∧ ∃ d, V H loc st.ob q.2 d ∧ (∀ c, c ∈ cellsD d → cellOk st.ob c) ∧ ∀ x, xs[m]? = some x → toPVs (cellsD d) = some x := fun m q hq => by
              rw [Array.toList_map, List.getElem?_map] at hq
              cases hx : parts.toList[m]? with
              | none => rw [hx] at hq; cases hq
              | some p =>
                rw [hx] at hq; cases hq
                have hm : m < xs.length := by
                  rw [hl]
                  rcases Nat.lt_or_ge m parts.toList.length with h' | h'
                  · exact h'
                  · simp [List.getElem?_eq_none h'] at hx
                obtain ⟨d, h1, h2, h3⟩ := hg m _ (List.getElem?_eq_getElem hm)
                rw [List.getElem?_map, hx] at h1
                simp only [Option.map_some, Option.some.injEq, Prod.mk.injEq] at h1
                obtain ⟨h1, rfl⟩ := h1
                have hok' := hok p (List.mem_of_getElem? hx)
                have hv := r.ev p.2
                refine ⟨h1, by rw [(hv.cellsD hok').1, h3], _, hv, hok', fun x hx => ?_⟩
                rw [List.getElem?_eq_getElem hm] at hx; cases hx; exact h2
            by_cases h0 : xs.length = 0
            · obtain rfl : xs = [] := List.length_eq_zero_iff.1 h0
              have hpe : parts = #[] := by
                apply Array.ext'
                have : parts.toList.length = 0 := by rw [← hl]; rfl
                simpa using this
              obtain ⟨loc', r', hv'⟩ := r.newRow e (c := #[]) i.size [] 0 (by simp) (by simp) (by simp) (by simp) (by simp)
              refine ⟨_, _, H, loc', _, _, ?_, h, hv', r'⟩
              subst hpe
              simp [execOp, ho, Instr.buildSlice, run_underlying hu, sizeOf, typeInfo, hi, Instr.fill, Go.newRow]
              have he : ∀ f : Nat → Value, Array.map f (Array.range 0) = #[] := fun f => Array.eq_empty_of_size_eq_zero (by simp)
              rw [he]
            · obtain ⟨c', b1, b2, b3, b4⟩ := hfill (parts.map fun (x : Nat × Operand) => (x.1, a.eval x.2)).toList 0 ((Array.range (xs.length * i.size)).map (z.cells[· % z.cells.size]!))
                (fun m q hq => ⟨(hps m q hq).1, (hps m q hq).2.1⟩) (by simp [hl])
              have hrun := run_buildSlice (P := P) w t e xs.length (parts.map fun (x : Nat × Operand) => (x.1, a.eval x.2)) c' i z hu hi hz (by omega) (by
                intro hh
                rcases Nat.mul_eq_zero.1 hh with hh | hh
                · exact h0 hh
                · exact hzs.2 hh) b1
              obtain ⟨loc', r', hv'⟩ := r.newRow e (c := c') i.size xs xs.length (by rw [b2]; simp) (by rw [b2]; simp) (Nat.le_refl _) hs (fun k x hx j y hy => by
                have hk : k < xs.length := by
                  rcases Nat.lt_or_ge k xs.length with h' | h'
                  · exact h'
                  · simp [List.getElem?_eq_none h'] at hx
                have hq : (parts.map fun (x : Nat × Operand) => (x.1, a.eval x.2)).toList[k]? = some ((parts.map fun (x : Nat × Operand) => (x.1, a.eval x.2)).toList[k]'(by simp at hl; simp; omega)) := List.getElem?_eq_getElem _
                obtain ⟨_, hsz, d, hv, hok', hpv⟩ := hps k _ hq
                have hj : j < i.size := by
                  rw [← hs x (List.mem_of_getElem? hx)]
                  rcases Nat.lt_or_ge j x.length with h' | h'
                  · exact h'
                  · simp [List.getElem?_eq_none h'] at hy
                have hcell := b4 k _ hq j hj
                obtain ⟨d', hd1, hd2⟩ := (toPVs_get (hpv x hx)).2 j y hy
                have hjj := Array.getElem?_eq_getElem (xs := ((parts.map fun (x : Nat × Operand) => (x.1, a.eval x.2)).toList[k]'(by simp at hl; simp; omega)).2.cells) (i := j) (by omega)
                have := (hv.cellsD hok').2 j _ d' hjj hd1
                refine ⟨_, ?_, this.2, toPV_of this.1 hd2⟩
                rw [Nat.zero_add] at hcell
                rw [hcell]; exact hjj)
              refine ⟨_, _, H, loc', _, _, ?_, h, hv', r'⟩
              simp only [execOp, ho, Sem.run_bind, hrun, Result.andThen_ok]
              rfl
          · cases hp

end
end Go.Ab

/- Parts of slices, and appends, over abstract states. No program is named here. -/
namespace Go.Ab

section
variable {P : Program} {H : HV} {loc : Nat → Loc} {obs : List Ob} {w : World}

/-- A slice's elements as they are known. -/
def rowsOf (obs : List Ob) : D → Option (List (List PV))
  | .p (.sl xs) => some xs
  | .nil => some []
  | .ref id off len => match obs[id]? with | some (.row _ xs) => some ((xs.drop off).take len) | _ => none
  | _ => none

/-- The cells of a slice, and what they are known as. -/
theorem rows_cells (hs : Sr H loc obs w) {v : Value} {d : D} {xs : List (List PV)} (hv : V H loc obs v d) (hd : rowsOf obs d = some xs) {s : Nat} (hl : ∀ x, x ∈ xs → x.length = s) :
    ∃ a cap, v = .slice a xs.length cap ∧ (xs ≠ [] → ∃ b o, a = some ⟨b, o, none⟩ ∧ ∀ (i : Nat) x, xs[i]? = some x → ∀ (j : Nat) y, x[j]? = some y →
      ∃ u, w.cell? ⟨b, o + i * s + j, none⟩ = some u ∧ u.oneCell' = true ∧ PVr H u y) := by
  have cell : ∀ b o (c : Array Value) e f u, w.heap[b]? = some (.cells c e f) → c[o]? = some u → w.cell? ⟨b, o, none⟩ = some u := fun b o c e f u h1 h2 => by
    simp [World.cell?, h1, h2]
  cases hv with
  | p v x hp =>
    cases hp with
    | lit v => cases hd
    | none a cap => cases hd; exact ⟨a, cap, rfl, fun h => absurd rfl h⟩
    | sl b o cap s' c xs' g hb hs' hcap hc h1 hr =>
      cases hd
      refine ⟨_, cap, rfl, fun hne => ⟨b, o, rfl, fun i x hx j y hy => ?_⟩⟩
      have he : s' = s := by
        have := List.mem_of_getElem? hx
        rw [← hs' x this, hl x this]
      subst he
      obtain ⟨c', e, f, hw, hp⟩ := hs.heap b c hb
      exact ⟨g i j, cell _ _ c' e f _ hw (hp _ _ (hc i x hx j y hy)), h1 i x hx j y hy, hr i x hx j y hy⟩
  | nil => cases hd; exact ⟨_, 0, rfl, fun h => absurd rfl h⟩
  | ref id off len cap s' xs' ho hlen hcap hx hr hn =>
    simp only [rowsOf, ho] at hd
    cases hd
    refine ⟨_, cap, by congr 1; simp; omega, fun hne => ⟨_, _, rfl, fun i x hx j y hy => ?_⟩⟩
    have hi : i < len ∧ xs'[off + i]? = some x := by
      rw [List.getElem?_take] at hx
      split at hx
      · rename_i h; rw [List.getElem?_drop] at hx; exact ⟨h, hx⟩
      · cases hx
    rcases hs.obj id _ ho with ⟨_, rfl⟩ | ⟨_, c, e, h1, h2, h3, h4, h5⟩
    · simp at hi
    · have he : s' = s := by rw [← h4 x (List.mem_of_getElem? hi.2), hl x (List.mem_of_getElem? hx)]
      subst he
      obtain ⟨u, a1, a2, a3⟩ := h5 (off + i) x hi.2 j y hy
      refine ⟨u, cell _ _ c e _ u h1 ?_, a2, a3⟩
      rw [show (loc id).o + off * s' + i * s' + j = (loc id).o + (off + i) * s' + j by rw [Nat.add_mul]; omega]
      exact a1
  | ref0 a id off s' xs' ho hlen =>
    simp only [rowsOf, ho] at hd
    cases hd
    exact ⟨a, 0, by simp, fun h => absurd (by simp) h⟩
  | refGone v id off len ho => simp only [rowsOf, ho] at hd; cases hd
  | _ => cases hd

/-- What an append reads of its source. -/
theorem rows_src (hs : Sr H loc obs w) {v : Value} {d : D} {xs : List (List PV)} (hv : V H loc obs v d) (hd : rowsOf obs d = some xs) {s : Nat} (hl : ∀ x, x ∈ xs → x.length = s) {tx e' : TypeId} (hk : P.underlying tx = some (.slice e')) :
    ∃ news, Src P s tx v xs.length news w ∧ ∀ (i : Nat) x, xs[i]? = some x → ∀ (j : Nat) y, x[j]? = some y → ∃ u, news[i * s + j]? = some u ∧ u.oneCell' = true ∧ PVr H u y := by
  obtain ⟨a, cap, rfl, hc⟩ := rows_cells hs hv hd hl
  by_cases hne : xs = []
  · subst hne
    refine ⟨[], ?_, fun i x hx => by simp at hx⟩
    have hb : ∀ W : World, (Builtin.firstCells s 0 (.slice a 0 cap)).run P W = .ok #[] W := fun W => by
      cases a with
      | none => rfl
      | some b => simp only [Builtin.firstCells, Nat.zero_mul]; rfl
    exact ⟨.inl ⟨e', hk⟩, fun _ => rfl, hb w, hb w.drew, by simp, fun u hu => by simp at hu⟩
  · obtain ⟨b, o, rfl, hcell⟩ := hc hne
    let f : Nat → Value := fun k => (w.cell? ⟨b, o + k, none⟩).getD undef
    have hget : ∀ k, k < xs.length * s → ∃ x y, xs[k / s]? = some x ∧ x[k % s]? = some y := fun k hk => by
      have hs0 : 0 < s := by
        rcases Nat.eq_zero_or_pos s with h | h
        · subst h; omega
        · exact h
      have h1 : k / s < xs.length := (Nat.div_lt_iff_lt_mul hs0).2 hk
      have h2 : k % s < s := Nat.mod_lt _ hs0
      refine ⟨xs[k / s], _, List.getElem?_eq_getElem h1, List.getElem?_eq_getElem (by rw [hl _ (List.getElem_mem h1)]; exact h2)⟩
    have hfk : ∀ k, k < xs.length * s → w.cell? ⟨b, o + k, none⟩ = some (f k) ∧ (f k).oneCell' = true := fun k hk => by
      obtain ⟨x, y, hx, hy⟩ := hget k hk
      obtain ⟨u, h1, h2, _⟩ := hcell _ x hx _ y hy
      have e : o + k / s * s + k % s = o + k := by have := Nat.div_add_mod' k s; omega
      rw [e] at h1
      have : f k = u := by simp [f, h1]
      rw [this]; exact ⟨h1, h2⟩
    refine ⟨(List.range (xs.length * s)).map f, Src.ofSlice w hk ⟨b, o, none⟩ _ cap _ (by simp) (fun j u hj => ?_) (fun u hu => ?_), fun i x hx j y hy => ?_⟩
    · rw [List.getElem?_map] at hj
      cases hr : (List.range (xs.length * s))[j]? with
      | none => rw [hr] at hj; cases hj
      | some m =>
        rw [hr] at hj; cases hj
        obtain ⟨hlt, hm⟩ := List.getElem?_eq_some_iff.1 hr
        simp at hlt hm
        subst hm
        rw [Addr.add_lit]; exact (hfk j hlt).1
    · obtain ⟨k, hk, rfl⟩ := List.mem_map.1 hu
      exact (hfk k (by simpa using hk)).2
    · obtain ⟨u, h1, h2, h3⟩ := hcell i x hx j y hy
      have hi : i < xs.length := by
        rcases Nat.lt_or_ge i xs.length with h' | h'
        · exact h'
        · simp [List.getElem?_eq_none h'] at hx
      have hj : j < s := by
        rw [← hl x (List.mem_of_getElem? hx)]
        rcases Nat.lt_or_ge j x.length with h' | h'
        · exact h'
        · simp [List.getElem?_eq_none h'] at hy
      have hk : i * s + j < xs.length * s := by
        have : (i + 1) * s ≤ xs.length * s := Nat.mul_le_mul_right s hi
        rw [Nat.succ_mul] at this; omega
      refine ⟨u, ?_, h2, h3⟩
      rw [List.getElem?_map, List.getElem?_range hk]
      have := (hfk _ hk).1
      rw [show o + (i * s + j) = o + i * s + j by omega, h1] at this
      simpa using this.symm

/-- A slice's element type, as an append asks for it. -/
def apO (P : Program) (t : TypeId) : Option (Nat × Nat) :=
  match P.underlying t with
  | some (.slice e) => (P.info? e).bind fun i => i.zero.bind fun z => if z.cells.size = i.size ∧ i.size ≠ 0 ∧ i.bytes ≠ 0 then some (i.size, i.bytes) else none
  | _ => none

theorem apO_of {t : TypeId} {s n : Nat} (h : apO P t = some (s, n)) : ∃ e i z, P.underlying t = some (.slice e) ∧ P.info? e = some i ∧ i.zero = some z ∧ z.cells.size = s ∧ i.size = s ∧ i.bytes = n ∧ s ≠ 0 ∧ n ≠ 0 := by
  unfold apO at h
  cases hu : P.underlying t with
  | none => rw [hu] at h; cases h
  | some d =>
    rw [hu] at h
    cases d <;> dsimp only at h <;> try cases h
    case slice e =>
      cases hi : P.info? e with
      | none => rw [hi] at h; cases h
      | some i =>
        rw [hi] at h
        simp only [Option.bind_some] at h
        cases hz : i.zero with
        | none => rw [hz] at h; cases h
        | some z =>
          rw [hz] at h
          simp only [Option.bind_some] at h
          split at h
          · rename_i hc; cases h; exact ⟨e, i, z, rfl, hi, hz, hc.1, rfl, rfl, hc.2.1, hc.2.2⟩
          · cases h

theorem nextcap_le (need old : Nat) (h : old < need) : Builtin.nextslicecap need old ≤ 2 * need := by
  unfold Builtin.nextslicecap
  split
  · omega
  · split
    · omega
    · have hg : ∀ r c, c < 2 * need → 256 ≤ c → Builtin.growBy need r c ≤ 2 * need := by
        intro r
        induction r with
        | zero => intro c hc _; simp [Builtin.growBy]; omega
        | succ r ih =>
          intro c hc h256
          unfold Builtin.growBy
          split
          · omega
          · exact ih _ (by omega) (by omega)
      exact hg _ _ (by omega) (by omega)

theorem setCells_heap (b : Nat) : ∀ (vs : List Value) (o : Nat) (w : World) (c : Array Value) (e : TypeId), w.heap[b]? = some (.cells c e (0, 0)) → o + vs.length ≤ c.size →
    (w.setCells b o vs).heap[b]? = some (.cells (putAt c.toList o vs).toArray e (0, 0)) ∧ (∀ k, k ≠ b → (w.setCells b o vs).heap[k]? = w.heap[k]?) ∧ (w.setCells b o vs).heap.size = w.heap.size ∧
    (w.setCells b o vs).os = w.os ∧ (w.setCells b o vs).tape = w.tape ∧ (w.setCells b o vs).output = w.output
  | [], o, w, c, e, h, hl => by
    refine ⟨?_, fun _ _ => rfl, rfl, rfl, rfl, rfl⟩
    simp [World.setCells, putAt, h]
  | v :: vs, o, w, c, e, h, hl => by
    simp only [List.length_cons] at hl
    have h1 : (w.setCell ⟨b, o, none⟩ v).heap[b]? = some (.cells (c.setIfInBounds o v) e (0, 0)) := by
      simp [World.setCell, Array.getElem?_modify, h]
    obtain ⟨a1, a2, a3, a4, a5, a6⟩ := setCells_heap b vs (o + 1) (w.setCell ⟨b, o, none⟩ v) _ e h1 (by simp; omega)
    refine ⟨?_, fun k hk => ?_, by rw [show w.setCells b o (v :: vs) = (w.setCell ⟨b, o, none⟩ v).setCells b (o + 1) vs from rfl, a3]; simp [World.setCell], a4, a5, a6⟩
    · rw [show w.setCells b o (v :: vs) = (w.setCell ⟨b, o, none⟩ v).setCells b (o + 1) vs from rfl, a1]
      congr 3
      apply List.ext_getElem?
      intro k
      rw [putAt_get (by simp; omega), putAt_get (by simp; omega)]
      simp only [List.length_cons, Array.toList_setIfInBounds, List.getElem?_set]
      by_cases h1 : o + 1 ≤ k ∧ k < o + 1 + vs.length
      · rw [if_pos h1, if_pos (by omega), show k - o = (k - (o + 1)) + 1 by omega, List.getElem?_cons_succ]
      · rw [if_neg h1]
        by_cases h2 : o = k
        · subst h2
          have hlt : o < c.toList.length := by simp; omega
          rw [if_pos rfl, if_pos hlt, if_pos (by omega)]; simp
        · rw [if_neg h2, if_neg (by omega)]
    · rw [show w.setCells b o (v :: vs) = (w.setCell ⟨b, o, none⟩ v).setCells b (o + 1) vs from rfl, a2 k hk]
      simp [World.setCell, Array.getElem?_modify, Ne.symm hk]

end
end Go.Ab

/- Appends over abstract states. No program is named here. -/
namespace Go.Ab

section
variable {P : Program} {M : En} {H0 : HV} {w0 : World} {nt : Nat} {H : HV} {loc : Nat → Loc} {w : World} {st : St} {a : Act}

/-- One more object, in memory that is there (or a row without elements, in none). -/
theorem Rel.adopt (r : Rel M H0 w0 nt H loc w st a) (o : Ob) (l : Loc) (hH : l.r = true → H l.b = none) (hne : l.r = true → ∀ (i : Nat) y, st.ob[i]? = some y → y.live = true → (loc i).r = true → (loc i).b ≠ l.b)
    (hown : l.r = true → M.M l.b ∨ w0.heap.size ≤ l.b) (hn : o.holds H (locPush loc st.ob.length l) (st.ob ++ [o]) w l) : Rel M H0 w0 nt H (locPush loc st.ob.length l) w ⟨st.tm, st.ob ++ [o], st.n0⟩ a := by
  have part : ∀ {i : Nat} {y : Ob}, (st.ob ++ [o])[i]? = some y → (i < st.ob.length ∧ st.ob[i]? = some y) ∨ (i = st.ob.length ∧ y = o) := fun {i y} hi => by
    rcases Nat.lt_trichotomy i st.ob.length with hlt | heq | hgt
    · rw [List.getElem?_append_left hlt] at hi; exact .inl ⟨hlt, hi⟩
    · subst heq; simp at hi; exact .inr ⟨rfl, hi.symm⟩
    · rw [List.getElem?_eq_none (by simp; omega)] at hi; cases hi
  have hold : ∀ {i : Nat}, i < st.ob.length → locPush loc st.ob.length l i = loc i := fun h => if_neg (by omega)
  have hnew : locPush loc st.ob.length l st.ob.length = l := if_pos rfl
  refine ⟨⟨r.sr.heap, fun i y hi => ?_, fun i y hi hl hr => ?_, fun i j y y' hi hj hl hl' hr hr' e => ?_⟩, fun t => (r.tm t).turn (.refl H) (turns_push _ _ _ _), r.sz, r.df, r.gr, fun i y hi hl hr => ?_, r.n0, fun k y hk => ?_⟩
  · rcases part hi with ⟨hlt, hi⟩ | ⟨rfl, rfl⟩
    · rw [hold hlt]; exact Ob.holds_turn (.refl H) (turns_push st.ob loc o l) (fun _ => rfl) (r.sr.obj i y hi)
    · rw [hnew]; exact hn
  · rcases part hi with ⟨hlt, hi⟩ | ⟨e1, e2⟩
    · rw [hold hlt] at hr ⊢; exact r.sr.apart i y hi hl hr
    · rw [e1, hnew] at hr ⊢; exact hH hr
  · rcases part hi with ⟨hlt, hi2⟩ | ⟨e1, e2⟩ <;> rcases part hj with ⟨hlt', hj2⟩ | ⟨e3, e4⟩
    · rw [hold hlt, hold hlt'] at e; rw [hold hlt] at hr; rw [hold hlt'] at hr'; exact r.sr.inj i j y y' hi2 hj2 hl hl' hr hr' e
    · rw [hold hlt, e3, hnew] at e; rw [hold hlt] at hr; rw [e3, hnew] at hr'
      exact absurd e (hne hr' i y hi2 hl hr)
    · rw [hold hlt', e1, hnew] at e; rw [hold hlt'] at hr'; rw [e1, hnew] at hr
      exact absurd e.symm (hne hr j y' hj2 hl' hr')
    · rw [e1, e3]
  · rcases part hi with ⟨hlt, hi2⟩ | ⟨e1, e2⟩
    · rw [hold hlt] at hr ⊢; exact r.own i y hi2 hl hr
    · rw [e1, hnew] at hr ⊢; exact hown hr
  · rcases r.ent k y hk with h1 | ⟨o', h1, h2, h3⟩
    · exact .inl (get_push_old h1).1
    · exact .inr ⟨o', (get_push_old h1).1, h2, (if_neg (get_push_old (o := o) h1).2).trans h3⟩

/-- A row without elements, in no memory. -/
theorem Rel.newEmpty (r : Rel M H0 w0 nt H loc w st a) (s : Nat) (b : Option Addr) : ∃ loc', Rel M H0 w0 nt H loc' w ⟨st.tm, st.ob ++ [.row s []], st.n0⟩ a ∧ V H loc' (st.ob ++ [.row s []]) (.slice b 0 0) (.ref st.ob.length 0 0) :=
  ⟨_, r.adopt (.row s []) ⟨0, 0, 0, false⟩ (by simp) (by simp) (by simp) (.inl ⟨rfl, rfl⟩), .ref0 b st.ob.length 0 s [] (by simp) (by simp)⟩

/-- An object is let go. -/
theorem Rel.kill (r : Rel M H0 w0 nt H loc w st a) {id : Nat} {o : Ob} (ho : st.ob[id]? = some o) : Rel M H0 w0 nt H loc w ⟨st.tm, st.ob.set id .dead, st.n0⟩ a ∨ o = .unborn := by
  by_cases hu : o = .unborn
  · exact .inr hu
  · refine .inl ?_
    have hs : o.sameShape .dead := by cases o <;> (trivial)
    have hlt : id < st.ob.length := by
      rcases Nat.lt_or_ge id st.ob.length with h' | h'
      · exact h'
      · simp [List.getElem?_eq_none h'] at ho
    have get : ∀ {i : Nat} {y : Ob}, (st.ob.set id .dead)[i]? = some y → y = .dead ∨ st.ob[i]? = some y := fun {i y} hi => by
      rw [List.getElem?_set] at hi
      split at hi
      · simp [hlt] at hi; exact .inl hi.symm
      · exact .inr hi
    refine ⟨⟨r.sr.heap, fun i y hi => ?_, fun i y hi hl hr => ?_, fun i j y y' hi hj hl hl' hr hr' e => ?_⟩, fun t => (r.tm t).turn (.refl H) (turns_set ho hs), r.sz, r.df, r.gr, fun i y hi hl hr => ?_, r.n0, fun k y hk => ?_⟩
    · rcases get hi with rfl | hi
      · trivial
      · exact Ob.holds_turn (.refl H) (turns_set ho hs) (fun _ => rfl) (r.sr.obj i y hi)
    · rcases get hi with rfl | hi
      · cases hl
      · exact r.sr.apart i y hi hl hr
    · rcases get hi with rfl | hi
      · cases hl
      · rcases get hj with rfl | hj
        · cases hl'
        · exact r.sr.inj i j y y' hi hj hl hl' hr hr' e
    · rcases get hi with rfl | hi
      · cases hl
      · exact r.own i y hi hl hr
    · dsimp only
      rw [List.getElem?_set]
      split
      · rename_i e
        subst e
        simp [hlt]
      · exact r.ent k y hk

theorem exec_append {P : Program} {o : Oper} {a : Act} {w : World} {x y : Operand} {t tx : TypeId} (ho : o.op = .call { callee := .builtin .append, args := #[x, y], argTypes := #[t, tx] }) :
    (execOp a.eval o).run P w = ((Builtin.append_ #[t, tx] o.type #[a.eval x, a.eval y]).run P w).andThen fun v w => .ok (.value v) w := by
  simp [execOp, ho, resolve, invoke, builtin]

/-- What an append comes to. -/
def appendD (s n : Nat) (st : St) (x y : D) (K : D → St → Prop) : Prop :=
  match rowsOf st.ob y with
  | some ys =>
    (∀ z, z ∈ ys → z.length = s) ∧
    match x with
    | .nil => (0 + ys.length) * n ≤ 140737488355328 ∧ K (.ref st.ob.length 0 ys.length) ⟨st.tm, st.ob ++ [.row s ys], st.n0⟩
    | .ref id off len =>
      match st.ob[id]? with
      | some (.row s' xs) => s' = s ∧ off + len ≤ xs.length ∧ (len + ys.length) * n ≤ 140737488355328 ∧
          K (.ref st.ob.length 0 (len + ys.length)) ⟨st.tm, st.ob.set id .dead ++ [.row s ((xs.drop off).take len ++ ys)], st.n0⟩
      | _ => False
    | _ => False
  | none => False

theorem grown_ge (w : World) (need cap : Nat) (e : TypeId) (h63 : (need : Int) ≤ 9223372036854775807) : need ≤ grownCap w need cap e := by
  unfold grownCap
  simp only [Question.cut]
  omega

theorem zeroCells_size (z : Array Value) (n : Nat) : (Builtin.zeroCells z n).size = n * z.size := by simp [Builtin.zeroCells]

/-- A row of old and new elements, cell by cell. -/
theorem row_join {s : Nat} {xs ys : List (List PV)} {olds news rest : List Value} (hx : ∀ x, x ∈ xs → x.length = s) (ho : olds.length = xs.length * s)
    (h1 : ∀ (i : Nat) x, xs[i]? = some x → ∀ (j : Nat) y, x[j]? = some y → ∃ u, olds[i * s + j]? = some u ∧ u.oneCell' = true ∧ PVr H u y) (hn : news.length = ys.length * s) (hy : ∀ x, x ∈ ys → x.length = s)
    (h2 : ∀ (i : Nat) x, ys[i]? = some x → ∀ (j : Nat) y, x[j]? = some y → ∃ u, news[i * s + j]? = some u ∧ u.oneCell' = true ∧ PVr H u y) :
    ∀ (i : Nat) x, (xs ++ ys)[i]? = some x → ∀ (j : Nat) y, x[j]? = some y → ∃ u, (olds ++ news ++ rest)[i * s + j]? = some u ∧ u.oneCell' = true ∧ PVr H u y := by
  intro i x hi j y hj
  have hlt : ∀ {zs : List (List PV)} {i : Nat}, zs[i]? = some x → (∀ x, x ∈ zs → x.length = s) → i * s + j < zs.length * s := fun {zs i} hi hz => by
    have h1 : i < zs.length := by
      rcases Nat.lt_or_ge i zs.length with h' | h'
      · exact h'
      · simp [List.getElem?_eq_none h'] at hi
    have h2 : j < s := by
      rw [← hz x (List.mem_of_getElem? hi)]
      rcases Nat.lt_or_ge j x.length with h' | h'
      · exact h'
      · simp [List.getElem?_eq_none h'] at hj
    have : (i + 1) * s ≤ zs.length * s := Nat.mul_le_mul_right s h1
    rw [Nat.succ_mul] at this; omega
  by_cases h : i < xs.length
  · rw [List.getElem?_append_left h] at hi
    obtain ⟨u, a, b⟩ := h1 i x hi j y hj
    have := hlt hi hx
    exact ⟨u, by rw [List.append_assoc, List.getElem?_append_left (by omega)]; exact a, b⟩
  · rw [List.getElem?_append_right (by omega)] at hi
    obtain ⟨u, a, b⟩ := h2 _ x hi j y hj
    have h3 := hlt hi hy
    have e : i * s = xs.length * s + (i - xs.length) * s := by rw [← Nat.add_mul]; congr 1; omega
    refine ⟨u, ?_, b⟩
    rw [List.append_assoc, List.getElem?_append_right (by omega), List.getElem?_append_left (by omega), show i * s + j - olds.length = (i - xs.length) * s + j by omega]
    exact a

theorem opS_append {o : Oper} {K : D → St → Prop} {x y : Operand} {t tx : TypeId} {s n : Nat} (ho : o.op = .call { callee := .builtin .append, args := #[x, y], argTypes := #[t, tx] }) (ht : apO P t = some (s, n)) (htx : ∃ e, P.underlying tx = some (.slice e))
    (h : appendD s n st (st.ev x) (st.ev y) K) : OpS P nt o st K := by
  refine opS_val fun M H0 w0 H loc w a r => ?_
  obtain ⟨e, i, z, hu, hi, hz, hzs, his, hib, hs0, hn0⟩ := apO_of ht
  have lt63 : ∀ m : Nat, m * n ≤ 140737488355328 → (m : Int) ≤ 9223372036854775807 := fun m hm => by
    have : m * 1 ≤ m * n := Nat.mul_le_mul_left m (by omega)
    omega
  obtain ⟨e', hk⟩ := htx
  have hvx := r.ev x
  have hvy := r.ev y
  rw [exec_append ho]
  generalize a.eval x = vx at hvx
  generalize a.eval y = vy at hvy
  generalize st.ev x = dx at hvx h
  generalize st.ev y = dy at hvy h
  unfold appendD at h
  cases hr : rowsOf st.ob dy with
  | none => rw [hr] at h; exact h.elim
  | some ys =>
    rw [hr] at h
    dsimp only at h
    obtain ⟨hys, h⟩ := h
    obtain ⟨news, hsrc, hnews⟩ := rows_src r.sr hvy hr hys hk
    rw [← his] at hsrc
    have hnl : news.length = ys.length * s := by rw [hsrc.newsLen, his]
    -- from nothing
    have fromNone : ∀ (st1 : St) (b : Option Addr), Rel M H0 w0 nt H loc w st1 a → ys.length * n ≤ 140737488355328 →
        ∃ v w' loc', (Builtin.append_ #[t, tx] o.type #[.slice b 0 0, vy]).run P w = .ok v w' ∧ Rel M H0 w0 nt H loc' w' ⟨st1.tm, st1.ob ++ [.row s ys], st1.n0⟩ a ∧ V H loc' (st1.ob ++ [.row s ys]) v (.ref st1.ob.length 0 ys.length) := by
      intro st1 b r1 hfit
      by_cases h0 : ys.length = 0
      · obtain rfl : ys = [] := List.length_eq_zero_iff.1 h0
        obtain rfl : news = [] := List.length_eq_zero_iff.1 (by rw [hnl]; simp)
        obtain ⟨loc', r', hv'⟩ := r1.newEmpty s b
        exact ⟨_, _, loc', run_append_nothing w t tx o.type e i hu hi b 0 0 (Nat.le_refl _) vy hsrc, r', hv'⟩
      · have hbig : ys.length * n ≤ 140737488355328 := hfit
        have h63 : ((0 + ys.length : Nat) : Int) ≤ 9223372036854775807 := by
          rw [Nat.zero_add]; exact lt63 _ hfit
        have hcap := nextcap_le (0 + ys.length) 0 (by omega)
        have hrun := run_append_grow_src (P := P) w t tx o.type e i z hu hi hz b 0 0 [] (by cases b <;> simp [Builtin.firstCells, loadCells, loadCellsFrom]) vy ys.length news hsrc (by omega) h63
          (by rw [hib]; calc _ ≤ 2 * (0 + ys.length) * n := Nat.mul_le_mul_right n hcap
                        _ ≤ 281474976710656 := by rw [Nat.mul_assoc]; simp; omega)
        have hge := grown_ge w (0 + ys.length) 0 e h63
        generalize grownCap w (0 + ys.length) 0 e = cap at hrun hge
        have hsz : (([] ++ news : List Value).toArray ++ Builtin.zeroCells z.cells (cap - (0 + ys.length))).size = cap * s := by
          simp [zeroCells_size, hnl, hzs]
          rw [← Nat.add_mul]; congr 1; omega
        obtain ⟨loc', r', hv'⟩ := r1.drew.newRow e (c := ([] ++ news : List Value).toArray ++ Builtin.zeroCells z.cells (cap - (0 + ys.length))) s ys cap (by rw [hsz]; exact Nat.mul_le_mul_right s (by omega)) (by rw [hsz]; exact Nat.le_refl _) (by omega) hys
          (fun k x hx j y hy => by
            obtain ⟨u, a1, a2⟩ := hnews k x hx j y hy
            refine ⟨u, ?_, a2⟩
            have hlt : k * s + j < news.length := by
              rcases Nat.lt_or_ge (k * s + j) news.length with h' | h'
              · exact h'
              · simp [List.getElem?_eq_none h'] at a1
            rw [Array.getElem?_append_left (by simpa using hlt)]
            simpa using a1)
        refine ⟨_, _, loc', hrun, r', ?_⟩
        simpa using hv'
    cases dx with
    | nil =>
      dsimp only at h
      cases hvx with
      | nil =>
        obtain ⟨v, w', loc', h1, h2, h3⟩ := fromNone st none r (by simpa using h.1)
        exact ⟨v, w', H, loc', _, _, by rw [h1]; rfl, h.2, h3, h2⟩
    | ref id off len =>
      dsimp only at h
      split at h
      · rename_i s' xs hob
        obtain ⟨rfl, hol, hfit, hK⟩ := h
        have hkill : Rel M H0 w0 nt H loc w ⟨st.tm, st.ob.set id .dead, st.n0⟩ a := (r.kill hob).resolve_right (by simp)
        have hlen : (st.ob.set id .dead).length = st.ob.length := by simp
        cases hvx with
        | refGone _ _ _ _ ho' => rw [hob] at ho'; cases ho'
        | ref0 b _ _ _ _ ho' hl' =>
          obtain ⟨v, w', loc', h1, h2, h3⟩ := fromNone ⟨st.tm, st.ob.set id .dead, st.n0⟩ b hkill (by simpa using hfit)
          refine ⟨v, w', H, loc', _, _, by rw [h1]; rfl, hK, ?_, ?_⟩
          · dsimp only at h3; rw [hlen] at h3; simpa using h3
          · simpa using h2
        | ref _ _ _ cap sx xs' ho' hl' hcap hxc hlr hn' =>
          rw [hob] at ho'; cases ho'
          rcases r.sr.obj id _ hob with ⟨hx, _⟩ | ⟨_, c, ec, h1, h2, h3, h4, h5⟩
          · rw [hlr] at hx; cases hx
          -- the old elements
          have holen : ((xs.drop off).take len).length = len := by simp; omega
          have hox : ∀ z, z ∈ (xs.drop off).take len → z.length = s' := fun z hz => h4 z (List.mem_of_mem_drop (List.mem_of_mem_take hz))
          have hoget : ∀ (k : Nat) z, ((xs.drop off).take len)[k]? = some z → xs[off + k]? = some z ∧ k < len := fun k z hk => by
            rw [List.getElem?_take] at hk
            split at hk
            · rename_i hlt; rw [List.getElem?_drop] at hk; exact ⟨hk, hlt⟩
            · cases hk
          have hmul : (off + len) * s' ≤ xs.length * s' := Nat.mul_le_mul_right s' hol
          have hoc : (off + cap) * s' = off * s' + cap * s' := Nat.add_mul _ _ _
          have hol2 : (off + len) * s' = off * s' + len * s' := Nat.add_mul _ _ _
          by_cases hroom : len + ys.length ≤ cap
          · -- there is room
            have hmc : (len + ys.length) * s' ≤ cap * s' := Nat.mul_le_mul_right s' hroom
            have hmc2 : (len + ys.length) * s' = len * s' + ys.length * s' := Nat.add_mul _ _ _
            have hcell : ∀ j, j < news.length → (w.cell? ⟨(loc id).b, (loc id).o + off * s' + len * i.size + j, none⟩).isSome = true := fun j hj => by
              rw [hnl] at hj
              rw [his]
              simp only [World.cell?, h1, Option.isSome_none, Bool.false_eq_true, if_false]
              rw [Array.getElem?_eq_getElem (by omega)]; rfl
            have hfz : ∀ j, j < news.length → w.frozen? ⟨(loc id).b, (loc id).o + off * s' + len * i.size + j, none⟩ = false := fun j hj => by
              simp [World.frozen?, h1]
            have hrun := run_append_room_src (P := P) w t tx o.type e i hu hi (loc id).b ((loc id).o + off * s') len cap vy ys.length news hsrc hroom hcell hfz
            rw [his] at hrun
            have hputl : (loc id).o + off * s' + len * s' + news.length ≤ c.size := by omega
            obtain ⟨p1, p2, p3, p4, p5, p6⟩ := setCells_heap (loc id).b news ((loc id).o + off * s' + len * s') w c ec h1 hputl
            have rk : Rel M H0 w0 nt H loc (w.setCells (loc id).b ((loc id).o + off * s' + len * s') news) ⟨st.tm, st.ob.set id .dead, st.n0⟩ a :=
              r.setOb (o' := .dead) hob rfl hlr (by simp [Ob.sameShape]) p2 p3 p4 p5 p6 trivial
            have hap := r.sr.apart id _ hob rfl hlr
            have ra := rk.adopt (.row s' ((xs.drop off).take len ++ ys)) ⟨(loc id).b, (loc id).o + off * s', (loc id).n, true⟩ (fun _ => hap) (fun _ k y hk hly hrk hb => by
                dsimp only at hk
                rw [List.getElem?_set] at hk
                split at hk
                · rename_i hik
                  subst hik
                  have hlt : id < st.ob.length := by
                    rcases Nat.lt_or_ge id st.ob.length with h' | h'
                    · exact h'
                    · simp [List.getElem?_eq_none h'] at hob
                  simp [hlt] at hk; subst hk; cases hly
                · rename_i hik
                  exact hik (r.sr.inj k id y _ hk hob hly rfl hrk hlr hb).symm) (fun _ => r.own id _ hob rfl hlr)
              (.inr ⟨rfl, _, ec, p1, by simp [putAt_length (show (loc id).o + off * s' + len * s' + news.length ≤ c.toList.length by simpa using hputl), h2], by
                show (loc id).o + off * s' + _ * s' ≤ (loc id).n
                rw [List.length_append, holen]; omega, fun z hz => by
                rcases List.mem_append.1 hz with hz | hz
                · exact hox z hz
                · exact hys z hz, fun k z hk j y hy => by
                show ∃ v, ((putAt c.toList ((loc id).o + off * s' + len * s') news).toArray)[(loc id).o + off * s' + k * s' + j]? = some v ∧ _
                rw [List.getElem?_toArray, putAt_get (by simpa using hputl)]
                by_cases hkl : k < len
                · rw [List.getElem?_append_left (by rw [holen]; exact hkl)] at hk
                  obtain ⟨hk1, _⟩ := hoget k z hk
                  have hj : j < s' := by
                    rw [← h4 z (List.mem_of_getElem? hk1)]
                    rcases Nat.lt_or_ge j z.length with h' | h'
                    · exact h'
                    · simp [List.getElem?_eq_none h'] at hy
                  have hks : (k + 1) * s' ≤ len * s' := Nat.mul_le_mul_right s' hkl
                  rw [Nat.succ_mul] at hks
                  rw [if_neg (by omega), Array.getElem?_toList]
                  obtain ⟨u, a1, a2⟩ := h5 _ z hk1 j y hy
                  refine ⟨u, ?_, a2⟩
                  rw [show (loc id).o + off * s' + k * s' + j = (loc id).o + (off + k) * s' + j by rw [Nat.add_mul]; omega]; exact a1
                · rw [List.getElem?_append_right (by rw [holen]; omega), holen] at hk
                  obtain ⟨u, a1, a2⟩ := hnews _ z hk j y hy
                  have hlt : (k - len) * s' + j < news.length := by
                    rcases Nat.lt_or_ge ((k - len) * s' + j) news.length with h' | h'
                    · exact h'
                    · simp [List.getElem?_eq_none h'] at a1
                  have hks : k * s' = len * s' + (k - len) * s' := by rw [← Nat.add_mul]; congr 1; omega
                  refine ⟨u, ?_, a2⟩
                  rw [if_pos (by omega), show (loc id).o + off * s' + k * s' + j - ((loc id).o + off * s' + len * s') = (k - len) * s' + j by omega]
                  exact a1⟩)
            dsimp only at ra
            rw [hlen] at ra
            refine ⟨_, _, H, _, _, _, by rw [hrun]; rfl, hK, ?_, ra⟩
            have hloc : locPush loc st.ob.length ⟨(loc id).b, (loc id).o + off * s', (loc id).n, true⟩ st.ob.length = ⟨(loc id).b, (loc id).o + off * s', (loc id).n, true⟩ := if_pos rfl
            have := V.ref (H := H) (loc := locPush loc st.ob.length ⟨(loc id).b, (loc id).o + off * s', (loc id).n, true⟩) (obs := st.ob.set id .dead ++ [.row s' ((xs.drop off).take len ++ ys)]) st.ob.length 0 (len + ys.length) cap s' ((xs.drop off).take len ++ ys)
              (by rw [List.getElem?_append_right (by simp)]; simp) (by simp; omega) hroom (by simp; omega) (by rw [hloc]) (by rw [hloc]; show (loc id).o + off * s' + (0 + cap) * s' ≤ (loc id).n; rw [Nat.zero_add]; omega)
            rw [hloc] at this
            simpa using this
          · -- there is none
            have hval : V H loc st.ob (.slice (some ⟨(loc id).b, (loc id).o + off * s', none⟩) len cap) (.ref id off len) := .ref id off len cap s' xs hob hol hcap hxc hlr hn'
            have hrows : rowsOf st.ob (.ref id off len) = some ((xs.drop off).take len) := by simp [rowsOf, hob]
            obtain ⟨olds, hsrc2, holds⟩ := rows_src r.sr hval hrows hox hk
            rw [holen] at hsrc2
            have holl : olds.length = len * s' := hsrc2.newsLen
            have hcd := hsrc2.cellsD
            have h63 := lt63 _ hfit
            have hcap2 := nextcap_le (len + ys.length) cap (by omega)
            have hrun := run_append_grow_src (P := P) w t tx o.type e i z hu hi hz (some ⟨(loc id).b, (loc id).o + off * s', none⟩) len cap olds (by rw [his]; exact hcd) vy ys.length news hsrc (by omega) h63
              (by rw [hib]; calc _ ≤ 2 * (len + ys.length) * n := Nat.mul_le_mul_right n hcap2
                            _ ≤ 281474976710656 := by rw [Nat.mul_assoc]; omega)
            have hge := grown_ge w (len + ys.length) cap e h63
            generalize grownCap w (len + ys.length) cap e = gc at hrun hge
            have hsz : ((olds ++ news : List Value).toArray ++ Builtin.zeroCells z.cells (gc - (len + ys.length))).size = gc * s' := by
              simp [zeroCells_size, hnl, hzs, holl]
              rw [← Nat.add_mul, ← Nat.add_mul]; congr 1; omega
            obtain ⟨loc', r', hv'⟩ := hkill.drew.newRow e (c := (olds ++ news : List Value).toArray ++ Builtin.zeroCells z.cells (gc - (len + ys.length))) s' ((xs.drop off).take len ++ ys) gc
              (by rw [hsz]; exact Nat.mul_le_mul_right s' (by simp; omega)) (by rw [hsz]; exact Nat.le_refl _) (by simp; omega) (fun z hz => by
                rcases List.mem_append.1 hz with hz | hz
                · exact hox z hz
                · exact hys z hz)
              (fun k x hx j y hy => by
                obtain ⟨u, a1, a2⟩ := row_join (rest := (Builtin.zeroCells z.cells (gc - (len + ys.length))).toList) hox (by rw [holen]; exact holl) holds hnl hys hnews k x hx j y hy
                refine ⟨u, ?_, a2⟩
                rw [← a1, ← Array.getElem?_toList]
                simp)
            have hll : len + ys.length = ((xs.drop off).take len ++ ys).length := by simp; omega
            refine ⟨_, _, H, loc', _, _, by rw [hrun]; rfl, hK, ?_, ?_⟩
            · dsimp only at hv'
              rw [hlen, ← hll] at hv'
              simpa using hv'
            · exact r'
      · exact h.elim
    | _ => exact h.elim

end
end Go.Ab

/- Parts of slices over abstract states. No program is named here. -/
namespace Go.Ab

section
variable {P : Program} {H : HV} {loc : Nat → Loc} {obs : List Ob} {w : World}

/-- A bound that is not given, or is a whole number. -/
def boundD : Option D → Option (Option Int)
  | none => some none
  | some (.p (.lit (.int .i64 n))) => some (some n)
  | _ => none

/-- The part of a slice from l to h. -/
def partD (obs : List Ob) (lo hi mx : Option Int) (x : D) (K : D → Prop) : Prop :=
  match x with
  | .p (.sl xs) =>
    match mx with
    | none => 0 ≤ lo.getD 0 ∧ lo.getD 0 ≤ hi.getD xs.length ∧ hi.getD xs.length ≤ (xs.length : Int) ∧ K (.p (.sl ((xs.take (hi.getD xs.length).toNat).drop (lo.getD 0).toNat)))
    | some _ => False
  | .nil => lo.getD 0 = 0 ∧ hi.getD 0 = 0 ∧ mx = none ∧ K .nil
  | .ref id off len =>
    match obs[id]?, mx with
    | some (.row _ xs), none => 0 ≤ lo.getD 0 ∧ lo.getD 0 ≤ hi.getD len ∧ off + (hi.getD len).toNat ≤ xs.length ∧ (hi.getD len).toNat ≤ max len (xs.length - off) ∧
        K (.ref id (off + (lo.getD 0).toNat) ((hi.getD len).toNat - (lo.getD 0).toNat))
    | some (.row _ _), some m => (match lo, hi with | some l, some h => 0 ≤ l ∧ l ≤ h ∧ h ≤ m ∧ m ≤ (len : Int) ∧ K .none | _, _ => False)
    | _, _ => False
  | _ => False

/-- What the model's slicing comes to. -/
theorem run_slice_val {t e : TypeId} {i : TypeInfo} (hu : P.underlying t = some (.slice e)) (hi : P.info? e = some i) (a : Option Addr) (len cap : Nat) (lo hi' : Option Int) (l h : Nat)
    (hl : (lo.getD 0) = l) (hh : hi'.getD len = h) (h1 : l ≤ h) (h2 : h ≤ cap) :
    (Instr.sliceAt t (.slice a len cap) (lo.map (.int .i64)) (hi'.map (.int .i64)) none).run P w = .ok (.slice (if cap = l then a else a.map (·.add (l * i.size))) (h - l) (cap - l)) w := by
  have hsz : ∀ W, (sizeOf e).run P W = .ok i.size W := fun W => by simp [sizeOf, typeInfo, hi]
  have b1 : ∀ (n : Int) (y : Nat) (c : BoundsCode) (m : Nat), n = m → m ≤ y → (Instr.sliceBound (.int .i64 n) y c).run P w = .ok m w := fun n y c m e hm => by
    subst e
    simp [Instr.sliceBound, asIntOf, hm]
  cases lo with
  | none =>
    obtain rfl : l = 0 := by simp at hl; omega
    cases hi' with
    | none =>
      obtain rfl : h = len := by simp at hh; omega
      simp [Instr.sliceAt, Instr.slice, run_underlying hu, Instr.sliceBounds, hsz]
    | some n =>
      simp at hh
      simp [Instr.sliceAt, Instr.slice, run_underlying hu, Instr.sliceBounds, hsz, b1 n cap .sliceAcap h hh h2]
  | some m =>
    simp at hl
    cases hi' with
    | none =>
      obtain rfl : h = len := by simp at hh; omega
      simp [Instr.sliceAt, Instr.slice, run_underlying hu, Instr.sliceBounds, hsz, b1 m h .sliceB l hl h1]
    | some n =>
      simp at hh
      simp [Instr.sliceAt, Instr.slice, run_underlying hu, Instr.sliceBounds, hsz, b1 n cap .sliceAcap h hh h2, b1 m h .sliceB l hl h1]

/-- With three bounds: that it goes through is all that is told. -/
theorem run_slice3 {t e : TypeId} {i : TypeInfo} (hu : P.underlying t = some (.slice e)) (hi : P.info? e = some i) (a : Option Addr) (len cap : Nat) (l h m : Int) (h0 : 0 ≤ l) (h1 : l ≤ h) (h2 : h ≤ m) (h3 : m ≤ (cap : Int)) :
    ∃ u, (Instr.sliceAt t (.slice a len cap) (some (.int .i64 l)) (some (.int .i64 h)) (some (.int .i64 m))).run P w = .ok u w := by
  have hsz : ∀ W, (sizeOf e).run P W = .ok i.size W := fun W => by simp [sizeOf, typeInfo, hi]
  have b1 : ∀ (n : Int) (y : Nat) (c : BoundsCode) (m : Nat), n = m → m ≤ y → (Instr.sliceBound (.int .i64 n) y c).run P w = .ok m w := fun n y c m e hm => by
    subst e
    simp [Instr.sliceBound, asIntOf, hm]
  obtain ⟨l, rfl⟩ := Int.eq_ofNat_of_zero_le h0
  obtain ⟨h, rfl⟩ := Int.eq_ofNat_of_zero_le (Int.le_trans h0 h1)
  obtain ⟨m, rfl⟩ := Int.eq_ofNat_of_zero_le (Int.le_trans (Int.le_trans h0 h1) h2)
  refine ⟨.slice (if m = l then a else a.map (·.add (l * i.size))) (h - l) (m - l), ?_⟩
  simp [Instr.sliceAt, Instr.slice, run_underlying hu, Instr.sliceBounds, hsz, b1 m cap .slice3Acap m rfl (by omega), b1 h m .slice3B h rfl (by omega), b1 l h .slice3C l rfl (by omega)]

theorem part_of {t : TypeId} {s nb : Nat} (ht : elO P t = some (s, nb)) {v : Value} {d : D} {lo hi mx : Option Int} {K : D → Prop} (hv : V H loc obs v d) (h : partD obs lo hi mx d K)
    (hrow : ∀ id off len s' xs, d = .ref id off len → obs[id]? = some (.row s' xs) → s' = s) (hrow2 : ∀ xs, d = .p (.sl xs) → ∀ x, x ∈ xs → x.length = s) :
    ∃ u r, (Instr.sliceAt t v (lo.map (.int .i64)) (hi.map (.int .i64)) (mx.map (.int .i64))).run P w = .ok u w ∧ V H loc obs u r ∧ K r := by
  unfold elO at ht
  cases hu : P.underlying t with
  | none => rw [hu] at ht; cases ht
  | some dsc =>
    rw [hu] at ht
    cases dsc <;> dsimp only at ht <;> try cases ht
    case slice e =>
      cases hi' : P.info? e with
      | none => rw [hi'] at ht; cases ht
      | some i =>
        rw [hi'] at ht
        simp only [Option.map_some, Option.some.injEq, Prod.mk.injEq] at ht
        obtain ⟨rfl, rfl⟩ := ht
        cases hv with
        | p v x hp =>
          cases hp with
          | lit => exact h.elim
          | none a cap =>
            simp only [partD] at h
            cases mx with
            | some _ => exact h.elim
            | none =>
              obtain ⟨h0, h1, h2, hK⟩ := h
              simp at h2
              have e1 : lo.getD 0 = ((0 : Nat) : Int) := by simp at h1; omega
              have e2 : hi.getD ((0 : Nat) : Int) = ((0 : Nat) : Int) := by simp at h1 h2 ⊢; omega
              refine ⟨_, _, run_slice_val hu hi' a 0 cap lo hi 0 0 e1 e2 (Nat.le_refl _) (Nat.zero_le _), ?_, hK⟩
              simp only [List.take_nil, List.drop_nil, Nat.sub_zero]
              exact .p _ _ (.none _ _)
          | sl b o cap s' c xs g hb hs hcap hc h1' hr =>
            simp only [partD] at h
            cases mx with
            | some _ => exact h.elim
            | none =>
              obtain ⟨h0, h1, h2, hK⟩ := h
              have e1 : lo.getD 0 = ((lo.getD 0).toNat : Int) := by omega
              have e2 : hi.getD (xs.length : Int) = ((hi.getD xs.length).toNat : Int) := by omega
              generalize (lo.getD 0).toNat = l at *
              generalize (hi.getD (xs.length : Int)).toNat = hh at *
              have hlh : l ≤ hh := by omega
              have hhx : hh ≤ xs.length := by omega
              refine ⟨_, _, run_slice_val hu hi' _ xs.length cap lo hi l hh e1 e2 hlh (by omega), ?_, hK⟩
              by_cases hempty : hh = l
              · have : (xs.take hh).drop l = [] := List.eq_nil_of_length_eq_zero (by simp; omega)
                rw [this, hempty, Nat.sub_self]
                exact .p _ _ (.none _ _)
              · have hne : ¬ cap = l := by omega
                rw [if_neg hne]
                simp only [Option.map_some, Addr.add_lit]
                have hlen : ((xs.take hh).drop l).length = hh - l := by simp; omega
                have hs' : s' = i.size := by
                  cases xs with
                  | nil => simp at hhx; omega
                  | cons x xs => rw [← hs x (by simp), hrow2 _ rfl x (by simp)]
                subst hs'
                have hget : ∀ (k : Nat) x, ((xs.take hh).drop l)[k]? = some x → xs[l + k]? = some x := fun k x hk => by
                  rw [List.getElem?_drop, List.getElem?_take] at hk
                  split at hk
                  · exact hk
                  · cases hk
                have := PVr.sl (H := H) b (o + l * i.size) (cap - l) i.size c ((xs.take hh).drop l) (fun k j => g (l + k) j) hb
                  (fun x hx => hs x (List.mem_of_mem_take (List.mem_of_mem_drop hx))) (by omega)
                  (fun k x hk j y hy => by
                    have := hc (l + k) x (hget k x hk) j y hy
                    rw [show o + l * i.size + k * i.size + j = o + (l + k) * i.size + j by rw [Nat.add_mul]; omega]; exact this)
                  (fun k x hk j y hy => h1' (l + k) x (hget k x hk) j y hy) (fun k x hk j y hy => hr (l + k) x (hget k x hk) j y hy)
                rw [hlen] at this
                exact .p _ _ this
        | nil =>
          simp only [partD] at h
          obtain ⟨h0, h1, rfl, hK⟩ := h
          refine ⟨_, _, run_slice_val hu hi' none 0 0 lo hi 0 0 (by simpa using h0) (by simpa using h1) (Nat.le_refl _) (Nat.le_refl _), ?_, hK⟩
          exact .nil
        | ref id off len cap s' xs ho hl hc hxc hlr hn =>
          simp only [partD, ho] at h
          cases mx with
          | some m =>
            cases lo with
            | none => exact h.elim
            | some l =>
              cases hi with
              | none => exact h.elim
              | some hh =>
                obtain ⟨h0, h1, h2, h3, hK⟩ := h
                obtain ⟨u, hu2⟩ := run_slice3 (w := w) hu hi' (some ⟨(loc id).b, (loc id).o + off * s', none⟩) len cap l hh m h0 h1 h2 (by omega)
                exact ⟨u, .none, hu2, .none _, hK⟩
          | none =>
            obtain ⟨h0, h1, h2, h3, hK⟩ := h
            have hs' := hrow id off len s' xs rfl ho
            subst hs'
            have e1 : lo.getD 0 = ((lo.getD 0).toNat : Int) := by omega
            have e2 : hi.getD (len : Int) = ((hi.getD len).toNat : Int) := by omega
            generalize (lo.getD 0).toNat = l at *
            generalize (hi.getD (len : Int)).toNat = hh at *
            have hlh : l ≤ hh := by omega
            have hhc : hh ≤ cap := by omega
            refine ⟨_, _, run_slice_val hu hi' _ len cap lo hi l hh e1 e2 hlh hhc, ?_, hK⟩
            by_cases hcl : cap = l
            · rw [if_pos hcl]
              have z1 : hh - l = 0 := by omega
              have z2 : cap - l = 0 := by omega
              rw [z1, z2]
              exact .ref0 _ id (off + l) i.size xs ho (by omega)
            · rw [if_neg hcl]
              simp only [Option.map_some, Addr.add_lit]
              have := V.ref (H := H) (loc := loc) (obs := obs) id (off + l) (hh - l) (cap - l) i.size xs ho (by omega) (by omega) (by omega) hlr (by
                rw [show off + l + (cap - l) = off + cap by omega]; exact hn)
              rw [show (loc id).o + off * i.size + l * i.size = (loc id).o + (off + l) * i.size by rw [Nat.add_mul]; omega]
              exact this
        | ref0 a id off s' xs ho hl =>
          simp only [partD, ho] at h
          cases mx with
          | some m =>
            cases lo with
            | none => exact h.elim
            | some l =>
              cases hi with
              | none => exact h.elim
              | some hh =>
                obtain ⟨h0, h1, h2, h3, hK⟩ := h
                obtain ⟨u, hu2⟩ := run_slice3 (w := w) hu hi' a 0 0 l hh m h0 h1 h2 (by omega)
                exact ⟨u, .none, hu2, .none _, hK⟩
          | none =>
            obtain ⟨h0, h1, h2, h3, hK⟩ := h
            have e1 : lo.getD 0 = ((lo.getD 0).toNat : Int) := by omega
            have e2 : hi.getD ((0 : Nat) : Int) = ((hi.getD ((0 : Nat) : Int)).toNat : Int) := by omega
            generalize (lo.getD 0).toNat = l at *
            generalize (hi.getD ((0 : Nat) : Int)).toNat = hh at *
            have z1 : hh = 0 := by omega
            have z2 : l = 0 := by omega
            subst z1; subst z2
            refine ⟨_, _, run_slice_val hu hi' a 0 0 lo hi 0 0 e1 e2 (Nat.le_refl _) (Nat.le_refl _), ?_, hK⟩
            exact .ref0 _ id (off + 0) s' xs ho (by omega)
        | refGone v id off len ho => simp only [partD, ho] at h
        | _ => exact h.elim

end
end Go.Ab

/- A call, over abstract states: what is handed over, what comes back. No program is named here. -/
namespace Go.Ab

mutual
/-- It holds at each leaf. -/
def D.all (ok : D → Prop) : D → Prop
  | .fn _ caps => D.allL ok caps
  | .agg cs => D.allL ok cs
  | .tup ds => D.allL ok ds
  | d => ok d
def D.allL (ok : D → Prop) : List D → Prop
  | [] => True
  | d :: l => D.all ok d ∧ D.allL ok l
end

theorem D.allL_get {ok : D → Prop} : ∀ {l : List D} {i : Nat} {d : D}, D.allL ok l → l[i]? = some d → D.all ok d
  | [], _, _, _, h => by simp at h
  | x :: l, 0, d, h, hi => by simp at hi; subst hi; exact h.1
  | x :: l, i + 1, d, h, hi => D.allL_get h.2 (by simpa using hi)

theorem V.mapOk {g : D → D} {ok : D → Prop} {H H' : HV} {loc loc' : Nat → Loc} {obs obs' : List Ob}
    (hg : ∀ v d, V H loc obs v d → ok d → (∀ f c, d ≠ .fn f c) → (∀ c, d ≠ .agg c) → (∀ c, d ≠ .tup c) → V H' loc' obs' v (g d)) {v : Value} {d : D} (h : V H loc obs v d) (hk : D.all ok d) : V H' loc' obs' v (D.map g d) := by
  have sub : ∀ (vs : Array Value) (cs : List D), vs.size = cs.length → D.allL ok cs → (∀ (i : Nat) v d, vs[i]? = some v → cs[i]? = some d → D.all ok d → V H' loc' obs' v (D.map g d)) →
      vs.size = (D.mapL g cs).length ∧ ∀ (i : Nat) v d, vs[i]? = some v → (D.mapL g cs)[i]? = some d → V H' loc' obs' v d := by
    intro vs cs hn hk ih
    rw [D.mapL_eq]
    refine ⟨by simp [hn], fun i v d h1 h2 => ?_⟩
    rw [List.getElem?_map] at h2
    cases hx : cs[i]? with
    | none => rw [hx] at h2; cases h2
    | some x => rw [hx] at h2; cases h2; exact ih i v x h1 hx (D.allL_get hk hx)
  induction h with
  | fn f vs caps hn h ih => simp only [D.map]; simp only [D.all] at hk; exact .fn f vs _ (sub vs caps hn hk ih).1 (sub vs caps hn hk ih).2
  | agg vs cs hn h ih => simp only [D.map]; simp only [D.all] at hk; exact .agg vs _ (sub vs cs hn hk ih).1 (sub vs cs hn hk ih).2
  | tup vs cs hn h ih => simp only [D.map]; simp only [D.all] at hk; exact .tup vs _ (sub vs cs hn hk ih).1 (sub vs cs hn hk ih).2
  | none v => exact hg _ _ (.none v) hk (by simp) (by simp) (by simp)
  | p v x h => exact hg _ _ (.p v x h) hk (by simp) (by simp) (by simp)
  | nil => exact hg _ _ .nil hk (by simp) (by simp) (by simp)
  | ref id off len cap s xs ho hl hc hx hr hn => exact hg _ _ (.ref id off len cap s xs ho hl hc hx hr hn) hk (by simp) (by simp) (by simp)
  | ref0 a id off s xs ho hl => exact hg _ _ (.ref0 a id off s xs ho hl) hk (by simp) (by simp) (by simp)
  | refGone v id off len ho => exact hg _ _ (.refGone v id off len ho) hk (by simp) (by simp) (by simp)
  | ptr id i j s xs ho => exact hg _ _ (.ptr id i j s xs ho) hk (by simp) (by simp) (by simp)
  | ptrBox id j cs ho => exact hg _ _ (.ptrBox id j cs ho) hk (by simp) (by simp) (by simp)
  | ptrGone v id i j ho => exact hg _ _ (.ptrGone v id i j ho) hk (by simp) (by simp) (by simp)
  | rd b o c x j g' hb hc h1 hr => exact hg _ _ (.rd b o c x j g' hb hc h1 hr) hk (by simp) (by simp) (by simp)
  | mp id es ho => exact hg _ _ (.mp id es ho) hk (by simp) (by simp) (by simp)
  | mpGone v id ho => exact hg _ _ (.mpGone v id ho) hk (by simp) (by simp) (by simp)
  | gref id s off len cap cs ho hl hc => exact hg _ _ (.gref id s off len cap cs ho hl hc) hk (by simp) (by simp) (by simp)
  | grefGone v id s off len ho => exact hg _ _ (.grefGone v id s off len ho) hk (by simp) (by simp) (by simp)

/-- Handed over: objects of the list by their places in it, other rows as data. -/
def giveRow (ids : List Nat) (obs : List Ob) : D → D
  | .ref id off len =>
    match idx ids id with
    | some k => .ref k off len
    | none => match obs[id]? with | some (.row _ xs) => .p (.sl ((xs.drop off).take len)) | _ => .none
  | d => ren1 ids d

/-- A list of cells, by elements. -/
def chunk (s : Nat) : Nat → List PV → List (List PV)
  | 0, _ => []
  | n + 1, l => l.take s :: chunk s n (l.drop s)

theorem chunk_length (s : Nat) : ∀ (n : Nat) (l : List PV), (chunk s n l).length = n
  | 0, _ => rfl
  | n + 1, l => by simp [chunk, chunk_length s n]

theorem chunk_get (s : Nat) : ∀ (n : Nat) (l : List PV) (i : Nat) (x : List PV), (chunk s n l)[i]? = some x → x = (l.drop (i * s)).take s
  | 0, l, i, x, h => by simp [chunk] at h
  | n + 1, l, 0, x, h => by simp [chunk] at h; simp [h]
  | n + 1, l, i + 1, x, h => by
    have := chunk_get s n (l.drop s) i x (by simpa [chunk] using h)
    rw [this, List.drop_drop]
    congr 2
    rw [Nat.succ_mul]; omega

/-- The same, and variables that are not in the list by what they hold. -/
def give (ids : List Nat) (obs : List Ob) : D → D
  | .ptr id i j =>
    match idx ids id with
    | some k => .ptr k i j
    | none =>
      match obs[id]? with
      | some (.box cs) => (match toPVs (cs.map (giveRow ids obs)) with | some xs => .rd xs j | none => .none)
      | _ => .none
  | .gref id s off len =>
    match idx ids id with
    | some k => .gref k s off len
    | none =>
      match obs[id]? with
      | some (.box cs) => (match toPVs (cs.map (giveRow ids obs)) with | some xs => .p (.sl (chunk s len (xs.drop (off * s)))) | none => .none)
      | _ => .none
  | .nil => .p (.sl [])
  | d => giveRow ids obs d

/-- Back from a call: the objects of the list have their old numbers, new ones follow behind. -/
def back (ids : List Nat) (n : Nat) : D → D
  | .ref k off len => .ref (if k < ids.length then ids.getD k 0 else n + (k - ids.length)) off len
  | .ptr k i j => .ptr (if k < ids.length then ids.getD k 0 else n + (k - ids.length)) i j
  | .mp k => .mp (if k < ids.length then ids.getD k 0 else n + (k - ids.length))
  | .gref k s off len => .gref (if k < ids.length then ids.getD k 0 else n + (k - ids.length)) s off len
  | d => d

/-- The objects that were handed over, as they are now. -/
def setAll (g : D → D) : List Ob → List Nat → List Ob → List Ob
  | ob, i :: ids, o :: obs' => setAll g (ob.set i (renOb g o)) ids obs'
  | ob, _, _ => ob

def merge (ob : List Ob) (ids : List Nat) (obs' : List Ob) : List Ob := setAll (back ids ob.length) ob ids obs' ++ (obs'.drop ids.length).map (renOb (back ids ob.length))

theorem setAll_length (g : D → D) : ∀ (ob : List Ob) (ids : List Nat) (obs' : List Ob), (setAll g ob ids obs').length = ob.length
  | ob, i :: ids, o :: obs' => by rw [setAll, setAll_length]; simp
  | ob, [], obs' => by cases obs' <;> rfl
  | ob, i :: ids, [] => rfl

theorem setAll_out (g : D → D) : ∀ (ob : List Ob) (ids : List Nat) (obs' : List Ob) (i : Nat), i ∉ ids → (setAll g ob ids obs')[i]? = ob[i]?
  | ob, j :: ids, o :: obs', i, h => by
    rw [setAll, setAll_out g _ ids obs' i (fun hx => h (List.mem_cons_of_mem _ hx)), List.getElem?_set, if_neg (fun e => h (by rw [e]; exact List.mem_cons_self))]
  | ob, [], obs', i, h => by cases obs' <;> rfl
  | ob, j :: ids, [], i, h => rfl

theorem setAll_in (g : D → D) : ∀ (ob : List Ob) (ids : List Nat) (obs' : List Ob) (k i : Nat) (o : Ob), ids.Nodup → ids[k]? = some i → obs'[k]? = some o → i < ob.length → (setAll g ob ids obs')[i]? = some (renOb g o)
  | ob, j :: ids, o' :: obs', 0, i, o, hd, h1, h2, h3 => by
    simp at h1 h2; subst h1; subst h2
    rw [List.nodup_cons] at hd
    rw [setAll, setAll_out g _ ids obs' j hd.1]
    simp [h3]
  | ob, j :: ids, o' :: obs', k + 1, i, o, hd, h1, h2, h3 => by
    rw [List.nodup_cons] at hd
    rw [setAll]
    exact setAll_in g _ ids obs' k i o hd.2 (by simpa using h1) (by simpa using h2) (by simpa using h3)
  | ob, [], obs', k, i, o, hd, h1, h2, h3 => by simp at h1
  | ob, j :: ids, [], k, i, o, hd, h1, h2, h3 => by simp at h2

theorem idx_none : ∀ {ids : List Nat} {i : Nat}, idx ids i = none → i ∉ ids
  | [], _, _ => by simp
  | j :: l, i, h => by
    unfold idx at h
    split at h
    · cases h
    · rename_i hne
      cases hx : idx l i with
      | none => exact fun hm => (List.mem_cons.1 hm).elim (fun e => hne e.symm) (idx_none hx)
      | some m => rw [hx] at h; cases h

theorem idx_get : ∀ {ids : List Nat} {k i : Nat}, ids.Nodup → ids[k]? = some i → idx ids i = some k
  | [], _, _, _, h => by simp at h
  | j :: l, 0, i, _, h => by simp at h; subst h; simp [idx]
  | j :: l, k + 1, i, hd, h => by
    rw [List.nodup_cons] at hd
    have hm : l[k]? = some i := by simpa using h
    unfold idx
    have hne : ¬ j = i := fun e => hd.1 (by rw [e]; exact List.mem_of_getElem? hm)
    rw [if_neg hne, idx_get hd.2 hm]
    rfl

theorem renOb_shape {g g' : D → D} {o o' : Ob} (h : (renOb g o).sameShape o') : o.sameShape (renOb g' o') := by
  cases o <;> cases o' <;> simp only [renOb, Ob.sameShape, D.mapL_eq, List.length_map] at h ⊢ <;> exact h

/-- Where objects lie behind a call. -/
def locBack (ids : List Nat) (n : Nat) (loc loc' : Nat → Loc) (i : Nat) : Loc :=
  if i < n then (match idx ids i with | some k => loc' k | none => loc i) else loc' (ids.length + (i - n))

/-- What of a result may be data of memory that was only lent. -/
def flatPV : PV → Prop
  | .lit _ => True
  | .sl [] => True
  | _ => False

def flatL : D → Prop
  | .p x => flatPV x
  | .rd _ _ => False
  | _ => True

def flatOb : Ob → Prop
  | .row _ xs => ∀ x, x ∈ xs → ∀ y, y ∈ x → flatPV y
  | .box cs => D.allL flatL cs
  | .map es => ∀ e, e ∈ es → flatPV e.2
  | _ => True

theorem flatPV_any {H H' : HV} {v : Value} {x : PV} (h : PVr H v x) (hx : flatPV x) : PVr H' v x := by
  cases h with
  | lit v => exact .lit v
  | none a cap => exact .none a cap
  | sl b o cap s c xs g hb hs hcap hc h1 hr =>
    cases xs with
    | nil => exact .none _ _
    | cons => exact hx.elim

section
variable {P : Program} {M : En} {H0 : HV} {w0 : World} {nt : Nat} {H : HV} {loc : Nat → Loc} {w : World} {st : St} {a : Act}

/-- Behind a call. Hc: what the callee could read; okP, okL: what of the results stays readable. -/
theorem Rel.called (r : Rel M H0 w0 nt H loc w st a) {ids : List Nat} (hd : ids.Nodup) (hin : ∀ i, i ∈ ids → i < st.ob.length) {Hc H' : HV} {loc' : Nat → Loc} {obs' : List Ob} {w' : World} {v : Value} {d : D}
    (hHc : HLe H Hc) (hHc2 : ∀ b c, Hc b = some c → H b ≠ none ∨ ∃ (i : Nat) (o : Ob), st.ob[i]? = some o ∧ o.live = true ∧ (loc i).r = true ∧ i ∉ ids ∧ (loc i).b = b)
    (sr : Sr H' loc' obs' w') (gr : Grows (fun b => ∃ (k : Nat) (o : Ob), (newObs st.ob ids)[k]? = some o ∧ o.live = true ∧ (loc (ids.getD k 0)).r = true ∧ (loc (ids.getD k 0)).b = b) Hc H' w w')
    (own : ∀ (i : Nat) o, obs'[i]? = some o → o.live = true → (loc' i).r = true → (∃ (k : Nat) (o' : Ob), (newObs st.ob ids)[k]? = some o' ∧ o'.live = true ∧ (loc (ids.getD k 0)).r = true ∧ (loc (ids.getD k 0)).b = (loc' i).b) ∨ w.heap.size ≤ (loc' i).b)
    (hst : stays (newObs st.ob ids) obs' (fun k => loc (ids.getD k 0)) loc') (hlen : ids.length ≤ obs'.length)
    (okL : D → Prop) (okO : Ob → Prop) (hv : V H' loc' obs' v d) (hvk : D.all okL d) (hok : ∀ o, o ∈ obs' → okO o)
    (H2 : HV) (hH2 : ∀ b c, H2 b = some c → H' b = some c) (hH2l : ∀ (i : Nat) (o : Ob), st.ob[i]? = some o → o.live = true → (loc i).r = true → i ∉ ids → H2 (loc i).b = none) (hH2H : HLe H H2)
    (hL : ∀ v d, V H' loc' obs' v d → okL d → (∀ f c, d ≠ .fn f c) → (∀ c, d ≠ .agg c) → (∀ c, d ≠ .tup c) → V H2 loc' obs' v d)
    (hO : ∀ l o, o.holds H' loc' obs' w' l → okO o → o.holds H2 loc' obs' w' l) :
    Rel M H0 w0 nt H2 (locBack ids st.ob.length loc loc') w' ⟨st.tm, merge st.ob ids obs', st.n0⟩ a ∧ V H2 (locBack ids st.ob.length loc loc') (merge st.ob ids obs') v (D.map (back ids st.ob.length) d) := by
  -- numbers
  have hml : (setAll (back ids st.ob.length) st.ob ids obs').length = st.ob.length := setAll_length _ _ _ _
  have num : ∀ {k : Nat} {o : Ob}, obs'[k]? = some o → (merge st.ob ids obs')[if k < ids.length then ids.getD k 0 else st.ob.length + (k - ids.length)]? = some (renOb (back ids st.ob.length) o) ∧
      locBack ids st.ob.length loc loc' (if k < ids.length then ids.getD k 0 else st.ob.length + (k - ids.length)) = loc' k := by
    intro k o ho
    unfold merge
    split
    · rename_i hk
      have hi : ids[k]? = some ids[k] := List.getElem?_eq_getElem hk
      have hg : ids.getD k 0 = ids[k] := by simp [List.getD_eq_getElem?_getD, hi]
      rw [hg]
      have hlt := hin ids[k] (List.getElem_mem hk)
      refine ⟨?_, ?_⟩
      · rw [List.getElem?_append_left (by rw [hml]; exact hlt)]
        exact setAll_in _ _ _ _ k _ o hd hi ho hlt
      · unfold locBack
        rw [if_pos hlt, idx_get hd hi]
    · rename_i hk
      refine ⟨?_, ?_⟩
      · rw [List.getElem?_append_right (by rw [hml]; omega), hml, List.getElem?_map, List.getElem?_drop, show ids.length + (st.ob.length + (k - ids.length) - st.ob.length) = k by omega, ho]
        rfl
      · unfold locBack
        rw [if_neg (by omega), show ids.length + (st.ob.length + (k - ids.length) - st.ob.length) = k by omega]
  have out : ∀ {i : Nat}, i < st.ob.length → i ∉ ids → (merge st.ob ids obs')[i]? = st.ob[i]? ∧ locBack ids st.ob.length loc loc' i = loc i := fun {i} hi hn => by
    refine ⟨?_, ?_⟩
    · unfold merge
      rw [List.getElem?_append_left (by rw [hml]; exact hi)]
      exact setAll_out _ _ _ _ i hn
    · unfold locBack
      rw [if_pos hi]
      cases hx : idx ids i with
      | none => rfl
      | some k => exact absurd (List.mem_of_getElem? (idx_some hx)) hn
  have lt_of : ∀ {i : Nat} {o : Ob}, st.ob[i]? = some o → i < st.ob.length := fun {i o} h => by
    rcases Nat.lt_or_ge i st.ob.length with h' | h'
    · exact h'
    · simp [List.getElem?_eq_none h'] at h
  -- which object has which number
  have part : ∀ {i : Nat} {y : Ob}, (merge st.ob ids obs')[i]? = some y → (i < st.ob.length ∧ i ∉ ids ∧ st.ob[i]? = some y) ∨
      ∃ k o, obs'[k]? = some o ∧ y = renOb (back ids st.ob.length) o ∧ i = (if k < ids.length then ids.getD k 0 else st.ob.length + (k - ids.length)) := by
    intro i y hi
    by_cases h1 : i < st.ob.length
    · by_cases h2 : i ∈ ids
      · obtain ⟨k, hk⟩ := List.mem_iff_getElem?.1 h2
        have hkl : k < ids.length := by
          rcases Nat.lt_or_ge k ids.length with h' | h'
          · exact h'
          · simp [List.getElem?_eq_none h'] at hk
        have ho : obs'[k]? = some obs'[k] := List.getElem?_eq_getElem (by omega)
        have hg : ids.getD k 0 = i := by simp [List.getD_eq_getElem?_getD, hk]
        have := (num ho).1
        rw [if_pos hkl, hg, hi] at this
        exact .inr ⟨k, _, ho, Option.some.inj this, by rw [if_pos hkl, hg]⟩
      · rw [(out h1 h2).1] at hi; exact .inl ⟨h1, h2, hi⟩
    · have hlt : i - st.ob.length < (obs'.drop ids.length).length := by
        rcases Nat.lt_or_ge (i - st.ob.length) (obs'.drop ids.length).length with h' | h'
        · exact h'
        · unfold merge at hi
          rw [List.getElem?_append_right (by rw [hml]; omega), hml, List.getElem?_map, List.getElem?_eq_none h'] at hi
          cases hi
      simp at hlt
      have ho : obs'[ids.length + (i - st.ob.length)]? = some obs'[ids.length + (i - st.ob.length)] := List.getElem?_eq_getElem (by omega)
      have e : (if ids.length + (i - st.ob.length) < ids.length then ids.getD (ids.length + (i - st.ob.length)) 0 else st.ob.length + (ids.length + (i - st.ob.length) - ids.length)) = i := by
        rw [if_neg (by omega)]; omega
      have := (num ho).1
      rw [e, hi] at this
      exact .inr ⟨_, _, ho, Option.some.inj this, e.symm⟩
  -- leaves come back
  have leaf : ∀ v d, V H2 loc' obs' v d → (∀ f c, d ≠ .fn f c) → (∀ c, d ≠ .agg c) → (∀ c, d ≠ .tup c) → V H2 (locBack ids st.ob.length loc loc') (merge st.ob ids obs') v (back ids st.ob.length d) := by
    intro v d h n1 n2 n3
    cases h with
    | none v => exact .none v
    | p v x h => exact .p v x h
    | nil => exact .nil
    | ref k off len cap s xs ho h1 h2 h3 h4 h5 =>
      have := num ho
      rw [← this.2] at h4 h5 ⊢
      exact .ref _ off len cap s xs this.1 h1 h2 h3 h4 h5
    | ref0 a k off s xs ho h1 => exact .ref0 a _ off s xs (num ho).1 h1
    | refGone v k off len ho => exact .refGone v _ off len (num ho).1
    | ptr k i j s xs ho =>
      have := num ho
      rw [← this.2]
      exact .ptr _ i j s xs this.1
    | ptrBox k j cs ho =>
      have := num ho
      rw [← this.2]
      exact .ptrBox _ j _ this.1
    | ptrGone v k i j ho => exact .ptrGone v _ i j (num ho).1
    | rd b o c x j g hb hc h1 hr => exact .rd b o c x j g hb hc h1 hr
    | mp k es ho =>
      have := num ho
      rw [← this.2]
      exact .mp _ es this.1
    | mpGone v k ho => exact .mpGone v _ (num ho).1
    | gref k s off len cap cs ho h1 h2 =>
      have := num ho
      rw [← this.2]
      exact .gref _ s off len cap _ this.1 (by rw [D.mapL_eq, List.length_map]; exact h1) h2
    | grefGone v k s off len ho => exact .grefGone v _ s off len (num ho).1
    | fn f vs caps hn h => exact absurd rfl (n1 f caps)
    | agg vs cs hn h => exact absurd rfl (n2 cs)
    | tup vs cs hn h => exact absurd rfl (n3 cs)
  -- the caller's own values go on to be true
  have kin : ∀ {i k : Nat} {o : Ob}, st.ob[i]? = some o → ids[k]? = some i → (newObs st.ob ids)[k]? = some (renOb (ren1 ids) o) ∧ loc (ids.getD k 0) = loc i ∧ k < ids.length ∧ ids.getD k 0 = i := fun {i k o} ho hk => by
    have hg : ids.getD k 0 = i := by simp [List.getD_eq_getElem?_getD, hk]
    refine ⟨newObs_get hk ho, by rw [hg], ?_, hg⟩
    rcases Nat.lt_or_ge k ids.length with h' | h'
    · exact h'
    · simp [List.getElem?_eq_none h'] at hk
  have keep : ∀ {i : Nat} {o : Ob}, st.ob[i]? = some o → (merge st.ob ids obs')[i]? = some .dead ∨ ∃ o', (merge st.ob ids obs')[i]? = some o' ∧ (o = o' ∨ o.sameShape o') ∧ locBack ids st.ob.length loc loc' i = loc i := by
    intro i o ho
    by_cases h2 : i ∈ ids
    · obtain ⟨k, hk⟩ := List.mem_iff_getElem?.1 h2
      obtain ⟨e1, e2, e3, e4⟩ := kin ho hk
      rcases hst k _ e1 with h1 | ⟨o', h1, h3, h4⟩
      · have := (num h1).1
        rw [if_pos e3, e4] at this
        exact .inl this
      · have := num h1
        rw [if_pos e3, e4] at this
        refine .inr ⟨_, this.1, .inr ?_, by rw [this.2, h4]; exact e2⟩
        exact renOb_shape h3
    · have := out (lt_of ho) h2
      exact .inr ⟨o, by rw [this.1]; exact ho, .inl rfl, this.2⟩
  have turns : Turns st.ob (merge st.ob ids obs') loc (locBack ids st.ob.length loc loc') := by
    refine ⟨fun i s xs h => ?_, fun i cs h => ?_, fun i es h => ?_, fun i h => ?_⟩ <;> rcases keep h with h1 | ⟨o', h1, h2, h3⟩
    · exact .inl h1
    · rcases h2 with rfl | h2
      · exact .inr ⟨xs, h1, rfl, h3⟩
      · cases o' <;> simp only [Ob.sameShape] at h2
        · exact .inl h1
        · obtain ⟨rfl, h2⟩ := h2; exact .inr ⟨_, h1, h2.symm, h3⟩
    · exact .inl h1
    · rcases h2 with rfl | h2
      · exact .inr ⟨cs, h1, rfl, h3⟩
      · cases o' <;> simp only [Ob.sameShape] at h2
        · exact .inl h1
        · exact .inr ⟨_, h1, h2.symm, h3⟩
    · exact .inl h1
    · rcases h2 with rfl | h2
      · exact .inr ⟨es, h1, h3⟩
      · cases o' <;> simp only [Ob.sameShape] at h2
        · exact .inl h1
        · exact .inr ⟨_, h1, h3⟩
    · exact h1
    · rcases h2 with rfl | h2
      · exact h1
      · cases o' <;> simp only [Ob.sameShape] at h2
        exact h1
  -- blocks of the caller's other objects stand
  have notM : ∀ {i : Nat} {o : Ob}, st.ob[i]? = some o → o.live = true → (loc i).r = true → i ∉ ids →
      ¬ ∃ (k : Nat) (o : Ob), (newObs st.ob ids)[k]? = some o ∧ o.live = true ∧ (loc (ids.getD k 0)).r = true ∧ (loc (ids.getD k 0)).b = (loc i).b := by
    rintro i o ho hl hr hn ⟨k, o2, h1, h2, h3, h4⟩
    obtain ⟨j, o3, hj, rfl, hx⟩ := newObs_of h1
    rw [renOb_live] at h2
    have hg : ids.getD k 0 = j := by simp [List.getD_eq_getElem?_getD, hj]
    rw [hg] at h3 h4
    rcases hx with hx | rfl
    · have := r.sr.inj j i o3 o hx ho h2 hl h3 hr h4
      exact hn (this ▸ List.mem_of_getElem? hj)
    · cases h2
  have stand : ∀ {i : Nat} {o : Ob}, st.ob[i]? = some o → o.live = true → (loc i).r = true → i ∉ ids → w'.heap[(loc i).b]? = w.heap[(loc i).b]? := fun ho hl hr hn =>
    gr.kept _ (r.sr.live_lt ho hl hr) (notM ho hl hr hn)
  have grc : Grows M.M H0 H2 w0 w' := by
    refine ⟨gr.os.trans r.gr.os, gr.tape.trans r.gr.tape, gr.output.trans r.gr.output, Nat.le_trans r.gr.size gr.size, fun b hb hm => ?_, r.gr.more.trans hH2H, fun b c hb => ?_⟩
    · rw [gr.kept b (Nat.lt_of_lt_of_le hb r.gr.size) ?_]
      · exact r.gr.kept b hb hm
      · rintro ⟨k, o2, h1, h2, h3, h4⟩
        obtain ⟨j, o3, hj, rfl, hx⟩ := newObs_of h1
        rw [renOb_live] at h2
        have hg : ids.getD k 0 = j := by simp [List.getD_eq_getElem?_getD, hj]
        rw [hg] at h3 h4
        rcases hx with hx | rfl
        · rcases r.own j o3 hx h2 h3 with h5 | h5
          · exact hm (h4 ▸ h5)
          · omega
        · cases h2
    · have h1 := hH2 b c hb
      rcases gr.new b c h1 with h2 | h2 | ⟨k, o2, h3, h4, h5, h6⟩
      · cases hx : Hc b with
        | none => exact absurd hx h2
        | some c2 =>
          rcases hHc2 b c2 hx with h3 | ⟨i, o, ho, hl, hr, hn, e⟩
          · cases hy : H b with
            | none => exact absurd hy h3
            | some c3 => exact r.gr.new b c3 hy
          · rw [← e, hH2l i o ho hl hr hn] at hb; cases hb
      · exact .inr (.inl (Nat.le_trans r.gr.size h2))
      · obtain ⟨j, o3, hj, rfl, hx⟩ := newObs_of h3
        rw [renOb_live] at h4
        have hg : ids.getD k 0 = j := by simp [List.getD_eq_getElem?_getD, hj]
        rw [hg] at h5 h6
        rcases hx with hx | rfl
        · rcases r.own j o3 hx h4 h5 with h7 | h7
          · exact .inr (.inr (h6 ▸ h7))
          · exact .inr (.inl (h6 ▸ h7))
        · cases h4
  refine ⟨⟨⟨fun b c hb => sr.heap b c (hH2 b c hb), fun i y hi => ?_, fun i y hi hl hr => ?_, fun i j y y' hi hj hl hl' hr hr' e => ?_⟩, fun t => (r.tm t).turn hH2H turns, r.sz, r.df, grc, fun i y hi hl hr => ?_, r.n0, fun k o hk => ?_⟩, ?_⟩
  · rcases part hi with ⟨h1, h2, h3⟩ | ⟨k, o, ho, rfl, rfl⟩
    · rw [(out h1 h2).2]
      cases hl : y.live with
      | false => cases y <;> first | trivial | cases hl
      | true => exact Ob.holds_turn hH2H turns (fun hr => stand h3 hl hr h2) (r.sr.obj i y h3)
    · rw [(num ho).2]
      exact holds_map leaf (.refl H2) (hO _ o (sr.obj k o ho) (hok o (List.mem_of_getElem? ho)))
  · rcases part hi with ⟨h1, h2, h3⟩ | ⟨k, o, ho, rfl, rfl⟩
    · rw [(out h1 h2).2] at hr ⊢; exact hH2l i y h3 hl hr h2
    · rw [(num ho).2] at hr ⊢
      rw [renOb_live] at hl
      cases hx : H2 (loc' k).b with
      | none => rfl
      | some c => have := hH2 _ _ hx; rw [sr.apart k o ho hl hr] at this; cases this
  · have cross : ∀ {i : Nat} {y : Ob} {k : Nat} {o : Ob}, st.ob[i]? = some y → i ∉ ids → y.live = true → (loc i).r = true → obs'[k]? = some o → o.live = true → (loc' k).r = true → (loc i).b ≠ (loc' k).b := by
      intro i y k o hiy hn hly hri hk hlo hrk e
      rcases own k o hk hlo hrk with ⟨m, o', h1, h2, h3, h4⟩ | h1
      · exact notM hiy hly hri hn ⟨m, o', h1, h2, h3, h4.trans e.symm⟩
      · have := r.sr.live_lt hiy hly hri
        omega
    rcases part hi with ⟨h1, h2, h3⟩ | ⟨k, o, ho, rfl, hik⟩ <;> rcases part hj with ⟨h4, h5, h6⟩ | ⟨k', o', ho', rfl, hjk⟩
    · rw [(out h1 h2).2] at hr e; rw [(out h4 h5).2] at hr' e; exact r.sr.inj i j y y' h3 h6 hl hl' hr hr' e
    · rw [(out h1 h2).2] at hr e; rw [hjk, (num ho').2] at hr' e; rw [renOb_live] at hl'
      exact absurd e (cross h3 h2 hl hr ho' hl' hr')
    · rw [(out h4 h5).2] at hr' e; rw [hik, (num ho).2] at hr e; rw [renOb_live] at hl
      exact absurd e.symm (cross h6 h5 hl' hr' ho hl hr)
    · rw [hik, (num ho).2] at hr e; rw [hjk, (num ho').2] at hr' e; rw [renOb_live] at hl hl'
      have := sr.inj k k' o o' ho ho' hl hl' hr hr' e
      subst this
      rw [hik, hjk]
  · rcases part hi with ⟨h1, h2, h3⟩ | ⟨k, o, ho, rfl, rfl⟩
    · rw [(out h1 h2).2] at hr ⊢; exact r.own i y h3 hl hr
    · rw [(num ho).2] at hr ⊢
      rw [renOb_live] at hl
      rcases own k o ho hl hr with ⟨m, o', h1, h2, h3, h4⟩ | h1
      · obtain ⟨j, o3, hj, rfl, hx⟩ := newObs_of h1
        rw [renOb_live] at h2
        have hg : ids.getD m 0 = j := by simp [List.getD_eq_getElem?_getD, hj]
        rw [hg] at h3 h4
        rcases hx with hx | rfl
        · rw [← h4]; exact r.own j o3 hx h2 h3
        · cases h2
      · exact .inr (Nat.le_trans r.gr.size h1)
  · rcases r.ent k o hk with h1 | ⟨o', h1, h2, h3⟩
    · rcases keep h1 with h4 | ⟨o2, h4, h5, h6⟩
      · exact .inl h4
      · rcases h5 with rfl | h5
        · exact .inl h4
        · cases o2 <;> simp only [Ob.sameShape] at h5
          exact .inl h4
    · rcases keep h1 with h4 | ⟨o2, h4, h5, h6⟩
      · exact .inl h4
      · rcases h5 with rfl | h5
        · exact .inr ⟨_, h4, h2, h6.trans h3⟩
        · exact .inr ⟨_, h4, Ob.sameShape_trans h2 h5, h6.trans h3⟩
  · exact V.mapOk (ok := okL) (fun v d h hk n1 n2 n3 => leaf v d (hL v d h hk n1 n2 n3) n1 n2 n3) hv hvk

end
end Go.Ab

/- The operation that calls, over abstract states. No program is named here. -/
namespace Go.Ab

theorem V.flat {H H2 : HV} {loc : Nat → Loc} {obs : List Ob} {v : Value} {d : D} (h : V H loc obs v d) (hk : D.all flatL d) : V H2 loc obs v d := by
  induction h with
  | none v => exact .none v
  | p v x h => exact .p v x (flatPV_any h hk)
  | nil => exact .nil
  | ref id off len cap s xs ho hl hc hx hr hn => exact .ref id off len cap s xs ho hl hc hx hr hn
  | ref0 a id off s xs ho hl => exact .ref0 a id off s xs ho hl
  | refGone v id off len ho => exact .refGone v id off len ho
  | ptr id i j s xs ho => exact .ptr id i j s xs ho
  | ptrBox id j cs ho => exact .ptrBox id j cs ho
  | ptrGone v id i j ho => exact .ptrGone v id i j ho
  | rd => exact hk.elim
  | mp id es ho => exact .mp id es ho
  | mpGone v id ho => exact .mpGone v id ho
  | gref id s off len cap cs ho hl hc => exact .gref id s off len cap cs ho hl hc
  | grefGone v id s off len ho => exact .grefGone v id s off len ho
  | fn f vs caps hn _ ih => simp only [D.all] at hk; exact .fn f vs caps hn fun i v d h1 h2 => ih i v d h1 h2 (D.allL_get hk h2)
  | agg vs cs hn _ ih => simp only [D.all] at hk; exact .agg vs cs hn fun i v d h1 h2 => ih i v d h1 h2 (D.allL_get hk h2)
  | tup vs cs hn _ ih => simp only [D.all] at hk; exact .tup vs cs hn fun i v d h1 h2 => ih i v d h1 h2 (D.allL_get hk h2)

theorem Ob.holds_flat {H H2 : HV} {loc : Nat → Loc} {obs : List Ob} {w : World} {l : Loc} {o : Ob} (h : o.holds H loc obs w l) (hk : flatOb o) : o.holds H2 loc obs w l := by
  cases o with
  | dead => trivial
  | unborn => trivial
  | row s xs =>
    rcases h with h | ⟨hr, c, e, h1, h2, h3, h4, h5⟩
    · exact .inl h
    refine .inr ⟨hr, c, e, h1, h2, h3, h4, fun i x hi j y hj => ?_⟩
    obtain ⟨v, a, b, c⟩ := h5 i x hi j y hj
    exact ⟨v, a, b, flatPV_any c (hk x (List.mem_of_getElem? hi) y (List.mem_of_getElem? hj))⟩
  | box cs =>
    obtain ⟨hr, c, e, h1, h2, h3, h5⟩ := h
    refine ⟨hr, c, e, h1, h2, h3, fun j d hj => ?_⟩
    obtain ⟨v, a, b, c⟩ := h5 j d hj
    exact ⟨v, a, b, c.flat (D.allL_get hk hj)⟩
  | map es =>
    obtain ⟨hr, c, e, h1, h2, h5⟩ := h
    refine ⟨hr, c, e, h1, h2, fun i k x hi => ?_⟩
    obtain ⟨m, a, b, c, d⟩ := h5 i k x hi
    exact ⟨m, a, b, c, flatPV_any d (hk (k, x) (List.mem_of_getElem? hi))⟩

mutual
theorem D.all_true : ∀ d : D, D.all (fun _ => True) d
  | .fn _ caps => D.allL_true caps
  | .agg cs => D.allL_true cs
  | .tup ds => D.allL_true ds
  | .none => trivial
  | .p _ => trivial
  | .nil => trivial
  | .ref _ _ _ => trivial
  | .ptr _ _ _ => trivial
  | .rd _ _ => trivial
  | .mp _ => trivial
  | .gref _ _ _ _ => trivial
theorem D.allL_true : ∀ l : List D, D.allL (fun _ => True) l
  | [] => trivial
  | d :: l => ⟨D.all_true d, D.allL_true l⟩
end

/-- A row of cells, as data. -/
theorem give_gref {H Hc : HV} {loc loc' : Nat → Loc} {obs obs' : List Ob} {ids : List Nat} {w : World} (hsr : Sr H loc obs w)
    (hlent : ∀ (i : Nat) (o : Ob), obs[i]? = some o → o.live = true → (loc i).r = true → i ∉ ids → ∀ c e f, w.heap[(loc i).b]? = some (.cells c e f) → Hc (loc i).b = some c)
    (hrow : Leafy (giveRow ids obs) H Hc loc loc' obs obs') {v : Value} {id s off len : Nat} (hv : V H loc obs v (.gref id s off len)) (hid : idx ids id = none) :
    V Hc loc' obs' v (give ids obs (.gref id s off len)) := by
  have hni := idx_none hid
  simp only [give, hid]
  cases hv with
  | grefGone _ _ _ _ _ hob => simp only [hob]; exact .none _
  | gref _ _ _ _ cap cs hob hl hcap =>
    simp only [hob]
    split
    · rename_i xs hxs
      obtain ⟨hr, c, e, h1, h2, h3, h5⟩ := hsr.obj id _ hob
      have hHb : Hc (loc id).b = some c := hlent id _ hob rfl hr hni c e _ h1
      obtain ⟨hyl, hyg⟩ := toPVs_get hxs
      rw [List.length_map] at hyl
      have cellAt : ∀ (k : Nat) y, xs[k]? = some y → ∃ u, c[(loc id).o + k]? = some u ∧ u.oneCell' = true ∧ PVr Hc u y := fun k y hy => by
        obtain ⟨d, hd1, hd2⟩ := hyg k y hy
        rw [List.getElem?_map] at hd1
        cases hck : cs[k]? with
        | none => rw [hck] at hd1; cases hd1
        | some d0 =>
          rw [hck] at hd1; cases hd1
          obtain ⟨u, a1, a2, a3⟩ := h5 k d0 hck
          have n1 : ∀ f c, d0 ≠ .fn f c := fun f c e => by subst e; simp [giveRow, ren1, toPV] at hd2
          have n2 : ∀ c, d0 ≠ .agg c := fun c e => by subst e; simp [giveRow, ren1, toPV] at hd2
          have n3 : ∀ c, d0 ≠ .tup c := fun c e => by subst e; simp [giveRow, ren1, toPV] at hd2
          exact ⟨u, a1, a2, toPV_of (hrow u d0 a3 n1 n2 n3) hd2⟩
      have hoff : (off + len) * s = off * s + len * s := Nat.add_mul _ _ _
      have cellC : ∀ (i : Nat) x, (chunk s len (xs.drop (off * s)))[i]? = some x → ∀ (j : Nat) y, x[j]? = some y → xs[off * s + i * s + j]? = some y := fun i x hx j y hy => by
        rw [chunk_get s len _ i x hx, List.getElem?_take] at hy
        split at hy
        · rw [List.getElem?_drop, List.getElem?_drop] at hy
          rw [← hy]
          congr 1
          omega
        · cases hy
      have hpv := PVr.sl (H := Hc) (loc id).b ((loc id).o + off * s) cap s c (chunk s len (xs.drop (off * s))) (fun k j => (c[(loc id).o + off * s + k * s + j]?).getD undef) hHb
        (fun z hz => by
          obtain ⟨i, hi⟩ := List.getElem?_of_mem hz
          have hil : i < len := by
            have : i < (chunk s len (xs.drop (off * s))).length := by
              rcases Nat.lt_or_ge i (chunk s len (xs.drop (off * s))).length with h' | h'
              · exact h'
              · simp [List.getElem?_eq_none h'] at hi
            rwa [chunk_length] at this
          have hm : (i + 1) * s ≤ len * s := Nat.mul_le_mul_right s hil
          rw [Nat.succ_mul] at hm
          rw [chunk_get s len _ i z hi]
          simp only [List.length_take, List.length_drop]
          omega)
        (by rw [chunk_length]; exact hcap)
        (fun k z hk j y hy => by
          obtain ⟨u, a1, _⟩ := cellAt _ _ (cellC k z hk j y hy)
          rw [show (loc id).o + off * s + k * s + j = (loc id).o + (off * s + k * s + j) by omega, a1]; rfl)
        (fun k z hk j y hy => by
          obtain ⟨u, a1, a2, _⟩ := cellAt _ _ (cellC k z hk j y hy)
          rw [show (loc id).o + off * s + k * s + j = (loc id).o + (off * s + k * s + j) by omega, a1]; exact a2)
        (fun k z hk j y hy => by
          obtain ⟨u, a1, _, a3⟩ := cellAt _ _ (cellC k z hk j y hy)
          rw [show (loc id).o + off * s + k * s + j = (loc id).o + (off * s + k * s + j) by omega, a1]; exact a3)
      rw [chunk_length] at hpv
      exact .p _ _ hpv
    · exact .none _

/-- A call of a known function. -/
def acall (P : Program) (st : St) (d : D) (args : List D) (K : D → St → Prop) : Prop :=
  match d with
  | .fn f caps =>
    (∀ args w, (callFunc f args).run P w = .ok (.enter f args) w) ∧ ∃ (ids : List Nat) (Q : D → List Ob → Prop), ids.Nodup ∧ (∀ i, i ∈ ids → i < st.ob.length) ∧
      ((ACalls P f ((args ++ caps).map (D.map (ren1 ids))) (newObs st.ob ids) Q ∧ ∀ r obs', Q r obs' → ids.length ≤ obs'.length ∧ K (D.map (back ids st.ob.length) r) ⟨st.tm, merge st.ob ids obs', st.n0⟩) ∨
       (ACalls P f ((args ++ caps).map (D.map (give ids st.ob))) (newObs st.ob ids) Q ∧ ∀ r obs', Q r obs' → ids.length ≤ obs'.length ∧ D.all flatL r ∧ (∀ o, o ∈ obs' → flatOb o) ∧
          K (D.map (back ids st.ob.length) r) ⟨st.tm, merge st.ob ids obs', st.n0⟩))
  | _ => False

section
variable {P : Program} {M : En} {H0 : HV} {w0 : World} {nt : Nat} {H : HV} {loc : Nat → Loc} {w : World} {st : St} {a : Act}

theorem exec_call {o : Oper} {x : Operand} {args : Array Operand} {ts : Array TypeId} (ho : o.op = .call { callee := .value x, args := args, argTypes := ts }) {f : FuncId} {vs : Array Value} (hx : a.eval x = .func (.func f) #[] vs)
    (hf : ∀ args w, (callFunc f args).run P w = .ok (.enter f args) w) : (execOp a.eval o).run P w = .ok (.enter f (args.map a.eval ++ vs)) w := by
  simp only [execOp, ho, resolve, hx, Deferred.ofValue, pure_bind, invoke, Array.empty_append, hf]

open Classical in
theorem opS_call {o : Oper} {K : D → St → Prop} {x : Operand} {args : Array Operand} {ts : Array TypeId} (ho : o.op = .call { callee := .value x, args := args, argTypes := ts })
    (h : acall P st (st.ev x) (args.toList.map st.ev) K) : OpS P nt o st K := by
  rintro M H0 w0 w a ⟨H, loc, r⟩ next Q hn
  have hx := r.ev x
  generalize hvx : a.eval x = vx at hx
  generalize st.ev x = dx at hx h
  cases dx with
  | fn f caps =>
    obtain ⟨hf, ids, Qc, hd, hin, hc⟩ := h
    cases hx with
    | fn _ vs _ hnv hcv =>
      unfold Oper.wp
      rw [exec_call ho hvx hf, Oper.upon_enter]
      have hargs : ∀ (i : Nat) v d, (args.map a.eval ++ vs)[i]? = some v → (args.toList.map st.ev ++ caps)[i]? = some d → V H loc st.ob v d := by
        intro i v d h1 h2
        by_cases hi : i < args.size
        · rw [Array.getElem?_append_left (by simpa using hi)] at h1
          rw [List.getElem?_append_left (by simpa using hi)] at h2
          simp only [Array.getElem?_map, List.getElem?_map, Array.getElem?_toList] at h1 h2
          rw [Array.getElem?_eq_getElem hi] at h1 h2
          cases h1; cases h2
          exact r.ev _
        · rw [Array.getElem?_append_right (by simp; omega)] at h1
          rw [List.getElem?_append_right (by simp; omega)] at h2
          simp only [Array.size_map, List.length_map, Array.length_toList] at h1 h2
          exact hcv _ v d h1 h2
      have hsz : ∀ g : D → D, (args.map a.eval ++ vs).size = ((args.toList.map st.ev ++ caps).map g).length := fun g => by simp [hnv]
      rcases hc with ⟨hcall, hK⟩ | ⟨hcall, hK⟩
      · refine (hcall H (fun k => loc (ids.getD k 0)) w _ (r.sr.ren hd) (hsz _) fun i v d h1 h2 => ?_).mono ?_
        · rw [List.getElem?_map] at h2
          cases hy : (args.toList.map st.ev ++ caps)[i]? with
          | none => rw [hy] at h2; cases h2
          | some y => rw [hy] at h2; cases h2; exact (hargs i v y h1 hy).map (leafy_ren H loc st.ob ids)
        · rintro e w' ⟨v, H', loc', rd, obs', hq, rfl, hv, sr, gr, own, hst⟩
          obtain ⟨hlen, hK⟩ := hK rd obs' hq
          have notH : ∀ (i : Nat) (o : Ob), st.ob[i]? = some o → o.live = true → (loc i).r = true → i ∉ ids → H' (loc i).b = none := fun i o hio hl hr hni => by
            cases hx : H' (loc i).b with
            | none => rfl
            | some c =>
              rcases gr.new _ c hx with h1 | h1 | ⟨k, o2, h3, h4, h5, h6⟩
              · exact absurd (r.sr.apart i o hio hl hr) h1
              · have := r.sr.live_lt hio hl hr; omega
              · obtain ⟨j, o3, hj, rfl, hx2⟩ := newObs_of h3
                rw [renOb_live] at h4
                have hg : ids.getD k 0 = j := by simp [List.getD_eq_getElem?_getD, hj]
                rw [hg] at h5 h6
                rcases hx2 with hx2 | rfl
                · have := r.sr.inj j i o3 o hx2 hio h4 hl h5 hr h6
                  exact absurd (this ▸ List.mem_of_getElem? hj) hni
                · cases h4
          have := r.called hd hin (.refl H) (fun b c hb => .inl (by rw [hb]; simp)) sr gr own hst hlen (fun _ => True) (fun _ => True) hv (D.all_true rd) (fun _ _ => trivial) H' (fun _ _ h => h) notH gr.more
            (fun _ _ h _ _ _ _ => h) (fun _ _ h _ => h)
          exact hn _ _ v w' H' _ hK this.1 this.2
      · let lent : Nat → Prop := fun b => ∃ (i : Nat) (o : Ob), st.ob[i]? = some o ∧ o.live = true ∧ (loc i).r = true ∧ i ∉ ids ∧ (loc i).b = b
        let Hc : HV := fun b => if lent b then (match w.heap[b]? with | some (.cells c _ _) => some c | _ => none) else H b
        have notLent : ∀ {b : Nat} {c : Array Value}, H b = some c → ¬ lent b := fun {b c} hb => by
          rintro ⟨i, o, hio, hl, hr, hni, rfl⟩
          rw [r.sr.apart i o hio hl hr] at hb; cases hb
        have hHc : HLe H Hc := fun b c hb => ⟨c, by simp only [Hc, if_neg (notLent hb)]; exact hb, fun _ _ h => h⟩
        have lentIds : ∀ {k : Nat} {o : Ob}, (newObs st.ob ids)[k]? = some o → o.live = true → (loc (ids.getD k 0)).r = true → ¬ lent (loc (ids.getD k 0)).b := by
          rintro k o hk hl hr ⟨i, o2, hio, hl2, hr2, hni, e⟩
          obtain ⟨j, o3, hj, rfl, hx2⟩ := newObs_of hk
          rw [renOb_live] at hl
          have hg : ids.getD k 0 = j := by simp [List.getD_eq_getElem?_getD, hj]
          rw [hg] at hr e
          rcases hx2 with hx2 | rfl
          · have := r.sr.inj i j o2 o3 hio hx2 hl2 hl hr2 hr e
            exact hni (this ▸ List.mem_of_getElem? hj)
          · cases hl
        have hsrc : Sr Hc (fun k => loc (ids.getD k 0)) (newObs st.ob ids) w := by
          have s0 := r.sr.ren hd
          refine ⟨fun b c hb => ?_, fun k o hk => ?_, fun k o hk hl hr => ?_, s0.inj⟩
          · simp only [Hc] at hb
            split at hb
            · cases hw : w.heap[b]? with
              | none => rw [hw] at hb; cases hb
              | some ob =>
                rw [hw] at hb
                cases ob <;> dsimp only at hb <;> try cases hb
                exact ⟨_, _, _, rfl, fun _ _ h => h⟩
            · exact r.sr.heap b c hb
          · exact Ob.holds_turn hHc (Turns.refl _ _) (fun _ => rfl) (s0.obj k o hk)
          · have h1 := s0.apart k o hk hl hr
            simp only [Hc, if_neg (lentIds hk hl hr)]
            exact h1
        have hrow : Leafy (giveRow ids st.ob) H Hc loc (fun k => loc (ids.getD k 0)) st.ob (newObs st.ob ids) := by
          intro v d hv n1 n2 n3
          have base : V Hc (fun k => loc (ids.getD k 0)) (newObs st.ob ids) v (ren1 ids d) := (leafy_ren H loc st.ob ids v d hv n1 n2 n3).turn hHc (Turns.refl _ _)
          by_cases hd' : ∃ id off len, d = .ref id off len ∧ idx ids id = none
          · obtain ⟨id, off, len, rfl, hid⟩ := hd'
            have hni := idx_none hid
            simp only [giveRow, hid]
            cases hv with
            | ref _ _ _ cap s xs hob hl hcap hx hr hn' =>
              simp only [hob]
              have hlent : lent (loc id).b := ⟨id, _, hob, rfl, hr, hni, rfl⟩
              rcases r.sr.obj id _ hob with ⟨h1, _⟩ | ⟨_, c, e, h1, h2, h3, h4, h5⟩
              · rw [hr] at h1; cases h1
              · have hHb : Hc (loc id).b = some c := by simp only [Hc, if_pos hlent, h1]
                have hlen : ((xs.drop off).take len).length = len := by simp; omega
                have hget : ∀ (k : Nat) z, ((xs.drop off).take len)[k]? = some z → xs[off + k]? = some z := fun k z hk => by
                  rw [List.getElem?_take] at hk
                  split at hk
                  · rw [List.getElem?_drop] at hk; exact hk
                  · cases hk
                have cellAt : ∀ (k : Nat) z, ((xs.drop off).take len)[k]? = some z → ∀ (j : Nat) y, z[j]? = some y → ∃ u, c[(loc id).o + off * s + k * s + j]? = some u ∧ u.oneCell' = true ∧ PVr H u y := fun k z hk j y hy => by
                  obtain ⟨u, a1, a2, a3⟩ := h5 _ z (hget k z hk) j y hy
                  exact ⟨u, by rw [show (loc id).o + off * s + k * s + j = (loc id).o + (off + k) * s + j by rw [Nat.add_mul]; omega]; exact a1, a2, a3⟩
                have hpv := PVr.sl (H := Hc) (loc id).b ((loc id).o + off * s) cap s c ((xs.drop off).take len) (fun k j => (c[(loc id).o + off * s + k * s + j]?).getD undef) hHb
                  (fun z hz => h4 z (List.mem_of_mem_drop (List.mem_of_mem_take hz))) (by omega)
                  (fun k z hk j y hy => by obtain ⟨u, a1, _⟩ := cellAt k z hk j y hy; rw [a1]; rfl)
                  (fun k z hk j y hy => by obtain ⟨u, a1, a2, _⟩ := cellAt k z hk j y hy; rw [a1]; exact a2)
                  (fun k z hk j y hy => by obtain ⟨u, a1, _, a3⟩ := cellAt k z hk j y hy; rw [a1]; exact a3.mono hHc)
                rw [hlen] at hpv
                exact .p _ _ hpv
            | ref0 b _ _ s xs hob hl =>
              simp only [hob]
              rw [List.take_zero]
              exact .p _ _ (.none _ _)
            | refGone v _ _ _ hob => simp only [hob]; exact .none _
          · have : giveRow ids st.ob d = ren1 ids d := by
              cases d <;> first | rfl | skip
              rename_i id off len
              simp only [giveRow, ren1]
              cases hid : idx ids id with
              | some k => rfl
              | none => exact absurd ⟨id, off, len, rfl, hid⟩ hd'
            rw [this]; exact base
        have hleaf : Leafy (give ids st.ob) H Hc loc (fun k => loc (ids.getD k 0)) st.ob (newObs st.ob ids) := by
          intro v d hv n1 n2 n3
          by_cases hd' : ∃ id i j, d = .ptr id i j ∧ idx ids id = none
          · obtain ⟨id, i, j, rfl, hid⟩ := hd'
            have hni := idx_none hid
            simp only [give, hid]
            cases hv with
            | ptr _ _ _ s xs hob => simp only [hob]; exact .none _
            | ptrGone _ _ _ _ hob => simp only [hob]; exact .none _
            | ptrBox _ _ cs hob =>
              simp only [hob]
              split
              · rename_i xs hxs
                obtain ⟨hr, c, e, h1, h2, h3, h5⟩ := r.sr.obj id _ hob
                have hlent : lent (loc id).b := ⟨id, _, hob, rfl, hr, hni, rfl⟩
                have hHb : Hc (loc id).b = some c := by simp only [Hc, if_pos hlent, h1]
                obtain ⟨hyl, hyg⟩ := toPVs_get hxs
                have cellAt : ∀ (k : Nat) y, xs[k]? = some y → ∃ u, c[(loc id).o + k]? = some u ∧ u.oneCell' = true ∧ PVr Hc u y := fun k y hy => by
                  obtain ⟨d, hd1, hd2⟩ := hyg k y hy
                  rw [List.getElem?_map] at hd1
                  cases hck : cs[k]? with
                  | none => rw [hck] at hd1; cases hd1
                  | some d0 =>
                    rw [hck] at hd1; cases hd1
                    obtain ⟨u, a1, a2, a3⟩ := h5 k d0 hck
                    have n1 : ∀ f c, d0 ≠ .fn f c := fun f c e => by subst e; simp [giveRow, ren1, toPV] at hd2
                    have n2 : ∀ c, d0 ≠ .agg c := fun c e => by subst e; simp [giveRow, ren1, toPV] at hd2
                    have n3 : ∀ c, d0 ≠ .tup c := fun c e => by subst e; simp [giveRow, ren1, toPV] at hd2
                    exact ⟨u, a1, a2, toPV_of (hrow u d0 a3 n1 n2 n3) hd2⟩
                exact .rd (loc id).b (loc id).o c xs j (fun k => (c[(loc id).o + k]?).getD undef) hHb
                  (fun k y hy => by obtain ⟨u, a1, _⟩ := cellAt k y hy; rw [a1]; rfl)
                  (fun k y hy => by obtain ⟨u, a1, a2, _⟩ := cellAt k y hy; rw [a1]; exact a2)
                  (fun k y hy => by obtain ⟨u, a1, _, a3⟩ := cellAt k y hy; rw [a1]; exact a3)
              · exact .none _
          by_cases hdg : ∃ id s off len, d = .gref id s off len ∧ idx ids id = none
          · obtain ⟨id, s, off, len, rfl, hid⟩ := hdg
            exact give_gref r.sr (fun i o hio hl hr hni c e f hw => by
              have hlent : lent (loc i).b := ⟨i, o, hio, hl, hr, hni, rfl⟩
              simp only [Hc, if_pos hlent, hw]) hrow hv hid
          by_cases hnil : d = .nil
          · subst hnil
            cases hv
            exact .p _ _ (.none _ _)
          · have : give ids st.ob d = giveRow ids st.ob d := by
              cases d <;> first | rfl | exact absurd rfl hnil | skip
              · rename_i id i j
                simp only [give, giveRow, ren1]
                cases hid : idx ids id with
                | some k => rfl
                | none => exact absurd ⟨id, i, j, rfl, hid⟩ hd'
              · rename_i id s off len
                simp only [give, giveRow, ren1]
                cases hid : idx ids id with
                | some k => rfl
                | none => exact absurd ⟨id, s, off, len, rfl, hid⟩ hdg
            rw [this]; exact hrow v d hv n1 n2 n3
        refine (hcall Hc (fun k => loc (ids.getD k 0)) w _ hsrc (hsz _) fun i v d h1 h2 => ?_).mono ?_
        · rw [List.getElem?_map] at h2
          cases hy : (args.toList.map st.ev ++ caps)[i]? with
          | none => rw [hy] at h2; cases h2
          | some y => rw [hy] at h2; cases h2; exact (hargs i v y h1 hy).map hleaf
        · rintro e w' ⟨v, H', loc', rd, obs', hq, rfl, hv, sr, gr, own, hst⟩
          obtain ⟨hlen, hfl, hfo, hK⟩ := hK rd obs' hq
          let H2 : HV := fun b => if lent b then none else H' b
          have := r.called hd hin hHc (fun b c hb => by
              by_cases hl : lent b
              · exact .inr hl
              · simp only [Hc, if_neg hl] at hb; exact .inl (by rw [hb]; simp)) sr gr own hst hlen flatL flatOb hv hfl hfo H2 (fun b c hb => by
              simp only [H2] at hb
              split at hb
              · cases hb
              · exact hb) (fun i o hio hl hr hni => by simp only [H2]; exact if_pos ⟨i, o, hio, hl, hr, hni, rfl⟩) (fun b c hb => by
              obtain ⟨c', h1, h2⟩ := hHc b c hb
              obtain ⟨c'', h3, h4⟩ := gr.more b c' h1
              exact ⟨c'', by simp only [H2, if_neg (notLent hb)]; exact h3, fun i v hi => h4 i v (h2 i v hi)⟩)
            (fun v d h hk n1 n2 n3 => by
              have : D.all flatL d := by
                cases d <;> first | exact hk | exact absurd rfl (n1 _ _) | exact absurd rfl (n2 _) | exact absurd rfl (n3 _)
              exact h.flat this) (fun l o h hk => Ob.holds_flat h hk)
          exact hn _ _ v w' H2 _ hK this.1 this.2
  | _ => exact h.elim

end

end Go.Ab

/- '==' of structs and arrays whose cells are numbers, strings and Bools. No program is named here. -/
namespace Go.Ab

/-- What a cell is. -/
inductive CK where
  | int (k : IntKind)
  | str
  | bool

def ckOf (P : Program) (t : TypeId) : Option CK :=
  match P.underlying t with
  | some (.int k) => some (.int k)
  | some .string => some .str
  | some .bool => some .bool
  | _ => none

def fieldsCK (P : Program) : List Field → Nat → Option (List CK)
  | [], _ => some []
  | f :: l, o => if f.name ≠ "_" ∧ f.offset = o then match ckOf P f.type, fieldsCK P l (o + 1) with
    | some c, some cs => some (c :: cs)
    | _, _ => none else none

/-- The cells of a type that '==' tells apart one by one. -/
def eqO (P : Program) (t : TypeId) : Option (List CK) :=
  match P.underlying t with
  | some (.struct fs) => if P.stoodInHeld t = false ∧ P.eqGuardType P.depth t = false then fieldsCK P fs.toList 0 else none
  | some (.array n e) => if P.eqGuardType P.depth t = false ∧ P.cellsOf e = 1 ∧ (P.info? e).isSome = true then (ckOf P e).map (List.replicate n) else none
  | _ => none

/-- Are two rows of cells one? -/
def eqCells : List CK → List D → List D → Option Bool
  | [], [], [] => some true
  | .int k :: c, .p (.lit (.int k1 a)) :: l, .p (.lit (.int k2 b)) :: l' => if k1 = k ∧ k2 = k then (eqCells c l l').map (a == b && ·) else none
  | .str :: c, .p (.lit (.string a)) :: l, .p (.lit (.string b)) :: l' => (eqCells c l l').map (a.toList == b.toList && ·)
  | .bool :: c, .p (.lit (.bool a)) :: l, .p (.lit (.bool b)) :: l' => (eqCells c l l').map (a == b && ·)
  | _, _, _ => none

section
variable {P : Program} (w : World)

theorem ck_plain {t : TypeId} {c : CK} (h : ckOf P t = some c) : P.plainKey t = true := by
  unfold ckOf at h
  unfold Program.plainKey
  split at h <;> simp_all

/-- One cell. -/
theorem ck_cell {t : TypeId} {c : CK} {cs : List CK} {x y : D} {l l' : List D} {b : Bool} {H : HV} {loc : Nat → Loc} {obs : List Ob} {vx vy : Value} (d : Nat) (h : ckOf P t = some c) (he : eqCells (c :: cs) (x :: l) (y :: l') = some b)
    (hx : V H loc obs vx x) (hy : V H loc obs vy y) : ∃ r r', (Op.equalIn (d + 1) t vx vy).run P w = .ok r w ∧ eqCells cs l l' = some r' ∧ b = (r && r') := by
  unfold ckOf at h
  split at h <;> cases h
  · rename_i k hu
    unfold eqCells at he
    split at he
    all_goals first
      | (cases he; done)
      | (rename_i h1 h2 h3; simp at h1; done)
      | skip
    rename_i heq1 heq2 heq3
    simp at heq1 heq2 heq3
    obtain ⟨rfl, rfl⟩ := heq1
    obtain ⟨rfl, rfl⟩ := heq2
    obtain ⟨rfl, rfl⟩ := heq3
    split at he
    · rename_i hk
      obtain ⟨rfl, hk⟩ := hk
      subst hk
      have := hx.lit_inv; subst this
      have := hy.lit_inv; subst this
      cases hr : eqCells cs l l' with
      | none => rw [hr] at he; cases he
      | some r' => rw [hr] at he; cases he; exact ⟨_, r', run_equalIn_int w d t _ _ _ _ hu, rfl, rfl⟩
    · cases he
  · rename_i hu
    unfold eqCells at he
    split at he
    all_goals first
      | (cases he; done)
      | (rename_i h1 h2 h3; simp at h1; done)
      | skip
    rename_i heq1 heq2 heq3
    simp at heq1 heq2 heq3
    subst heq1
    obtain ⟨rfl, rfl⟩ := heq2
    obtain ⟨rfl, rfl⟩ := heq3
    have := hx.lit_inv; subst this
    have := hy.lit_inv; subst this
    cases hr : eqCells cs l l' with
    | none => rw [hr] at he; cases he
    | some r' => rw [hr] at he; cases he; exact ⟨_, r', run_equalIn_string w d t _ _ hu, rfl, rfl⟩
  · rename_i hu
    unfold eqCells at he
    split at he
    all_goals first
      | (cases he; done)
      | (rename_i h1 h2 h3; simp at h1; done)
      | skip
    rename_i heq1 heq2 heq3
    simp at heq1 heq2 heq3
    subst heq1
    obtain ⟨rfl, rfl⟩ := heq2
    obtain ⟨rfl, rfl⟩ := heq3
    have := hx.lit_inv; subst this
    have := hy.lit_inv; subst this
    cases hr : eqCells cs l l' with
    | none => rw [hr] at he; cases he
    | some r' => rw [hr] at he; cases he; exact ⟨_, r', run_equalIn_bool w d t _ _ hu, rfl, rfl⟩

theorem eqCells_cons {c : CK} {cs : List CK} {xs ys : List D} {b : Bool} (h : eqCells (c :: cs) xs ys = some b) : ∃ x l y l', xs = x :: l ∧ ys = y :: l' := by
  unfold eqCells at h
  split at h
  all_goals first
    | (cases h; done)
    | exact ⟨_, _, _, _, rfl, rfl⟩
    | (rename_i h1; simp at h1; done)
    | (rename_i h1 _ _; simp at h1; done)
    | simp_all

theorem eqFields_flat {H : HV} {loc : Nat → Loc} {obs : List Ob} (d : Nat) (vs us : Array Value) (ds es : List D) (hv : ∀ (i : Nat) v d, vs[i]? = some v → ds[i]? = some d → V H loc obs v d) (hu : ∀ (i : Nat) v d, us[i]? = some v → es[i]? = some d → V H loc obs v d)
    (hvn : vs.size = ds.length) (hun : us.size = es.length) : ∀ (fs : List Field) (o : Nat) (cks : List CK) (b : Bool), fieldsCK P fs o = some cks → eqCells cks (ds.drop o) (es.drop o) = some b →
      (Op.eqFields (d + 1) vs us fs).run P w = .ok b w
  | [], o, cks, b, hf, he => by
    simp only [fieldsCK] at hf
    cases hf
    unfold eqCells at he
    split at he
    all_goals first
      | (cases he; rfl)
      | (cases he; done)
      | (rename_i h1 h2 h3; simp at h1; done)
  | f :: fs, o, cks, b, hf, he => by
    simp only [fieldsCK] at hf
    split at hf
    · rename_i hn
      split at hf
      · rename_i c cs hc hcs
        cases hf
        obtain ⟨x, l, y, l', e1, e2⟩ := eqCells_cons he
        have hx : ds[o]? = some x := by have := congrArg (·[0]?) e1; simpa using this
        have hy : es[o]? = some y := by have := congrArg (·[0]?) e2; simpa using this
        have hl : ds.drop (o + 1) = l := by rw [← List.drop_drop, e1]; rfl
        have hl' : es.drop (o + 1) = l' := by rw [← List.drop_drop, e2]; rfl
        have hox : o < ds.length := by rcases Nat.lt_or_ge o ds.length with h | h; exact h; simp [List.getElem?_eq_none h] at hx
        have hoy : o < es.length := by rcases Nat.lt_or_ge o es.length with h | h; exact h; simp [List.getElem?_eq_none h] at hy
        have gx : vs[o]? = some vs[o] := Array.getElem?_eq_getElem (by omega)
        have gy : us[o]? = some us[o] := Array.getElem?_eq_getElem (by omega)
        rw [e1, e2] at he
        obtain ⟨r, r', h1, h2, h3⟩ := ck_cell w d hc he (hv o _ _ gx hx) (hu o _ _ gy hy)
        have ih := eqFields_flat d vs us ds es hv hu hvn hun fs (o + 1) cs r' hcs (by rw [hl, hl']; exact h2)
        have hp := ck_plain hc
        obtain ⟨hn1, rfl⟩ := hn
        simp only [Op.eqFields, if_pos hn1, Sem.run_bind, run_part_plain w hp gx, run_part_plain w hp gy, h1, Result.andThen_ok]
        cases r
        · subst h3; rfl
        · subst h3; simpa using ih
      · cases hf
    · cases hf

theorem eqItems_flat {H : HV} {loc : Nat → Loc} {obs : List Ob} (d : Nat) {e : TypeId} (h1 : P.cellsOf e = 1) {c : CK} (hc : ckOf P e = some c) (vs us : Array Value) (ds es : List D) (hv : ∀ (i : Nat) v d, vs[i]? = some v → ds[i]? = some d → V H loc obs v d) (hu : ∀ (i : Nat) v d, us[i]? = some v → es[i]? = some d → V H loc obs v d)
    (hvn : vs.size = ds.length) (hun : us.size = es.length) : ∀ (n : Nat) (o : Nat) (b : Bool), eqCells (List.replicate n c) (ds.drop o) (es.drop o) = some b →
      (Op.eqItems (d + 1) e (P.cellsOf e) vs us (List.range' o n)).run P w = .ok b w
  | 0, o, b, he => by
    unfold eqCells at he
    simp only [List.replicate_zero] at he
    split at he
    all_goals first
      | (cases he; rfl)
      | (cases he; done)
      | (rename_i h1 h2 h3; simp at h1; done)
  | n + 1, o, b, he => by
    rw [List.replicate_succ] at he
    obtain ⟨x, l, y, l', e1, e2⟩ := eqCells_cons he
    have hx : ds[o]? = some x := by have := congrArg (·[0]?) e1; simpa using this
    have hy : es[o]? = some y := by have := congrArg (·[0]?) e2; simpa using this
    have hl : ds.drop (o + 1) = l := by rw [← List.drop_drop, e1]; rfl
    have hl' : es.drop (o + 1) = l' := by rw [← List.drop_drop, e2]; rfl
    have hox : o < ds.length := by rcases Nat.lt_or_ge o ds.length with h | h; exact h; simp [List.getElem?_eq_none h] at hx
    have hoy : o < es.length := by rcases Nat.lt_or_ge o es.length with h | h; exact h; simp [List.getElem?_eq_none h] at hy
    have gx : vs[o * P.cellsOf e]? = some vs[o] := by rw [h1, Nat.mul_one]; exact Array.getElem?_eq_getElem (by omega)
    have gy : us[o * P.cellsOf e]? = some us[o] := by rw [h1, Nat.mul_one]; exact Array.getElem?_eq_getElem (by omega)
    rw [e1, e2] at he
    obtain ⟨r, r', k1, k2, k3⟩ := ck_cell w d hc he (hv o _ _ (Array.getElem?_eq_getElem (by omega)) hx) (hu o _ _ (Array.getElem?_eq_getElem (by omega)) hy)
    have ih := eqItems_flat d h1 hc vs us ds es hv hu hvn hun n (o + 1) r' (by rw [hl, hl']; exact k2)
    have hp := ck_plain hc
    rw [List.range'_succ]
    simp only [Op.eqItems, Sem.run_bind, run_part_plain w hp gx, run_part_plain w hp gy, k1, Result.andThen_ok]
    cases r
    · subst k3; rfl
    · subst k3; simpa using ih

/-- '==' of two such values. -/
theorem run_eq_agg {H : HV} {loc : Nat → Loc} {obs : List Ob} {t : TypeId} {cks : List CK} {ds es : List D} {b : Bool} {vx vy : Value} (h : eqO P t = some cks) (he : eqCells cks ds es = some b)
    (hx : V H loc obs vx (.agg ds)) (hy : V H loc obs vy (.agg es)) :
    (binOp .eql t vx vy).run P w = .ok (.bool b) w ∧ (binOp .neq t vx vy).run P w = .ok (.bool (!b)) w ∧ ∀ op x y, (eqGuard op t x y vx vy).run P w = .ok () w := by
  cases hx with
  | agg vs _ hvn hv =>
    cases hy with
    | agg us _ hun hu =>
      unfold eqO at h
      split at h
      · rename_i fs hut
        split at h
        · rename_i hg
          have hf : P.fieldsOf t = fs := by unfold Program.fieldsOf; rw [hut]
          have key : (Op.equalIn 10000 t (.agg vs) (.agg us)).run P w = .ok b w := by
            rw [run_equalIn_struct w 9999 t vs us (by rw [hf]; exact hut) hg.1, hf]
            exact eqFields_flat w 9998 vs us ds es hv hu hvn hun fs.toList 0 cks b h he
          refine ⟨?_, ?_, fun op x y => run_eqGuard_agg w op t x y vs us hg.2⟩
          · rw [run_eql_struct, key]; rfl
          · rw [run_neq_struct, key]; rfl
        · cases h
      · rename_i n e hut
        split at h
        · rename_i hg
          cases hc : ckOf P e with
          | none => rw [hc] at h; cases h
          | some c =>
            rw [hc] at h; cases h
            obtain ⟨i, hi⟩ := Option.isSome_iff_exists.1 hg.2.2
            have key : (Op.equalIn 10000 t (.agg vs) (.agg us)).run P w = .ok b w := by
              rw [run_equalIn_array w 9999 vs us hut hi, List.range_eq_range']
              exact eqItems_flat w 9998 hg.2.1 hc vs us ds es hv hu hvn hun n 0 b he
            refine ⟨?_, ?_, fun op x y => run_eqGuard_agg w op t x y vs us hg.1⟩
            · rw [run_eql_struct, key]; rfl
            · rw [run_neq_struct, key]; rfl
        · cases h
      · cases h

end
end Go.Ab

/- What a caller gives away for good with a call is data from then on. No program is named here. -/
namespace Go.Ab

/-- The same, but nil stays what it is. -/
def give0 (ids : List Nat) (obs : List Ob) : D → D
  | .nil => .nil
  | d => give ids obs d

/-- The state with some objects alone; rows that are not among them are data from here on. -/
def St.away (ids : List Nat) (st : St) : St := ⟨fun t => D.map (give0 ids st.ob) (st.tm t), newObs st.ob ids, st.n0⟩

open Classical in
theorem Is.away {M : En} {H0 : HV} {w0 : World} {nt : Nat} {st : St} {a : Act} {w : World} (h : Is M H0 w0 nt st a w) {ids : List Nat} (hd : ids.Nodup) (hp : ∀ k, k < st.n0 → ids[k]? = some k) :
    Is M H0 w0 nt (st.away ids) a w := by
  obtain ⟨H, loc, r⟩ := h
  let lent : Nat → Prop := fun b => ∃ (i : Nat) (o : Ob), st.ob[i]? = some o ∧ o.live = true ∧ (loc i).r = true ∧ i ∉ ids ∧ (loc i).b = b
  let Hc : HV := fun b => if lent b then (match w.heap[b]? with | some (.cells c _ _) => some c | _ => none) else H b
  have notLent : ∀ {b : Nat} {c : Array Value}, H b = some c → ¬ lent b := fun {b c} hb => by
    rintro ⟨i, o, hio, hl, hr, hni, rfl⟩
    rw [r.sr.apart i o hio hl hr] at hb; cases hb
  have hHc : HLe H Hc := fun b c hb => ⟨c, by simp only [Hc, if_neg (notLent hb)]; exact hb, fun _ _ h => h⟩
  have lentIds : ∀ {k : Nat} {o : Ob}, (newObs st.ob ids)[k]? = some o → o.live = true → (loc (ids.getD k 0)).r = true → ¬ lent (loc (ids.getD k 0)).b := by
    rintro k o hk hl hr ⟨i, o2, hio, hl2, hr2, hni, e⟩
    obtain ⟨j, o3, hj, rfl, hx2⟩ := newObs_of hk
    rw [renOb_live] at hl
    have hg : ids.getD k 0 = j := by simp [List.getD_eq_getElem?_getD, hj]
    rw [hg] at hr e
    rcases hx2 with hx2 | rfl
    · have := r.sr.inj i j o2 o3 hio hx2 hl2 hl hr2 hr e
      exact hni (this ▸ List.mem_of_getElem? hj)
    · cases hl
  have hsrc : Sr Hc (fun k => loc (ids.getD k 0)) (newObs st.ob ids) w := by
    have s0 := r.sr.ren hd
    refine ⟨fun b c hb => ?_, fun k o hk => ?_, fun k o hk hl hr => ?_, s0.inj⟩
    · simp only [Hc] at hb
      split at hb
      · cases hw : w.heap[b]? with
        | none => rw [hw] at hb; cases hb
        | some ob =>
          rw [hw] at hb
          cases ob <;> dsimp only at hb <;> try cases hb
          exact ⟨_, _, _, rfl, fun _ _ h => h⟩
      · exact r.sr.heap b c hb
    · exact Ob.holds_turn hHc (Turns.refl _ _) (fun _ => rfl) (s0.obj k o hk)
    · have h1 := s0.apart k o hk hl hr
      simp only [Hc, if_neg (lentIds hk hl hr)]
      exact h1
  have hrow : Leafy (giveRow ids st.ob) H Hc loc (fun k => loc (ids.getD k 0)) st.ob (newObs st.ob ids) := by
    intro v d hv n1 n2 n3
    have base : V Hc (fun k => loc (ids.getD k 0)) (newObs st.ob ids) v (ren1 ids d) := (leafy_ren H loc st.ob ids v d hv n1 n2 n3).turn hHc (Turns.refl _ _)
    by_cases hd' : ∃ id off len, d = .ref id off len ∧ idx ids id = none
    · obtain ⟨id, off, len, rfl, hid⟩ := hd'
      have hni := idx_none hid
      simp only [giveRow, hid]
      cases hv with
      | ref _ _ _ cap s xs hob hl hcap hx hr hn' =>
        simp only [hob]
        have hlent : lent (loc id).b := ⟨id, _, hob, rfl, hr, hni, rfl⟩
        rcases r.sr.obj id _ hob with ⟨h1, _⟩ | ⟨_, c, e, h1, h2, h3, h4, h5⟩
        · rw [hr] at h1; cases h1
        · have hHb : Hc (loc id).b = some c := by simp only [Hc, if_pos hlent, h1]
          have hlen : ((xs.drop off).take len).length = len := by simp; omega
          have hget : ∀ (k : Nat) z, ((xs.drop off).take len)[k]? = some z → xs[off + k]? = some z := fun k z hk => by
            rw [List.getElem?_take] at hk
            split at hk
            · rw [List.getElem?_drop] at hk; exact hk
            · cases hk
          have cellAt : ∀ (k : Nat) z, ((xs.drop off).take len)[k]? = some z → ∀ (j : Nat) y, z[j]? = some y → ∃ u, c[(loc id).o + off * s + k * s + j]? = some u ∧ u.oneCell' = true ∧ PVr H u y := fun k z hk j y hy => by
            obtain ⟨u, a1, a2, a3⟩ := h5 _ z (hget k z hk) j y hy
            exact ⟨u, by rw [show (loc id).o + off * s + k * s + j = (loc id).o + (off + k) * s + j by rw [Nat.add_mul]; omega]; exact a1, a2, a3⟩
          have hpv := PVr.sl (H := Hc) (loc id).b ((loc id).o + off * s) cap s c ((xs.drop off).take len) (fun k j => (c[(loc id).o + off * s + k * s + j]?).getD undef) hHb
            (fun z hz => h4 z (List.mem_of_mem_drop (List.mem_of_mem_take hz))) (by omega)
            (fun k z hk j y hy => by obtain ⟨u, a1, _⟩ := cellAt k z hk j y hy; rw [a1]; rfl)
            (fun k z hk j y hy => by obtain ⟨u, a1, a2, _⟩ := cellAt k z hk j y hy; rw [a1]; exact a2)
            (fun k z hk j y hy => by obtain ⟨u, a1, _, a3⟩ := cellAt k z hk j y hy; rw [a1]; exact a3.mono hHc)
          rw [hlen] at hpv
          exact .p _ _ hpv
      | ref0 b _ _ s xs hob hl =>
        simp only [hob]
        rw [List.take_zero]
        exact .p _ _ (.none _ _)
      | refGone v _ _ _ hob => simp only [hob]; exact .none _
    · have : giveRow ids st.ob d = ren1 ids d := by
        cases d <;> first | rfl | skip
        rename_i id off len
        simp only [giveRow, ren1]
        cases hid : idx ids id with
        | some k => rfl
        | none => exact absurd ⟨id, off, len, rfl, hid⟩ hd'
      rw [this]; exact base
  have hleaf : Leafy (give0 ids st.ob) H Hc loc (fun k => loc (ids.getD k 0)) st.ob (newObs st.ob ids) := by
    intro v d hv n1 n2 n3
    by_cases hd' : ∃ id i j, d = .ptr id i j ∧ idx ids id = none
    · obtain ⟨id, i, j, rfl, hid⟩ := hd'
      have hni := idx_none hid
      simp only [give0, give, hid]
      cases hv with
      | ptr _ _ _ s xs hob => simp only [hob]; exact .none _
      | ptrGone _ _ _ _ hob => simp only [hob]; exact .none _
      | ptrBox _ _ cs hob =>
        simp only [hob]
        split
        · rename_i xs hxs
          obtain ⟨hr, c, e, h1, h2, h3, h5⟩ := r.sr.obj id _ hob
          have hlent : lent (loc id).b := ⟨id, _, hob, rfl, hr, hni, rfl⟩
          have hHb : Hc (loc id).b = some c := by simp only [Hc, if_pos hlent, h1]
          obtain ⟨hyl, hyg⟩ := toPVs_get hxs
          have cellAt : ∀ (k : Nat) y, xs[k]? = some y → ∃ u, c[(loc id).o + k]? = some u ∧ u.oneCell' = true ∧ PVr Hc u y := fun k y hy => by
            obtain ⟨d, hd1, hd2⟩ := hyg k y hy
            rw [List.getElem?_map] at hd1
            cases hck : cs[k]? with
            | none => rw [hck] at hd1; cases hd1
            | some d0 =>
              rw [hck] at hd1; cases hd1
              obtain ⟨u, a1, a2, a3⟩ := h5 k d0 hck
              have n1 : ∀ f c, d0 ≠ .fn f c := fun f c e => by subst e; simp [giveRow, ren1, toPV] at hd2
              have n2 : ∀ c, d0 ≠ .agg c := fun c e => by subst e; simp [giveRow, ren1, toPV] at hd2
              have n3 : ∀ c, d0 ≠ .tup c := fun c e => by subst e; simp [giveRow, ren1, toPV] at hd2
              exact ⟨u, a1, a2, toPV_of (hrow u d0 a3 n1 n2 n3) hd2⟩
          exact .rd (loc id).b (loc id).o c xs j (fun k => (c[(loc id).o + k]?).getD undef) hHb
            (fun k y hy => by obtain ⟨u, a1, _⟩ := cellAt k y hy; rw [a1]; rfl)
            (fun k y hy => by obtain ⟨u, a1, a2, _⟩ := cellAt k y hy; rw [a1]; exact a2)
            (fun k y hy => by obtain ⟨u, a1, _, a3⟩ := cellAt k y hy; rw [a1]; exact a3)
        · exact .none _
    by_cases hdg : ∃ id s off len, d = .gref id s off len ∧ idx ids id = none
    · obtain ⟨id, s, off, len, rfl, hid⟩ := hdg
      show V Hc (fun k => loc (ids.getD k 0)) (newObs st.ob ids) v (give ids st.ob (D.gref id s off len))
      exact give_gref r.sr (fun i o hio hl hr hni c e f hw => by
        have hlent : lent (loc i).b := ⟨i, o, hio, hl, hr, hni, rfl⟩
        simp only [Hc, if_pos hlent, hw]) hrow hv hid
    by_cases hnil : d = .nil
    · subst hnil
      cases hv
      exact .nil
    · have : give0 ids st.ob d = giveRow ids st.ob d := by
        cases d <;> first | rfl | skip
        · rename_i id i j
          simp only [give0, give, giveRow, ren1]
          cases hid : idx ids id with
          | some k => rfl
          | none => exact absurd ⟨id, i, j, rfl, hid⟩ hd'
        · rename_i id s off len
          simp only [give0, give, giveRow, ren1]
          cases hid : idx ids id with
          | some k => rfl
          | none => exact absurd ⟨id, s, off, len, rfl, hid⟩ hdg
      rw [this]; exact hrow v d hv n1 n2 n3
  refine ⟨Hc, fun k => loc (ids.getD k 0), hsrc, fun t => ?_, r.sz, r.df, ⟨r.gr.os, r.gr.tape, r.gr.output, r.gr.size, r.gr.kept, r.gr.more.trans hHc, fun b c hb => ?_⟩, fun k o ho hv hr => ?_, r.n0, fun k o ho => ?_⟩
  · exact (r.tm t).map hleaf
  · by_cases hl : lent b
    · obtain ⟨i, o, hio, hlv, hr, hni, rfl⟩ := hl
      rcases r.own i o hio hlv hr with h1 | h1
      · exact .inr (.inr h1)
      · exact .inr (.inl h1)
    · simp only [Hc, if_neg hl] at hb
      exact r.gr.new b c hb
  · obtain ⟨i, o', hi, rfl, hx⟩ := newObs_of ho
    rw [renOb_live] at hv
    have hl : loc (ids.getD k 0) = loc i := by simp [List.getD_eq_getElem?_getD, hi]
    have hr2 : (loc (ids.getD k 0)).r = true := hr
    show M.M (loc (ids.getD k 0)).b ∨ _ ≤ (loc (ids.getD k 0)).b
    rw [hl] at hr2 ⊢
    rcases hx with hx | rfl
    · exact r.own i o' hx hv hr2
    · cases hv
  · have hk : k < st.n0 := by
      rw [← r.n0]
      rcases Nat.lt_or_ge k M.ob.length with h' | h'
      · exact h'
      · simp [List.getElem?_eq_none h'] at ho
    have hk2 := hp k hk
    have hl : loc (ids.getD k 0) = loc k := by simp [List.getD_eq_getElem?_getD, hk2]
    rcases r.ent k o ho with h1 | ⟨o', h1, h2, h3⟩
    · exact .inl (newObs_get hk2 h1)
    · refine .inr ⟨_, newObs_get hk2 h1, ?_, ?_⟩
      · cases o' <;> cases o <;> simp_all [Ob.sameShape, renOb, D.mapL_eq]
      · show loc (ids.getD k 0) = _
        rw [hl]; exact h3


/-- A call, shut: nothing looks into it by itself. -/
inductive AC (P : Program) (st : St) (d : D) (args : List D) (K : D → St → Prop) : Prop where
  | mk (h : acall P st d args K)
  | away (ids : List Nat) (hd : ids.Nodup) (hp : ∀ k, k < st.n0 → ids[k]? = some k) (h : acall P (st.away ids) (D.map (give0 ids st.ob) d) (args.map (D.map (give0 ids st.ob))) K)

theorem constC_away (ids : List Nat) (obs : List Ob) (v : Value) : D.map (give0 ids obs) (constC v) = constC v := by
  unfold constC
  split <;> rfl

theorem constD_away (ids : List Nat) (obs : List Ob) (v : Value) : D.map (give0 ids obs) (constD v) = constD v := by
  unfold constD
  split
  · rfl
  · simp only [D.map, D.mapL_eq, List.map_map]
    congr 1
    exact List.map_congr_left fun y _ => constC_away ids obs y
  · rfl

theorem ev_away {ids : List Nat} {st : St} (x : Operand) : (st.away ids).ev x = D.map (give0 ids st.ob) (st.ev x) := by
  cases x with
  | tmp t => rfl
  | const v => exact (constD_away ids st.ob v).symm
  | func f => rfl
  | global g => rfl

theorem opS_ac {P : Program} {nt : Nat} {st : St} {o : Oper} {K : D → St → Prop} {x : Operand} {args : Array Operand} {ts : Array TypeId} (ho : o.op = .call { callee := .value x, args := args, argTypes := ts })
    (h : AC P st (st.ev x) (args.toList.map st.ev) K) : OpS P nt o st K := by
  cases h with
  | mk h => exact opS_call ho h
  | away ids hd hp h =>
    intro M H0 w0 w a hi
    have hargs : (args.toList.map st.ev).map (D.map (give0 ids st.ob)) = args.toList.map (st.away ids).ev := by
      rw [List.map_map]
      exact List.map_congr_left fun y _ => (ev_away y).symm
    rw [← ev_away x, hargs] at h
    exact opS_call ho h M H0 w0 w a (hi.away hd hp)

end Go.Ab

/- Rows that are written over where they lie: append with room that is known, clear, copy. No program is named here. -/
namespace Go.Ab

/-- A list, some places of it written over. -/
def over {α : Type} (xs : List α) (k : Nat) (ys : List α) : List α := xs.take k ++ ys ++ xs.drop (k + ys.length)

theorem over_length {α : Type} {xs ys : List α} {k : Nat} (h : k + ys.length ≤ xs.length) : (over xs k ys).length = xs.length := by
  simp only [over, List.length_append, List.length_take, List.length_drop]; omega

theorem over_get {α : Type} {xs ys : List α} {k : Nat} (h : k + ys.length ≤ xs.length) (i : Nat) : (over xs k ys)[i]? = if k ≤ i ∧ i < k + ys.length then ys[i - k]? else xs[i]? := by
  unfold over
  by_cases h1 : i < k
  · rw [if_neg (by omega), List.append_assoc, List.getElem?_append_left (by simp; omega), List.getElem?_take, if_pos h1]
  · by_cases h2 : i < k + ys.length
    · rw [if_pos (by omega), List.getElem?_append_left (by simp; omega), List.getElem?_append_right (by simp; omega)]
      congr 1; simp; omega
    · rw [if_neg (by omega), List.getElem?_append_right (by simp; omega), List.getElem?_drop]
      congr 1; simp; omega

theorem set_same {α : Type} {l : List α} {i : Nat} {x : α} (h : l[i]? = some x) : l.set i x = l := by
  refine List.ext_getElem? fun j => ?_
  by_cases e : i = j
  · subst e
    have hlt : i < l.length := by
      rcases Nat.lt_or_ge i l.length with h' | h'
      · exact h'
      · simp [List.getElem?_eq_none h'] at h
    rw [List.getElem?_set_self hlt, h]
  · rw [List.getElem?_set_ne e]

section
variable {P : Program} {M : En} {H0 : HV} {w0 : World} {nt : Nat} {H : HV} {loc : Nat → Loc} {w : World} {st : St} {a : Act}

/-- Cells that may be written. -/
theorem Rel.writable (r : Rel M H0 w0 nt H loc w st a) {id s : Nat} {xs : List (List PV)} (hob : st.ob[id]? = some (.row s xs)) (hlr : (loc id).r = true) {k n : Nat} (hk : k * s + n ≤ xs.length * s) :
    (∀ j, j < n → (w.cell? ⟨(loc id).b, (loc id).o + k * s + j, none⟩).isSome = true) ∧ (∀ j, j < n → w.frozen? ⟨(loc id).b, (loc id).o + k * s + j, none⟩ = false) := by
  rcases r.sr.obj id _ hob with ⟨hx, _⟩ | ⟨_, c, ec, h1, h2, h3, h4, h5⟩
  · rw [hlr] at hx; cases hx
  refine ⟨fun j hj => ?_, fun j hj => by simp [World.frozen?, h1]⟩
  simp only [World.cell?, h1, Option.isSome_none, Bool.false_eq_true, if_false]
  rw [Array.getElem?_eq_getElem (by omega)]; rfl

/-- Some elements of a row are written over. -/
theorem Rel.overwrite (r : Rel M H0 w0 nt H loc w st a) {id s : Nat} {xs ys : List (List PV)} (hob : st.ob[id]? = some (.row s xs)) (hlr : (loc id).r = true) {k : Nat} (hk : k + ys.length ≤ xs.length) (hys : ∀ z, z ∈ ys → z.length = s)
    {news : List Value} (hnl : news.length = ys.length * s) (hnews : ∀ (i : Nat) x, ys[i]? = some x → ∀ (j : Nat) y, x[j]? = some y → ∃ u, news[i * s + j]? = some u ∧ u.oneCell' = true ∧ PVr H u y) :
    Rel M H0 w0 nt H loc (w.setCells (loc id).b ((loc id).o + k * s) news) ⟨st.tm, st.ob.set id (.row s (over xs k ys)), st.n0⟩ a := by
  rcases r.sr.obj id _ hob with ⟨hx, _⟩ | ⟨_, c, ec, h1, h2, h3, h4, h5⟩
  · rw [hlr] at hx; cases hx
  have hmul : (k + ys.length) * s ≤ xs.length * s := Nat.mul_le_mul_right s hk
  have hadd : (k + ys.length) * s = k * s + ys.length * s := Nat.add_mul _ _ _
  have hputl : (loc id).o + k * s + news.length ≤ c.size := by omega
  obtain ⟨p1, p2, p3, p4, p5, p6⟩ := setCells_heap (loc id).b news ((loc id).o + k * s) w c ec h1 hputl
  refine r.setOb (o' := .row s (over xs k ys)) hob rfl hlr ⟨rfl, (over_length hk).symm⟩ p2 p3 p4 p5 p6 ?_
  refine .inr ⟨hlr, _, ec, p1, by simp [putAt_length (show (loc id).o + k * s + news.length ≤ c.toList.length by simpa using hputl), h2], by rw [over_length hk]; exact h3, fun z hz => ?_, fun i z hi j y hy => ?_⟩
  · obtain ⟨i, hi⟩ := List.getElem?_of_mem hz
    rw [over_get hk] at hi
    split at hi
    · exact hys z (List.mem_of_getElem? hi)
    · exact h4 z (List.mem_of_getElem? hi)
  · have hzs : z.length = s := by
      rw [over_get hk] at hi
      split at hi
      · exact hys z (List.mem_of_getElem? hi)
      · exact h4 z (List.mem_of_getElem? hi)
    have hj : j < s := by
      rw [← hzs]
      rcases Nat.lt_or_ge j z.length with h' | h'
      · exact h'
      · simp [List.getElem?_eq_none h'] at hy
    rw [List.getElem?_toArray, putAt_get (by simpa using hputl)]
    rw [over_get hk] at hi
    split at hi
    · rename_i hin
      obtain ⟨u, a1, a2⟩ := hnews _ z hi j y hy
      have e1 : i * s = k * s + (i - k) * s := by rw [← Nat.add_mul]; congr 1; omega
      have hlt : (i - k) * s + j < news.length := by
        rcases Nat.lt_or_ge ((i - k) * s + j) news.length with h' | h'
        · exact h'
        · simp [List.getElem?_eq_none h'] at a1
      refine ⟨u, ?_, a2⟩
      rw [if_pos (by omega), show (loc id).o + i * s + j - ((loc id).o + k * s) = (i - k) * s + j by omega]
      exact a1
    · rename_i hout
      obtain ⟨u, a1, a2⟩ := h5 i z hi j y hy
      refine ⟨u, ?_, a2⟩
      rw [if_neg, Array.getElem?_toList]
      · exact a1
      · rintro ⟨g1, g2⟩
        rw [hnl] at g2
        apply hout
        constructor
        · rcases Nat.lt_or_ge i k with h' | h'
          · have : (i + 1) * s ≤ k * s := Nat.mul_le_mul_right s h'
            rw [Nat.succ_mul] at this; omega
          · exact h'
        · rcases Nat.lt_or_ge i (k + ys.length) with h' | h'
          · exact h'
          · have : (k + ys.length) * s ≤ i * s := Nat.mul_le_mul_right s h'
            omega

/-- An append for which there is room. -/
def appendIn (s : Nat) (st : St) (x y : D) (K : D → St → Prop) : Prop :=
  match x, rowsOf st.ob y with
  | .ref id off len, some ys => (∀ z, z ∈ ys → z.length = s) ∧
    (match st.ob[id]? with
     | some (.row s' xs) => s' = s ∧ off + len + ys.length ≤ xs.length ∧ K (.ref id off (len + ys.length)) ⟨st.tm, st.ob.set id (.row s (over xs (off + len) ys)), st.n0⟩
     | _ => False)
  | _, _ => False

theorem opS_append_in {o : Oper} {K : D → St → Prop} {x y : Operand} {t tx : TypeId} {s n : Nat} (ho : o.op = .call { callee := .builtin .append, args := #[x, y], argTypes := #[t, tx] }) (ht : apO P t = some (s, n)) (htx : ∃ e, P.underlying tx = some (.slice e))
    (h : appendIn s st (st.ev x) (st.ev y) K) : OpS P nt o st K := by
  refine opS_val fun M H0 w0 H loc w a r => ?_
  obtain ⟨e, i, z, hu, hi, hz, hzs, his, hib, hs0, hn0⟩ := apO_of ht
  obtain ⟨e', hk⟩ := htx
  have hvx := r.ev x
  have hvy := r.ev y
  rw [exec_append ho]
  generalize a.eval x = vx at hvx
  generalize a.eval y = vy at hvy
  generalize st.ev x = dx at hvx h
  generalize st.ev y = dy at hvy h
  unfold appendIn at h
  split at h
  · rename_i id off len ys hr
    obtain ⟨hys, h⟩ := h
    split at h
    · rename_i s' xs hob
      obtain ⟨rfl, hfit, hK⟩ := h
      obtain ⟨news, hsrc, hnews⟩ := rows_src r.sr hvy hr hys hk
      rw [← his] at hsrc
      have hnl : news.length = ys.length * s' := by rw [hsrc.newsLen, his]
      have hset : ∀ (H : HV) (loc : Nat → Loc) (v : Value), V H loc st.ob v (.ref id off (len + ys.length)) → V H loc (st.ob.set id (.row s' (over xs (off + len) ys))) v (.ref id off (len + ys.length)) := fun H loc v hv =>
        hv.turn (.refl H) (turns_set hob (show (Ob.row s' xs).sameShape (.row s' (over xs (off + len) ys)) from ⟨rfl, (over_length hfit).symm⟩))
      cases hvx with
      | refGone _ _ _ _ ho' => rw [hob] at ho'; cases ho'
      | ref0 b _ _ _ _ ho' hl' =>
        rw [hob] at ho'; cases ho'
        have h0 : ys = [] := List.length_eq_zero_iff.1 (by omega)
        subst h0
        obtain rfl : news = [] := List.length_eq_zero_iff.1 (by rw [hnl]; simp)
        have e1 : over xs (off + 0) ([] : List (List PV)) = xs := by simp [over]
        rw [e1] at hK
        have e2 : st.ob.set id (.row s' xs) = st.ob := set_same hob
        rw [e2] at hK
        exact ⟨_, w, H, loc, _, _, by rw [run_append_nothing w t tx o.type e i hu hi b 0 0 (Nat.le_refl _) vy hsrc]; rfl, hK, .ref0 b id off s' xs hob hl', r⟩
      | ref _ _ _ cap sx xs' ho' hl' hcap hxc hlr hn' =>
        rw [hob] at ho'; cases ho'
        obtain ⟨w1, w2⟩ := r.writable hob hlr (k := off + len) (n := news.length) (by
          rw [hnl, ← Nat.add_mul]; exact Nat.mul_le_mul_right s' hfit)
        have hrun := run_append_room_src (P := P) w t tx o.type e i hu hi (loc id).b ((loc id).o + off * s') len cap vy ys.length news hsrc (by omega)
          (fun j hj => by rw [his, show (loc id).o + off * s' + len * s' + j = (loc id).o + (off + len) * s' + j by rw [Nat.add_mul]; omega]; exact w1 j hj)
          (fun j hj => by rw [his, show (loc id).o + off * s' + len * s' + j = (loc id).o + (off + len) * s' + j by rw [Nat.add_mul]; omega]; exact w2 j hj)
        rw [his, show (loc id).o + off * s' + len * s' = (loc id).o + (off + len) * s' by rw [Nat.add_mul]; omega] at hrun
        refine ⟨_, _, H, loc, _, _, by rw [hrun]; rfl, hK, hset _ _ _ (.ref id off (len + ys.length) cap s' xs hob (by omega) (by omega) hxc hlr hn'), r.overwrite hob hlr hfit hys hnl hnews⟩
    · exact h.elim
  · exact h.elim


theorem zeroCells_get (z : Array Value) (n q : Nat) (h : q < n * z.size) : (Builtin.zeroCells z n)[q]? = some z[q % z.size]! := by
  unfold Builtin.zeroCells
  rw [Array.getElem?_map, Array.getElem?_eq_getElem (by simpa using h)]
  simp

/-- A cell of a zero value. -/
def zpv : D → PV
  | .p x => x
  | _ => .sl []

/-- 'clear' of a part of a row. -/
def clearD (P : Program) (t : TypeId) (st : St) (x : D) (K : D → St → Prop) : Prop :=
  match x, P.underlying t with
  | .ref id off len, some (.slice e) =>
    (match st.ob[id]?, zeroO P e with
     | some (.row s xs), some cs => cs.all cellOk0 = true ∧ cs.length = s ∧ off + len ≤ xs.length ∧ K (.tup []) ⟨st.tm, st.ob.set id (.row s (over xs off (List.replicate len (cs.map zpv)))), st.n0⟩
     | _, _ => False)
  | _, _ => False

theorem clear_sound {t ty : TypeId} {x : D} {K : D → St → Prop} (h : clearD P t st x K) (r : Rel M H0 w0 nt H loc w st a) {vx : Value} (hv : V H loc st.ob vx x) :
    ∃ w' st', (Builtin.clear_ #[t] ty #[vx]).run P w = .ok (.tuple #[]) w' ∧ K (.tup []) st' ∧ Rel M H0 w0 nt H loc w' st' a := by
  unfold clearD at h
  split at h
  · rename_i id off len e hu
    split at h
    · rename_i s xs cs hob hz
      obtain ⟨hok, hcs, hfit, hK⟩ := h
      obtain ⟨z, hz1, hz2⟩ := zero_of (P := P) hz w
      have hzr : ∀ W : World, (zeroValue e).run P W = .ok z W := fun W => by
        obtain ⟨z', h1, _⟩ := zero_of (P := P) hz W
        have e1 : ∀ W : World, (zeroValue e).run P W = ((zeroValue e).run P w).andThen fun v _ => .ok v W := fun W => by
          unfold zeroO at hz
          cases hi : P.info? e with
          | none => rw [hi] at hz; cases hz
          | some i =>
            rw [hi] at hz
            simp only [Option.bind_some] at hz
            cases hzz : i.zero with
            | none => rw [hzz] at hz; cases hz
            | some zz => simp [zeroValue, typeInfo, hi, hzz]
        rw [e1 W, hz1]; rfl
      have hzl : z.cells.size = s := by rw [← hcs, hz2]; simp
      have hcell : ∀ (j : Nat) u, z.cells[j]? = some u → ∃ y, (cs.map zpv)[j]? = some y ∧ u.oneCell' = true ∧ PVr H u y := fun j u hj => by
        have h1 : cs[j]? = some (constC u) := by rw [hz2, List.getElem?_map, Array.getElem?_toList, hj]; rfl
        refine ⟨zpv (constC u), by rw [List.getElem?_map, h1]; rfl, ?_, ?_⟩
        · have := List.all_eq_true.1 hok _ (List.mem_of_getElem? h1)
          unfold constC at this
          split at this
          · rfl
          · exact this
        · unfold constC
          split
          · exact .none _ _
          · exact .lit _
      by_cases h0 : len = 0
      · subst h0
        have e1 : over xs off (List.replicate 0 (cs.map zpv)) = xs := by simp [over]
        rw [e1, set_same hob] at hK
        refine ⟨w, _, ?_, hK, r⟩
        cases hv with
        | refGone _ _ _ _ ho' => rw [hob] at ho'; cases ho'
        | ref0 b => cases b <;> simp [Builtin.clear_, run_underlying hu]
        | ref => simp [Builtin.clear_, run_underlying hu]
      · cases hv with
        | refGone _ _ _ _ ho' => rw [hob] at ho'; cases ho'
        | ref0 b => exact absurd rfl h0
        | ref _ _ _ cap sx xs' ho' hl' hcap hxc hlr hn' =>
          rw [hob] at ho'; cases ho'
          have hnl : (Builtin.zeroCells z.cells len).toList.length = (List.replicate len (cs.map zpv)).length * s := by
            simp [zeroCells_size, hzl]
          have hnews : ∀ (i : Nat) x, (List.replicate len (cs.map zpv))[i]? = some x → ∀ (j : Nat) y, x[j]? = some y → ∃ u, (Builtin.zeroCells z.cells len).toList[i * s + j]? = some u ∧ u.oneCell' = true ∧ PVr H u y := by
            intro i x hx j y hy
            rw [List.getElem?_replicate] at hx
            split at hx
            · rename_i hi
              cases hx
              have hjl : j < z.cells.size := by
                rcases Nat.lt_or_ge j (cs.map zpv).length with h' | h'
                · rw [hzl]; simpa [hcs] using h'
                · simp [List.getElem?_eq_none h'] at hy
              obtain ⟨y', g1, g2, g3⟩ := hcell j z.cells[j] (Array.getElem?_eq_getElem hjl)
              rw [hy] at g1; cases g1
              refine ⟨z.cells[j], ?_, g2, g3⟩
              rw [Array.getElem?_toList]
              have hlt : i * s + j < len * s := by
                have : (i + 1) * s ≤ len * s := Nat.mul_le_mul_right s hi
                rw [Nat.succ_mul] at this; omega
              rw [zeroCells_get _ _ _ (by rw [hzl]; exact hlt), hzl, Nat.mul_comm, Nat.mul_add_mod, Nat.mod_eq_of_lt (by omega), getElem!_pos z.cells j hjl]
            · cases hx
          obtain ⟨w1, w2⟩ := r.writable hob hlr (k := off) (n := (Builtin.zeroCells z.cells len).toList.length) (by
            rw [hnl, ← Nat.add_mul]; exact Nat.mul_le_mul_right s (by simpa using hfit))
          have hst := run_storeCells_cells (P := P) (loc id).b ((loc id).o + off * s) (Builtin.zeroCells z.cells len).toList 0 w (by simpa using w1) (by simpa using w2) (fun v hv => by
            obtain ⟨q, hq⟩ := List.getElem?_of_mem hv
            rw [Array.getElem?_toList] at hq
            have hql : q < len * z.cells.size := by
              rcases Nat.lt_or_ge q (Builtin.zeroCells z.cells len).size with h' | h'
              · simpa [zeroCells_size] using h'
              · simp [Array.getElem?_eq_none h'] at hq
            rw [zeroCells_get _ _ _ hql] at hq
            cases hq
            have hpos : 0 < z.cells.size := by
              rcases Nat.eq_zero_or_pos z.cells.size with h' | h'
              · rw [h', Nat.mul_zero] at hql; omega
              · exact h'
            have hm := Nat.mod_lt q hpos
            obtain ⟨_, _, g2, _⟩ := hcell (q % z.cells.size) _ (Array.getElem?_eq_getElem hm)
            rw [getElem!_pos z.cells _ hm]
            exact g2)
          simp only [Nat.add_zero] at hst
          obtain ⟨m, rfl⟩ : ∃ m, len = m + 1 := ⟨len - 1, by omega⟩
          refine ⟨_, _, ?_, hK, r.overwrite hob hlr (by simpa using hfit) (fun y hy => by rw [List.eq_of_mem_replicate hy]; simpa using hcs) hnl hnews⟩
          simp [Builtin.clear_, run_underlying hu, hzr, hst]
    · exact h.elim
  · exact h.elim


/-- The same slice, with fewer elements. -/
theorem rows_trunc {H : HV} {loc : Nat → Loc} {obs : List Ob} {v : Value} {d : D} {ys : List (List PV)} (hv : V H loc obs v d) (hd : rowsOf obs d = some ys) {n : Nat} (hn : n ≤ ys.length) :
    ∃ a l cap d', v = .slice a l cap ∧ l = ys.length ∧ V H loc obs (.slice a n cap) d' ∧ rowsOf obs d' = some (ys.take n) := by
  cases hv with
  | p _ x hp =>
    cases hp with
    | lit => simp [rowsOf] at hd
    | none a cap =>
      simp only [rowsOf] at hd; cases hd
      obtain rfl : n = 0 := by simpa using hn
      exact ⟨a, 0, cap, .p (.sl []), rfl, rfl, .p _ _ (.none _ _), rfl⟩
    | sl b o cap s c _ g hb hs hcap hc h1 hr =>
      simp only [rowsOf] at hd; cases hd
      have hget : ∀ (i : Nat) x, (ys.take n)[i]? = some x → ys[i]? = some x := fun i x hx => by
        rw [List.getElem?_take] at hx
        split at hx
        · exact hx
        · cases hx
      have := PVr.sl (H := H) b o cap s c (ys.take n) g hb (fun x hx => hs x (List.mem_of_mem_take hx)) (by simp; omega) (fun i x hx => hc i x (hget i x hx)) (fun i x hx => h1 i x (hget i x hx)) (fun i x hx => hr i x (hget i x hx))
      have hl : (ys.take n).length = n := by simp; omega
      rw [hl] at this
      exact ⟨_, _, cap, .p (.sl (ys.take n)), rfl, rfl, .p _ _ this, rfl⟩
  | nil =>
    simp only [rowsOf] at hd; cases hd
    obtain rfl : n = 0 := by simpa using hn
    exact ⟨none, 0, 0, .nil, rfl, rfl, .nil, rfl⟩
  | ref id off len cap s xs ho hl hc hx hr hn' =>
    simp only [rowsOf, ho] at hd; cases hd
    have hle : n ≤ len := by simp at hn; omega
    refine ⟨_, _, cap, .ref id off n, rfl, by simp; omega, .ref id off n cap s xs ho (by omega) (by omega) hx hr hn', ?_⟩
    simp only [rowsOf, ho, List.take_take]
    rw [Nat.min_eq_left hle]
  | ref0 a id off s xs ho hl =>
    simp only [rowsOf, ho] at hd; cases hd
    obtain rfl : n = 0 := by simpa using hn
    exact ⟨a, 0, 0, .ref id off 0, rfl, by simp, .ref0 a id off s xs ho hl, by simp [rowsOf, ho]⟩
  | refGone v id off len ho => simp only [rowsOf, ho] at hd; cases hd
  | _ => cases hd

/-- 'copy' into a part of a row. -/
def copyD (P : Program) (t tx : TypeId) (st : St) (x y : D) (K : D → St → Prop) : Prop :=
  match x, P.underlying t, P.underlying tx, rowsOf st.ob y with
  | .ref id off len, some (.slice e), some (.slice _), some ys =>
    (match st.ob[id]?, P.info? e with
     | some (.row s xs), some i => i.size = s ∧ (∀ z, z ∈ ys → z.length = s) ∧ off + len ≤ xs.length ∧ K (iD (min ys.length len : Nat)) ⟨st.tm, st.ob.set id (.row s (over xs off (ys.take len))), st.n0⟩
     | _, _ => False)
  | _, _, _, _ => False

theorem first_len (s n : Nat) (a : Option Addr) (l l' cap : Nat) : Builtin.firstCells s n (.slice a l cap) = Builtin.firstCells s n (.slice a l' cap) := by
  cases a <;> rfl

theorem copy_sound {t tx ty : TypeId} {x y : D} {K : D → St → Prop} (h : copyD P t tx st x y K) (r : Rel M H0 w0 nt H loc w st a) {vx vy : Value} (hv : V H loc st.ob vx x) (hvy : V H loc st.ob vy y) :
    ∃ n w' st', (Builtin.copy_ #[t, tx] ty #[vx, vy]).run P w = .ok (.int .i64 n) w' ∧ K (iD n) st' ∧ Rel M H0 w0 nt H loc w' st' a := by
  unfold copyD at h
  split at h
  · rename_i id off len e e' ys hu hux hr
    split at h
    · rename_i s xs i hob hi
      obtain ⟨his, hys, hfit, hK⟩ := h
      obtain ⟨n, hn⟩ : ∃ n, n = min ys.length len := ⟨_, rfl⟩
      have htk : ys.take len = ys.take n := by
        rw [hn]
        rcases Nat.le_total ys.length len with h' | h'
        · rw [Nat.min_eq_left h', List.take_of_length_le h', List.take_of_length_le (Nat.le_refl _)]
        · rw [Nat.min_eq_right h']
      rw [htk, ← hn] at hK
      obtain ⟨a0, l, cap0, d', rfl, hl, hv', hr'⟩ := rows_trunc hvy hr (n := n) (by omega)
      have hys' : ∀ z, z ∈ ys.take n → z.length = s := fun z hz => hys z (List.mem_of_mem_take hz)
      obtain ⟨news, hsrc, hnews⟩ := rows_src r.sr hv' hr' hys' hux
      have hlt : (ys.take n).length = n := by simp; omega
      rw [hlt] at hsrc
      have hnl : news.length = (ys.take n).length * s := by rw [hsrc.newsLen, hlt]
      have hcells := hsrc.cells
      rw [first_len s n a0 n l cap0] at hcells
      have hmin : Nat.min l len = n := by rw [hl, hn]
      refine ⟨n, ?_⟩
      cases hv with
      | refGone _ _ _ _ ho' => rw [hob] at ho'; cases ho'
      | ref0 b =>
        have h0 : n = 0 := by rw [hn]; simp
        subst h0
        have e1 : over xs off (ys.take 0) = xs := by simp [over]
        rw [e1, set_same hob] at hK
        have h00 : news = [] := List.length_eq_zero_iff.1 (by rw [hnl]; simp)
        subst h00
        refine ⟨w, _, ?_, hK, r⟩
        cases b <;> simp [Builtin.copy_, run_underlying hu, Builtin.lenOf, hmin, sizeOf, typeInfo, hi, his, hcells, storeCells, goInt]
      | ref _ _ _ cap sx xs' ho' hl' hcap hxc hlr hn' =>
        rw [hob] at ho'; cases ho'
        obtain ⟨w1, w2⟩ := r.writable hob hlr (k := off) (n := news.length) (by
          rw [hnl, ← Nat.add_mul]; exact Nat.mul_le_mul_right s (by omega))
        have hst := run_storeCells_cells (P := P) (loc id).b ((loc id).o + off * s) news 0 w (by simpa using w1) (by simpa using w2) hsrc.one
        simp only [Nat.add_zero] at hst
        refine ⟨_, _, ?_, hK, r.overwrite hob hlr (by omega) hys' hnl hnews⟩
        simp [Builtin.copy_, run_underlying hu, Builtin.lenOf, hmin, sizeOf, typeInfo, hi, his, hcells, hst, goInt]
    · exact h.elim
  · exact h.elim

end
end Go.Ab

