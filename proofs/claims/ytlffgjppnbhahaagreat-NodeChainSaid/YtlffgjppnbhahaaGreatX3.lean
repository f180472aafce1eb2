/- What it means that a value, and memory, are as the executor has them; how memory may turn. No program is named here. -/
import Derived.Test.YtlffgjppnbhahaaGreatX2
set_option linter.unusedSimpArgs false
set_option linter.unusedVariables false
set_option maxHeartbeats 1000000
namespace Go.Cx

/-- Where an object lies: block, first cell, the size of the block. -/
structure Pl where
  b : Nat
  o : Nat
  n : Nat

abbrev Lc := Nat → Option Pl

mutual
/-- A value is as it is told. -/
def V (ρ : Nat → Int) (loc : Lc) : CV → Value → Prop
  | .lit v, w => w = v
  | .sym n, w => w = .int (kd n) (ρ n)
  | .ptr id off, w => ∃ p, loc id = some p ∧ w = .pointer (some ⟨p.b, p.o + off, none⟩)
  | .sl id s off len cap ex, w => ∃ p a c, loc id = some p ∧ w = .slice (some a) len c ∧ cap ≤ c ∧ (ex = true → c = cap) ∧ len ≤ c ∧
      (c = 0 ∨ (a = ⟨p.b, p.o + off, none⟩ ∧ p.o + off + c * s ≤ p.n))
  | .mp id, w => ∃ p, loc id = some p ∧ w = .map (some p.b)
  | .it id, w => ∃ p, loc id = some p ∧ w = .pointer (some ⟨p.b, 0, none⟩)
  | .ifc t v, w => ∃ x, w = .iface t x ∧ V ρ loc v x
  | .fn f fi ca, w => ∃ a b, w = .func f a b ∧ VL ρ loc fi a.toList ∧ VL ρ loc ca b.toList
  | .agg cs, w => ∃ a, w = .agg a ∧ VL ρ loc cs a.toList
  | .tup cs, w => ∃ a, w = .tuple a ∧ VL ρ loc cs a.toList
def VL (ρ : Nat → Int) (loc : Lc) : List CV → List Value → Prop
  | [], ws => ws = []
  | c :: cs, ws => ∃ w ws', ws = w :: ws' ∧ V ρ loc c w ∧ VL ρ loc cs ws'
end

section
variable {ρ : Nat → Int} {loc loc' : Lc}

/-- More places are known. -/
def LLe (loc loc' : Lc) : Prop := ∀ id p, loc id = some p → loc' id = some p

theorem LLe.refl (loc : Lc) : LLe loc loc := fun _ _ h => h
theorem LLe.trans {l l' l'' : Lc} (h : LLe l l') (h' : LLe l' l'') : LLe l l'' := fun i p hp => h' i p (h i p hp)

mutual
theorem V.mono (h : LLe loc loc') : ∀ (c : CV) (w : Value), V ρ loc c w → V ρ loc' c w
  | .lit v, w, hv => by simpa [V] using hv
  | .sym n, w, hv => by simpa [V] using hv
  | .ptr id off, w, hv => by
    simp only [V] at hv ⊢
    obtain ⟨p, h1, h2⟩ := hv
    exact ⟨p, h _ _ h1, h2⟩
  | .sl id s off len cap ex, w, hv => by
    simp only [V] at hv ⊢
    obtain ⟨p, a, c, h1, h2⟩ := hv
    exact ⟨p, a, c, h _ _ h1, h2⟩
  | .mp id, w, hv => by
    simp only [V] at hv ⊢
    obtain ⟨p, h1, h2⟩ := hv
    exact ⟨p, h _ _ h1, h2⟩
  | .it id, w, hv => by
    simp only [V] at hv ⊢
    obtain ⟨p, h1, h2⟩ := hv
    exact ⟨p, h _ _ h1, h2⟩
  | .ifc t v, w, hv => by
    simp only [V] at hv ⊢
    obtain ⟨x, h1, h2⟩ := hv
    exact ⟨x, h1, V.mono h v x h2⟩
  | .fn f fi ca, w, hv => by
    simp only [V] at hv ⊢
    obtain ⟨a, b, h1, h2, h3⟩ := hv
    exact ⟨a, b, h1, VL.mono h fi _ h2, VL.mono h ca _ h3⟩
  | .agg cs, w, hv => by
    simp only [V] at hv ⊢
    obtain ⟨a, h1, h2⟩ := hv
    exact ⟨a, h1, VL.mono h cs _ h2⟩
  | .tup cs, w, hv => by
    simp only [V] at hv ⊢
    obtain ⟨a, h1, h2⟩ := hv
    exact ⟨a, h1, VL.mono h cs _ h2⟩
theorem VL.mono (h : LLe loc loc') : ∀ (cs : List CV) (ws : List Value), VL ρ loc cs ws → VL ρ loc' cs ws
  | [], ws, hv => by simpa [VL] using hv
  | c :: cs, ws, hv => by
    simp only [VL] at hv ⊢
    obtain ⟨w, ws', h1, h2, h3⟩ := hv
    exact ⟨w, ws', h1, V.mono h c w h2, VL.mono h cs ws' h3⟩
end

theorem VL.nil : VL ρ loc [] [] := by simp [VL]
theorem VL.cons {c : CV} {cs : List CV} {w : Value} {ws : List Value} (h : V ρ loc c w) (h' : VL ρ loc cs ws) : VL ρ loc (c :: cs) (w :: ws) := by
  simp only [VL]; exact ⟨w, ws, rfl, h, h'⟩

/-- The same, place by place. -/
theorem VL.iff : ∀ {cs : List CV} {ws : List Value}, VL ρ loc cs ws ↔ cs.length = ws.length ∧ ∀ (i : Nat) c w, cs[i]? = some c → ws[i]? = some w → V ρ loc c w
  | [], ws => by
    simp only [VL]
    constructor
    · rintro rfl; exact ⟨rfl, fun i c w h => by simp at h⟩
    · rintro ⟨h, _⟩; exact (List.length_eq_zero_iff.1 h.symm)
  | c :: cs, ws => by
    simp only [VL]
    constructor
    · rintro ⟨w, ws', rfl, h1, h2⟩
      obtain ⟨h3, h4⟩ := VL.iff.1 h2
      refine ⟨by simp [h3], fun i => ?_⟩
      cases i with
      | zero => rintro c' w' h h'; simp at h h'; subst h; subst h'; exact h1
      | succ i => rintro c' w' h h'; simp at h h'; exact h4 i c' w' h h'
    · rintro ⟨h, h'⟩
      cases ws with
      | nil => simp at h
      | cons w ws => exact ⟨w, ws, rfl, h' 0 c w rfl rfl, VL.iff.2 ⟨by simpa using h, fun i c' w' h1 h2 => h' (i + 1) c' w' (by simpa using h1) (by simpa using h2)⟩⟩

theorem VL.length {cs : List CV} {ws : List Value} (h : VL ρ loc cs ws) : cs.length = ws.length := (VL.iff.1 h).1
theorem VL.get {cs : List CV} {ws : List Value} (h : VL ρ loc cs ws) {i : Nat} {c : CV} (hc : cs[i]? = some c) : ∃ w, ws[i]? = some w ∧ V ρ loc c w := by
  have h1 := (List.getElem?_eq_some_iff.1 hc).1
  rw [h.length] at h1
  exact ⟨ws[i], List.getElem?_eq_getElem h1, (VL.iff.1 h).2 i c _ hc (List.getElem?_eq_getElem h1)⟩

theorem VL.append {cs cs' : List CV} {ws ws' : List Value} (h : VL ρ loc cs ws) (h' : VL ρ loc cs' ws') : VL ρ loc (cs ++ cs') (ws ++ ws') := by
  induction cs generalizing ws with
  | nil => simp only [VL] at h; subst h; simpa using h'
  | cons c cs ih =>
    simp only [VL] at h
    obtain ⟨w, ws1, rfl, h1, h2⟩ := h
    exact VL.cons h1 (ih h2)

theorem VL.take {cs : List CV} {ws : List Value} (h : VL ρ loc cs ws) (n : Nat) : VL ρ loc (cs.take n) (ws.take n) := by
  induction cs generalizing ws n with
  | nil => simp only [VL] at h; subst h; simp [VL]
  | cons c cs ih =>
    simp only [VL] at h
    obtain ⟨w, ws1, rfl, h1, h2⟩ := h
    cases n with
    | zero => simp [VL]
    | succ n => simpa using VL.cons h1 (ih h2 n)

theorem VL.drop {cs : List CV} {ws : List Value} (h : VL ρ loc cs ws) (n : Nat) : VL ρ loc (cs.drop n) (ws.drop n) := by
  induction cs generalizing ws n with
  | nil => simp only [VL] at h; subst h; simp [VL]
  | cons c cs ih =>
    have h0 := h
    simp only [VL] at h
    obtain ⟨w, ws1, rfl, h1, h2⟩ := h
    cases n with
    | zero => simpa using h0
    | succ n => simpa using ih h2 n

theorem VL.lits (l : List Value) : VL ρ loc (lits l) l := by
  induction l with
  | nil => exact .nil
  | cons v l ih => exact .cons (by simp [V]) ih

theorem V.const (v : Value) : V ρ loc (ofConst v) v := by
  cases v <;> simp [ofConst, V, VL.lits]

theorem VL.cells {c : CV} {w : Value} (h : V ρ loc c w) : VL ρ loc (cellsOf c) w.cells.toList := by
  cases c with
  | lit v =>
    simp only [V] at h; subst h
    cases w <;> first | exact VL.lits _ | exact VL.cons (by simp [V]) .nil
  | agg cs =>
    simp only [V] at h
    obtain ⟨a, rfl, h⟩ := h
    exact h
  | sym n => simp only [V] at h; subst h; exact VL.cons (by simp [V]) .nil
  | _ => cases w <;> first | exact VL.cons h .nil | (simp [V] at h)

end

/-- An object lies at a place as it is told. -/
def Holds (ρ : Nat → Int) (loc : Lc) (w : World) (p : Pl) : OB → Prop
  | .cells xs => ∃ c e, w.heap[p.b]? = some (.cells c e (0, 0)) ∧ c.size = p.n ∧ p.o + xs.length ≤ p.n ∧
      ∀ (i : Nat) x, xs[i]? = some x → ∃ v, c[p.o + i]? = some v ∧ V ρ loc x v
  | .map es clock => ∃ a, w.heap[p.b]? = some (.map a clock) ∧ a.size = es.length ∧
      ∀ (i : Nat) x, es[i]? = some x → ∃ y, a[i]? = some y ∧ V ρ loc x.k y.key ∧ V ρ loc x.v y.val ∧ y.born = x.b
  | .bag xs => ∃ ys : List CV, ys.Perm xs ∧ ∃ c e, w.heap[p.b]? = some (.cells c e (0, 0)) ∧ c.size = p.n ∧ p.o + ys.length ≤ p.n ∧
      ∀ (i : Nat) x, ys[i]? = some x → ∃ v, c[p.o + i]? = some v ∧ V ρ loc x v
  | .iter m since seen stepped => ∃ q, loc m = some q ∧ w.heap[p.b]? = some (.mapIter (some q.b) since seen.toArray stepped)

/-- Memory is as it is told. -/
structure Mem (ρ : Nat → Int) (loc : Lc) (h : Nat → Option OB) (w : World) : Prop where
  sat : ∀ id o, h id = some o → ∃ p, loc id = some p ∧ Holds ρ loc w p o
  inj : ∀ i j o o' p q, h i = some o → h j = some o' → loc i = some p → loc j = some q → p.b = q.b → i = j

/-- The blocks of what is told. -/
def Dom (loc : Lc) (h : Nat → Option OB) (b : Nat) : Prop := ∃ id o p, h id = some o ∧ loc id = some p ∧ p.b = b

/-- What may have become of memory. -/
structure Fr (loc : Lc) (h : Nat → Option OB) (w : World) (loc' : Lc) (h' : Nat → Option OB) (w' : World) : Prop where
  os : w'.os = w.os
  tape : w'.tape = w.tape
  output : w'.output = w.output
  size : w.heap.size ≤ w'.heap.size
  kept : ∀ b, b < w.heap.size → ¬ Dom loc h b → w'.heap[b]? = w.heap[b]?
  own : ∀ b, Dom loc' h' b → Dom loc h b ∨ w.heap.size ≤ b

/-- A step: places for numbers from nx on, memory, and what became of the rest. -/
structure Step (ρ : Nat → Int) (loc : Lc) (h : Nat → Option OB) (nx : Nat) (w : World) (loc' : Lc) (h' : Nat → Option OB) (nx' : Nat) (w' : World) : Prop where
  mem : Mem ρ loc' h' w'
  le : nx ≤ nx'
  ext : ∀ id, id < nx ∨ nx' ≤ id → loc' id = loc id
  fr : Fr loc h w loc' h' w'

/-- Nothing lies yet at these numbers. -/
def Free (loc : Lc) (nx nx' : Nat) : Prop := ∀ id, nx ≤ id → id < nx' → loc id = none

theorem Step.lle {ρ : Nat → Int} {loc loc' : Lc} {h h' : Nat → Option OB} {nx nx' : Nat} {w w' : World} (s : Step ρ loc h nx w loc' h' nx' w') (hf : Free loc nx nx') : LLe loc loc' := fun id p hp => by
  by_cases hx : id < nx ∨ nx' ≤ id
  · rw [s.ext id hx]; exact hp
  · rw [hf id (by omega) (by omega)] at hp; cases hp

theorem Fr.refl (loc : Lc) (h : Nat → Option OB) (w : World) : Fr loc h w loc h w := ⟨rfl, rfl, rfl, Nat.le_refl _, fun _ _ _ => rfl, fun _ h => .inl h⟩

theorem Fr.trans {loc loc' loc'' : Lc} {h h' h'' : Nat → Option OB} {w w' w'' : World} (f : Fr loc h w loc' h' w') (g : Fr loc' h' w' loc'' h'' w'') : Fr loc h w loc'' h'' w'' where
  os := g.os.trans f.os
  tape := g.tape.trans f.tape
  output := g.output.trans f.output
  size := Nat.le_trans f.size g.size
  kept := fun b hb hd => (g.kept b (Nat.lt_of_lt_of_le hb f.size) fun hx => (f.own b hx).elim hd (by omega)).trans (f.kept b hb hd)
  own := fun b hb => by
    rcases g.own b hb with h1 | h1
    · exact f.own b h1
    · exact .inr (Nat.le_trans f.size h1)

theorem Step.refl {ρ : Nat → Int} {loc : Lc} {h : Nat → Option OB} {nx : Nat} {w : World} (m : Mem ρ loc h w) : Step ρ loc h nx w loc h nx w := ⟨m, Nat.le_refl _, fun _ _ => rfl, .refl _ _ _⟩

theorem Step.trans {ρ : Nat → Int} {loc loc' loc'' : Lc} {h h' h'' : Nat → Option OB} {nx nx' nx'' : Nat} {w w' w'' : World} (s : Step ρ loc h nx w loc' h' nx' w') (t : Step ρ loc' h' nx' w' loc'' h'' nx'' w'') :
    Step ρ loc h nx w loc'' h'' nx'' w'' where
  mem := t.mem
  le := Nat.le_trans s.le t.le
  ext := fun id hi => by
    have := s.le
    have := t.le
    rw [t.ext id (by omega), s.ext id (by omega)]
  fr := s.fr.trans t.fr

theorem Free.left {loc : Lc} {a b c : Nat} (h : Free loc a c) (hb : b ≤ c) : Free loc a b := fun id h1 h2 => h id h1 (by omega)

theorem Step.free {ρ : Nat → Int} {loc loc' : Lc} {h h' : Nat → Option OB} {nx nx' n : Nat} {w w' : World} (s : Step ρ loc h nx w loc' h' nx' w') (hf : Free loc nx n) : Free loc' nx' n := fun id h1 h2 => by
  rw [s.ext id (.inr h1)]
  exact hf id (by have := s.le; omega) h2

end Go.Cx
