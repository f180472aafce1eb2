/- append: room or none, known or not. No program is named here. -/
import Derived.Test.YtlffgjppnbhahaaGreatX14
import Derived.Deep.AppendSrc
set_option linter.unusedSimpArgs false
set_option linter.unusedVariables false
set_option maxHeartbeats 1000000
namespace Go.Cx

section
variable {P : Program} {ρ : Nat → Int} {loc loc' : Lc} {h h' : Nat → Option OB} {nx : Nat} {w w' : World}

theorem Mem.drew (m : Mem ρ loc h w) : Mem ρ loc h w.drew :=
  ⟨fun id o ho => by
    obtain ⟨p, hp, hh⟩ := m.sat id o ho
    exact ⟨p, hp, hh.mono (.refl _) rfl⟩, m.inj⟩

theorem Step.drew (m : Mem ρ loc h w) : Step ρ loc h nx w loc h nx w.drew :=
  ⟨m.drew, Nat.le_refl _, fun _ _ => rfl, ⟨rfl, rfl, rfl, Nat.le_refl _, fun _ _ _ => rfl, fun _ hb => .inl hb⟩⟩

theorem Step.less (s : Step ρ loc h nx w loc' h' nx w') {h'' : Nat → Option OB} (he : ∀ j o, h'' j = some o → h' j = some o) : Step ρ loc h nx w loc' h'' nx w' :=
  ⟨s.mem.less he, s.le, s.ext, ⟨s.fr.os, s.fr.tape, s.fr.output, s.fr.size, s.fr.kept, fun b hb => s.fr.own b (Dom.less he hb)⟩⟩

theorem Step.less' {nx' : Nat} (s : Step ρ loc h nx w loc' h' nx' w') {h'' : Nat → Option OB} (he : ∀ j o, h'' j = some o → h' j = some o) : Step ρ loc h nx w loc' h'' nx' w' :=
  ⟨s.mem.less he, s.le, s.ext, ⟨s.fr.os, s.fr.tape, s.fr.output, s.fr.size, s.fr.kept, fun b hb => s.fr.own b (Dom.less he hb)⟩⟩

/-- An object is given up, and its block lies on under a new number. -/
theorem Step.adopt (m : Mem ρ loc h w) {id : Nat} {o o' : OB} {p q : Pl} (hid : h id = some o) (hl : loc id = some p) (hf : loc nx = none) (hq : q.b = p.b) (hw : ∀ b, b ≠ p.b → w'.heap[b]? = w.heap[b]?)
    (hs : w'.heap.size = w.heap.size) (h1 : w'.os = w.os) (h2 : w'.tape = w.tape) (h3 : w'.output = w.output) (hloc : loc' = fun j => if j = nx then some q else loc j) (ho : Holds ρ loc' w' q o')
    (he : ∀ j, h' j = if j = nx then some o' else if j = id then none else h j) : Step ρ loc h nx w loc' h' (nx + 1) w' := by
  have hll : LLe loc loc' := fun j p hj => by
    rw [hloc]
    dsimp only
    split
    · rename_i e; subst e; rw [hf] at hj; cases hj
    · exact hj
  have hlo : ∀ j, j ≠ nx → loc' j = loc j := fun j hj => by rw [hloc]; exact if_neg hj
  have hln : loc' nx = some q := by rw [hloc]; exact if_pos rfl
  have old : ∀ (j : Nat) (x : OB) (t : Pl), h' j = some x → loc' j = some t → (j = nx ∧ t = q) ∨ (j ≠ nx ∧ j ≠ id ∧ h j = some x ∧ loc j = some t ∧ t.b ≠ p.b) := by
    intro j x t hx ht
    rw [he] at hx
    split at hx
    · rename_i e; subst e
      rw [hln] at ht; cases ht
      exact .inl ⟨rfl, rfl⟩
    · rename_i e
      split at hx
      · cases hx
      · rename_i e'
        rw [hlo j e] at ht
        exact .inr ⟨e, e', hx, ht, fun hb => e' (m.inj j id x o t p hx hid ht hl hb)⟩
  refine ⟨⟨fun j x hx => ?_, fun i j x y t u hx hy ht hu e => ?_⟩, by omega, fun j hj => hlo j (by omega), ⟨h1, h2, h3, by omega, fun b hb hn => hw b fun e => hn ⟨id, o, p, hid, hl, e.symm⟩, ?_⟩⟩
  · by_cases e : j = nx
    · subst e
      rw [he, if_pos rfl] at hx
      cases hx
      exact ⟨q, hln, ho⟩
    · have hx2 := hx
      rw [he, if_neg e] at hx2
      split at hx2
      · cases hx2
      · obtain ⟨t, ht, hh⟩ := m.sat j x hx2
        have hne : t.b ≠ p.b := fun hb => by
          have := m.inj j id x o t p hx2 hid ht hl hb
          contradiction
        exact ⟨t, hll _ _ ht, hh.mono hll (hw _ hne)⟩
  · rcases old i x t hx ht with ⟨a1, a2⟩ | ⟨a1, a2, a3, a4, a5⟩ <;> rcases old j y u hy hu with ⟨b1, b2⟩ | ⟨b1, b2, b3, b4, b5⟩
    · omega
    · subst a2; exact (b5 (e.symm.trans hq)).elim
    · subst b2; exact (a5 (e.trans hq)).elim
    · exact m.inj i j x y t u a3 b3 a4 b4 e
  · rintro b ⟨j, x, t, hx, ht, rfl⟩
    rcases old j x t hx ht with ⟨a1, a2⟩ | ⟨a1, a2, a3, a4, a5⟩
    · subst a2; exact .inl ⟨id, o, p, hid, hl, hq.symm⟩
    · exact .inl ⟨j, x, t, a3, a4, rfl⟩

/-- Cells are stored in a row. -/
theorem store_raw {b : Nat} {c : Array Value} {e : TypeId} (hc : w.heap[b]? = some (.cells c e (0, 0))) {x : Nat} {vs : List Value} (hx : x + vs.length ≤ c.size) (h1 : ∀ v ∈ vs, v.oneCell' = true) :
    ∃ (w' : World) (c' : Array Value), (storeCells ⟨b, x, none⟩ vs).run P w = .ok () w' ∧ w'.heap[b]? = some (.cells c' e (0, 0)) ∧ c'.size = c.size ∧ (∀ b', b' ≠ b → w'.heap[b']? = w.heap[b']?) ∧ w'.heap.size = w.heap.size ∧ w'.os = w.os ∧ w'.tape = w.tape ∧ w'.output = w.output ∧
      ∀ k : Nat, c'[k]? = if x ≤ k ∧ k < x + vs.length then vs[k - x]? else c[k]? := by
  have h3 := run_storeCells_at (P := P) b x e vs 0 c w hc (by omega) h1
  simp only [Nat.add_zero] at h3
  refine ⟨_, _, h3, setRow_heap w b c _ e _ hc, by simp; omega, fun b' hb => setRow_other w _ b' _ hb, setRow_size _ _ _, rfl, rfl, rfl, fun k => ?_⟩
  rw [List.getElem?_toArray]
  by_cases a1 : k < x
  · rw [List.append_assoc, List.getElem?_append_left (by simp; omega), List.getElem?_take, if_pos a1, if_neg (by omega)]
    simp
  · by_cases a2 : k < x + vs.length
    · rw [List.append_assoc, List.getElem?_append_right (by simp; omega), List.getElem?_append_left (by simp; omega), if_pos (by omega)]
      congr 1; simp; omega
    · rw [List.append_assoc, List.getElem?_append_right (by simp; omega), List.getElem?_append_right (by simp; omega), List.getElem?_drop, if_neg (by omega)]
      simp only [List.length_take, Array.length_toList, Array.getElem?_toList]
      congr 1; omega

theorem append_zero {t tx ty e : TypeId} {j : TI} (ht : P.underlying t = some (.slice e)) (hj : TOk P e j) (b : Option Addr) (l c : Nat) (hl : l ≤ c) {x : Value} (hs : Src P j.size tx x 0 [] w) :
    (Builtin.append_ #[t, tx] ty #[.slice b l c, x]).run P w = .ok (.slice b l c) w := by
  obtain ⟨i, z, hi, _, _, h4, _⟩ := hj.ex
  have hc := hs.cells
  rw [← h4] at hc
  rcases hs.kind with ⟨e', hk⟩ | hk <;> cases b <;> simp [Builtin.append_, run_underlying ht, run_underlying hk, sizeOf, typeInfo, hi, hs.len, hl, hc, storeCells]

theorem append_room {t tx ty e : TypeId} {j : TI} (ht : P.underlying t = some (.slice e)) (hj : TOk P e j) (b o l c : Nat) {x : Value} {n : Nat} {news : List Value} (hs : Src P j.size tx x n news w) (hl : l + n ≤ c)
    (hst : (storeCells ⟨b, o + l * j.size, none⟩ news).run P w = .ok () w') : (Builtin.append_ #[t, tx] ty #[.slice (some ⟨b, o, none⟩) l c, x]).run P w = .ok (.slice (some ⟨b, o, none⟩) (l + n) c) w' := by
  obtain ⟨i, z, hi, _, _, h4, _⟩ := hj.ex
  have hc := hs.cells
  rw [← h4] at hc hst
  rcases hs.kind with ⟨e', hk⟩ | hk <;> simp [Builtin.append_, run_underlying ht, run_underlying hk, sizeOf, typeInfo, hi, hs.len, hl, hc, addr_add, hst]

theorem grown_ge (w : World) (need cap : Nat) (e : TypeId) (h63 : (need : Int) ≤ 9223372036854775807) : need ≤ grownCap w need cap e := by
  unfold grownCap
  simp only [Question.cut]
  omega

/-- A new row: old elements and new ones. -/
theorem append_grow {hp : Tr OB} (m : Mem ρ loc hp.get w) (hf : loc nx = none) {t tx ty e : TypeId} {j : TI} (ht : P.underlying t = some (.slice e)) (hj : TOk P e j) (base : Option Addr) (l c : Nat) {olds : List Value} {x : Value} {n : Nat} {news : List Value}
    (hold : (Builtin.firstCells j.size l (.slice base l c)).run P w.drew = .ok olds.toArray w.drew) (hol : olds.length = l * j.size) (hs : Src P j.size tx x n news w) (hg : c < l + n) (hb : fitsA j.bytes (l + n) = true)
    {cs : List CV} (hcs : VL ρ loc cs (olds ++ news)) :
    ∃ v w' loc', (Builtin.append_ #[t, tx] ty #[.slice base l c, x]).run P w = .ok v w' ∧ V ρ loc' (.sl nx j.size 0 (l + n) (l + n) false) v ∧ Step ρ loc hp.get nx w loc' (hp.set nx (.cells cs)).get (nx + 1) w' := by
  obtain ⟨i, z, hi, _, hz, h4, h5, h6, h7, h8, h9⟩ := hj.ex
  unfold fitsA at hb
  rw [Bool.and_eq_true] at hb
  have b1 : (l + n) * j.bytes ≤ 2 ^ 46 := Nat.le_of_ble_eq_true hb.1
  have b2 : l + n ≤ 2 ^ 46 := Nat.le_of_ble_eq_true hb.2
  have h63 : ((l + n : Nat) : Int) ≤ 9223372036854775807 := by omega
  have hfit : Builtin.nextslicecap (l + n) c * i.bytes ≤ 281474976710656 := by
    rw [h8]
    calc _ ≤ 2 * (l + n) * j.bytes := Nat.mul_le_mul_right _ (nextslicecap_le hg)
      _ ≤ 281474976710656 := by rw [Nat.mul_assoc]; omega
  rw [← h4] at hold hs
  have hrun := run_append_grow_src (P := P) w t tx ty e i z ht hi hz base l c olds hold x n news hs hg h63 hfit
  have hge := grown_ge w (l + n) c e h63
  generalize grownCap w (l + n) c e = g at hrun hge
  have hnl : news.length = n * j.size := by rw [hs.newsLen, h4]
  have hstep := (newCells (s := ⟨.e, hp, 0⟩) m.drew hf e hcs (Builtin.zeroCells z.cells (g - (l + n))).toList)
  refine ⟨_, _, fun k => if k = nx then some ⟨w.heap.size, 0, ((olds ++ news) ++ (Builtin.zeroCells z.cells (g - (l + n))).toList).length⟩ else loc k, hrun, ?_, ?_⟩
  · simp only [V]
    refine ⟨⟨w.heap.size, 0, ((olds ++ news) ++ (Builtin.zeroCells z.cells (g - (l + n))).toList).length⟩, ⟨w.heap.size, 0, none⟩, g, by simp, rfl, hge, by simp, hge, .inr ⟨rfl, ?_⟩⟩
    show 0 + 0 + g * j.size ≤ ((olds ++ news) ++ (Builtin.zeroCells z.cells (g - (l + n))).toList).length
    simp only [List.length_append, hol, hnl, Builtin.zeroCells, Array.length_toList, Array.size_map, Array.size_range, h5]
    rw [← Nat.add_mul, ← Nat.add_mul]
    have : l + n + (g - (l + n)) = g := by omega
    rw [this]; omega
  · have e1 : (w.drew.alloc (.cells ((olds ++ news).toArray ++ Builtin.zeroCells z.cells (g - (l + n))) e)) = { w.drew with heap := w.drew.heap.push (.cells ((olds ++ news) ++ (Builtin.zeroCells z.cells (g - (l + n))).toList).toArray e) } := by
      have : (olds ++ news).toArray ++ Builtin.zeroCells z.cells (g - (l + n)) = ((olds ++ news) ++ (Builtin.zeroCells z.cells (g - (l + n))).toList).toArray := by
        apply Array.ext'
        simp
      rw [this]
      rfl
    rw [e1]
    exact (Step.drew m).trans hstep

end

end Go.Cx
