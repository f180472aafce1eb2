/- Maps that are written and walked over: each operation. No program is named here. -/
import Derived.Test.YtlffgjppnbhahaaGreatX13
set_option linter.unusedSimpArgs false
set_option linter.unusedVariables false
set_option maxHeartbeats 1000000
namespace Go.Cx
open Go.MapKept (run_getObj_map run_setObj_map run_findKey bytes_beq heap_set)

section
variable {P : Program} {orb : BinOp → CV → CV → Option CV} {ρ : Nat → Int} {loc loc' : Lc} {s : St} {a : Act} {w : World} {o : Oper} {r : Out}

theorem EL.modify {es : List ME} {l : List MapEntry} (h : EL ρ loc es l) (j : Nat) {f : ME → ME} {g : MapEntry → MapEntry}
    (hf : ∀ x y, es[j]? = some x → l[j]? = some y → V ρ loc x.k y.key → V ρ loc x.v y.val → y.born = x.b → V ρ loc (f x).k (g y).key ∧ V ρ loc (f x).v (g y).val ∧ (g y).born = (f x).b) : EL ρ loc (es.modify j f) (l.modify j g) := by
  obtain ⟨h1, h2⟩ := EL.iff.1 h
  refine EL.iff.2 ⟨by simp [h1], fun i x hx => ?_⟩
  rw [List.getElem?_modify] at hx ⊢
  cases he : es[i]? with
  | none => rw [he] at hx; simp at hx
  | some e =>
    rw [he] at hx
    obtain ⟨y, hy, k1, k2, k3⟩ := h2 i e he
    rw [hy]
    by_cases hj : j = i
    · subst hj
      simp at hx ⊢
      subst hx
      exact hf e y he hy k1 k2 k3
    · simp [hj] at hx ⊢
      subst hx
      exact ⟨k1, k2, k3⟩

theorem EL.push {es : List ME} {l : List MapEntry} (h : EL ρ loc es l) {x : ME} {y : MapEntry} (h1 : V ρ loc x.k y.key) (h2 : V ρ loc x.v y.val) (h3 : y.born = x.b) : EL ρ loc (es ++ [x]) (l ++ [y]) := by
  induction es generalizing l with
  | nil => cases h; exact ⟨y, [], rfl, h1, h2, h3, rfl⟩
  | cons z es ih =>
    obtain ⟨y', l', rfl, e1, e2, e3, e4⟩ := h
    exact ⟨y', _, rfl, e1, e2, e3, ih e4⟩

theorem EL.erase {es : List ME} {l : List MapEntry} (h : EL ρ loc es l) (j : Nat) : EL ρ loc (es.eraseIdx j) (l.eraseIdx j) := by
  induction es generalizing l j with
  | nil => cases h; simp [EL]
  | cons z es ih =>
    obtain ⟨y', l', rfl, e1, e2, e3, e4⟩ := h
    cases j with
    | zero => simpa using e4
    | succ j => exact ⟨y', _, rfl, e1, e2, e3, ih e4 j⟩

theorem EL.keep {es : List ME} {l : List MapEntry} (h : EL ρ loc es l) (f : Nat → Bool) : EL ρ loc (es.filter fun x => f x.b) (l.filter fun y => f y.born) := by
  induction es generalizing l with
  | nil => cases h; simp [EL]
  | cons z es ih =>
    obtain ⟨y', l', rfl, e1, e2, e3, e4⟩ := h
    rw [List.filter_cons, List.filter_cons, e3]
    split
    · exact ⟨y', _, rfl, e1, e2, e3, ih e4⟩
    · exact ih e4

/-- A map's object turns. -/
theorem map_set (hM : Mem ρ loc s.hp.get w) {id : Nat} {mc : List ME × Nat} (h6 : mapAt s.hp id = .ok mc) {p : Pl} (hp : loc id = some p) {ar : Array MapEntry} (har : w.heap[p.b]? = some (.map ar mc.2)) {es : List ME} {c : Nat} {ar' : Array MapEntry} (he : EL ρ loc es ar'.toList) (nx : Nat) :
    Step ρ loc s.hp.get nx w loc (s.hp.set id (.map es c)).get nx { w with heap := w.heap.setIfInBounds p.b (.map ar' c) } := by
  obtain ⟨q1, q2⟩ := heap_set (o' := .map ar' c) har
  exact Step.upd hM (mapAt_ok h6) hp (fun b hb => q2 b hb) (by simp) rfl rfl rfl (o' := .map es c) (Holds.of_el q1 he) (fun j => Tr.get_set _ _ _ _)

theorem same_bits {d : TypeDesc} {x : CV} (hk : isKey d x = true) {u : Value} (hu : V ρ loc x u) (n : Nat) : Instr.sameBits n u u = true := by
  unfold isKey at hk
  split at hk
  · simp only [V] at hu
    subst hu
    split at hk
    · split at hk
      · unfold Instr.sameBits; simp
      · cases hk
    · split at hk
      · unfold Instr.sameBits; simp [bytes_beq]
      · cases hk
    · cases hk
  · simp only [V] at hu
    subst hu
    unfold Instr.sameBits; simp
  · cases hk

theorem o_mapUpdate (hO : OraOk ρ orb) (hT : TmOk ρ loc s.tm a) (hM : Mem ρ loc s.hp.get w) {t : TypeId} {m k x : Operand} (ho : o.op = .mapUpdate t m k x) (h : execO P orb s o.op = .ok r) : OpPost ρ loc s w r ((execOp a.eval o).run P w) := by
  rw [ho] at h
  obtain ⟨ki, h1, g1⟩ := R.bind_ok.1 h
  obtain ⟨mv, h3, g3⟩ := R.bind_ok.1 g1
  obtain ⟨kv, h4, g4⟩ := R.bind_ok.1 g3
  obtain ⟨xv, h8, g8⟩ := R.bind_ok.1 g4
  clear h g1 g3 g4
  obtain ⟨i, kt, t1, t2, t3⟩ := keyI_ok h1
  have hm := evO_ok hT h3
  have hk := evO_ok hT h4
  have hx := evO_ok hT h8
  split at g8
  · rename_i id
    obtain ⟨h5, g5⟩ := R.if_ok.1 g8
    obtain ⟨mc, h6, g6⟩ := R.bind_ok.1 g5
    obtain ⟨f, h7, h⟩ := R.bind_ok.1 g6
    clear g8 g5 g6
    simp only [V] at hm
    obtain ⟨p, hp, hm⟩ := hm
    obtain ⟨q, hq, hh⟩ := hM.sat id _ (mapAt_ok h6)
    rw [hp] at hq; cases hq
    obtain ⟨ar, har, hel⟩ := hh.el
    have hu := t1.underlying w
    rw [t2] at hu
    have hck := key_checked (w := w) t3 h5 hk false 9999
    rcases find_ok hO h5 hk 0 h7 hel with ⟨rfl, f1⟩ | ⟨j, c, e, rfl, f1, f2, f3, f4, f5⟩
    · cases h
      intro _
      refine ⟨undef, _, loc, .inr ⟨?_, rfl⟩, by simp [none', V, undef], map_set hM h6 hp har (ar' := ar.push { key := a.eval k, val := a.eval x, born := mc.2 }) (c := mc.2 + 1) ?_ _⟩
      · simp only [execOp, ho, hm]
        unfold Instr.mapUpdate
        rw [Sem.run_bind, Sem.run_bind, hu]
        simp only [Result.andThen_ok]
        rw [Sem.run_bind, run_getObj_map har]
        simp only [Result.andThen_ok]
        rw [Sem.run_bind, hck]
        simp only [Result.andThen_ok]
        rw [Sem.run_bind, run_findKey t3.und f1]
        simp only [Result.andThen_ok]
        rw [run_setObj_map _ har]
        rfl
      · rw [Array.toList_push]
        exact hel.push hk hx rfl
    · cases h
      intro _
      refine ⟨undef, _, loc, .inr ⟨?_, rfl⟩, by simp [none', V, undef], map_set hM h6 hp har (ar' := ar.modify j fun e => { e with key := a.eval k, val := a.eval x }) (c := mc.2) ?_ _⟩
      · simp only [execOp, ho, hm]
        unfold Instr.mapUpdate
        rw [Sem.run_bind, Sem.run_bind, hu]
        simp only [Result.andThen_ok]
        rw [Sem.run_bind, run_getObj_map har]
        simp only [Result.andThen_ok]
        rw [Sem.run_bind, hck]
        simp only [Result.andThen_ok]
        rw [Sem.run_bind, run_findKey t3.und f2]
        simp only [Result.andThen_ok, Nat.zero_add]
        have hks : (Instr.keyThatStays ((ar[j]?.map (·.key)).getD (a.eval k)) (a.eval k)).run P w = .ok (a.eval k) w := by
          rw [Array.getElem?_toList] at f1
          rw [f1]
          unfold Instr.keyThatStays
          simp only [Option.map_some, Option.getD_some, f4]
          rw [if_pos (same_bits h5 hk _)]
          rfl
        rw [Sem.run_bind, hks]
        simp only [Result.andThen_ok]
        rw [run_setObj_map _ har]
        rfl
      · rw [Array.toList_modify]
        refine hel.modify j fun x' y' e1 e2 e3 e4 e5 => ⟨?_, hx, e5⟩
        rw [f1] at e2; cases e2
        rw [f4] at e3
        exact e3
  · cases g8

theorem o_range (hT : TmOk ρ loc s.tm a) (hM : Mem ρ loc s.hp.get w) {t : TypeId} {x : Operand} (ho : o.op = .range t x) (h : execO P orb s o.op = .ok r) : OpPost ρ loc s w r ((execOp a.eval o).run P w) := by
  rw [ho] at h
  obtain ⟨i, h1, g1⟩ := R.bind_ok.1 h
  obtain ⟨ke, h2, g2⟩ := R.bind_ok.1 g1
  obtain ⟨v, h3, g3⟩ := R.bind_ok.1 g2
  clear h g1 g2
  have hx := evO_ok hT h3
  split at g3
  · rename_i id
    obtain ⟨mc, h6, h⟩ := R.bind_ok.1 g3
    clear g3
    cases h
    simp only [V] at hx
    obtain ⟨p, hp, hx⟩ := hx
    obtain ⟨q, hq, hh⟩ := hM.sat id _ (mapAt_ok h6)
    rw [hp] at hq; cases hq
    obtain ⟨ar, har, hel⟩ := hh.el
    have hu := (tiOf_ok h1).underlying w
    have hd : i.desc = .map ke.1 ke.2 := by
      unfold mapD at h2
      split at h2
      · rename_i hd; cases h2; exact hd
      · cases h2
    rw [hd] at hu
    intro hf
    have hfn := hf _ (Nat.le_refl _) (by omega)
    refine ⟨.pointer (some ⟨w.heap.size, 0, none⟩), { w with heap := w.heap.push (.mapIter (some p.b) mc.2 #[] mc.2) }, fun j => if j = s.nx then some ⟨w.heap.size, 0, 0⟩ else loc j, .inl ?_, ?_, ?_⟩
    · simp only [execOp, ho, hx]
      rw [run_val]
      unfold Instr.range
      rw [Sem.run_bind, hu]
      simp only [Result.andThen_ok, bind_assoc]
      rw [Sem.run_bind, run_getObj_map har]
      rfl
    · simp only [V]
      exact ⟨⟨w.heap.size, 0, 0⟩, by simp, rfl⟩
    · refine Step.new (o := .iter id mc.2 [] mc.2) hM hfn (.mapIter (some p.b) mc.2 #[] mc.2) 0 rfl rfl ⟨p, ?_, ?_⟩ (fun j => Tr.get_set _ _ _ _)
      · have : id ≠ s.nx := fun e => by subst e; rw [hfn] at hp; cases hp
        simp only [if_neg this]
        exact hp
      · simp
  · cases g3

theorem left_el {es : List ME} {ar : Array MapEntry} (h : EL ρ loc es ar.toList) (seen : List Nat) : EL ρ loc (leftM seen es) (ar.filter fun e => !seen.toArray.contains e.born).toList := by
  have := h.keep fun b => !seen.contains b
  unfold leftM
  rw [Array.toList_filter]
  simpa using this

theorem o_next (hT : TmOk ρ loc s.tm a) (hM : Mem ρ loc s.hp.get w) {x : Operand} {st : Bool} (ho : o.op = .next x st) (h : execO P orb s o.op = .ok r) : OpPost ρ loc s w r ((execOp a.eval o).run P w) := by
  rw [ho] at h
  obtain ⟨h1, g1⟩ := R.if_ok.1 h
  obtain ⟨v, h3, g3⟩ := R.bind_ok.1 g1
  clear h g1
  have h1 : st = false := by simpa using h1
  subst h1
  have hx := evO_ok hT h3
  split at g3
  · rename_i id
    unfold nextV at g3
    split at g3
    · rename_i m since seen last hid
      obtain ⟨mc, h6, g4⟩ := R.bind_ok.1 g3
      obtain ⟨h7, h⟩ := R.if_ok.1 g4
      clear g3 g4
      simp only [V] at hx
      obtain ⟨p, hp, hx⟩ := hx
      obtain ⟨q, hq, mq, hm1, hm2⟩ := hM.sat id _ hid
      rw [hp] at hq; cases hq
      obtain ⟨q, hq, hh⟩ := hM.sat m _ (mapAt_ok h6)
      rw [hm1] at hq; cases hq
      obtain ⟨ar, har, hel⟩ := hh.el
      have gob : (getObj p.b).run P w = .ok (.mapIter (some mq.b) since seen.toArray last) w := by simp [getObj, Sem.run, hm2]
      have hgone : (!seen.toArray.isEmpty && !ar.isEmpty && ar.all fun e => decide (e.born ≥ last)) = false := by
        rcases Bool.or_eq_true_iff.1 h7 with h8 | h8
        · rcases Bool.or_eq_true_iff.1 h8 with h9 | h9
          · have : seen = [] := by simpa using h9
            subst this
            simp
          · have : mc.1 = [] := by simpa using h9
            rw [this] at hel
            have : ar = #[] := by
              have h10 : ar.toList = [] := hel
              exact Array.ext' (by simpa using h10)
            subst this
            simp
        · obtain ⟨e, he1, he2⟩ := List.any_eq_true.1 h8
          have he2 : e.b < last := Nat.le_of_ble_eq_true he2
          obtain ⟨j, hj⟩ := List.getElem?_of_mem he1
          obtain ⟨y, hy, _, _, hb⟩ := (EL.iff.1 hel).2 j e hj
          have : ar.all (fun e => decide (e.born ≥ last)) = false := by
            rw [Bool.eq_false_iff]
            intro hall
            rw [Array.getElem?_toList] at hy
            obtain ⟨hlt, he⟩ := Array.getElem?_eq_some_iff.1 hy
            have := (Array.all_eq_true.1 hall) j hlt
            rw [he] at this
            simp at this
            omega
          rw [this]
          simp
      have hl := left_el hel seen
      have start : ∀ (R' : Result Next), (((do
          let left := ar.filter fun e => !seen.toArray.contains e.born
          let old := left.filter (·.born < since)
          let new := left.filter (·.born ≥ since)
          let candidates := (if old.isEmpty then #[none] else #[]) ++ (old ++ new).map some
          match candidates[← choose (.mapNext candidates.size)]? with
          | some (some e) =>
            setObj p.b (.mapIter (some mq.b) since (seen.toArray.push e.born) mc.2)
            pure (.tuple #[.bool true, e.key, e.val])
          | some none => pure (.tuple #[.bool false])
          | none => stuck "Next: no such candidate" : Sem Value).run P w).andThen fun v w => .ok (.value v) w) = R' → (execOp a.eval o).run P w = R' := by
        intro R' hR
        rw [← hR]
        simp only [execOp, ho, hx]
        rw [run_val]
        unfold Instr.next
        show ((getObj p.b >>= _ : Sem Value).run P w).andThen _ = _
        rw [Sem.run_bind, gob]
        simp only [Result.andThen_ok]
        rw [Sem.run_bind, run_getObj_map har]
        simp only [Result.andThen_ok]
        rw [if_neg (by rw [hgone]; simp)]
        rfl
      split at h
      · rename_i hnil
        rw [hnil] at hl
        have hl' : (ar.filter fun e => !seen.toArray.contains e.born) = #[] := by
          have h10 : (ar.filter fun e => !seen.toArray.contains e.born).toList = [] := hl
          exact Array.ext' (by simpa using h10)
        refine OpPost.pure (v' := .tuple #[.bool false]) hM (by simp only [V]; exact ⟨_, rfl, .cons (by simp [V]) .nil⟩) h (start _ ?_)
        rw [hl']
        simp [choose, Sem.run, Question.forced]
      · rename_i e hone
        rw [hone] at hl
        obtain ⟨h8, h⟩ := R.if_ok.1 h
        have h8 : e.b < since := Nat.le_of_ble_eq_true h8
        cases h
        obtain ⟨y, l', e1, e2, e3, e4, e5⟩ := hl
        cases e5
        have hl' : (ar.filter fun e => !seen.toArray.contains e.born) = #[y] := Array.ext' (by simpa using e1)
        intro _
        refine ⟨.tuple #[.bool true, y.key, y.val], { w with heap := w.heap.setIfInBounds p.b (.mapIter (some mq.b) since (seen.toArray.push y.born) mc.2) }, loc, .inl (start _ ?_), ?_, ?_⟩
        · rw [hl']
          have hlt : y.born < since := by omega
          have hge : ¬ since ≤ y.born := by omega
          simp [choose, Sem.run, Question.forced, hlt, setObj, hm2]
        · simp only [V]
          exact ⟨_, rfl, .cons (by simp [V]) (.cons e2 (.cons e3 .nil))⟩
        · obtain ⟨q1, q2⟩ := heap_set (o' := .mapIter (some mq.b) since (seen.toArray.push y.born) mc.2) hm2
          refine Step.upd hM hid hp (fun b hb => q2 b hb) (by simp) rfl rfl rfl (o' := .iter m since (seen ++ [e.b]) mc.2) ⟨mq, hm1, ?_⟩ (fun j => Tr.get_set _ _ _ _)
          rw [q1, e4]
          simp
      · cases h
    · cases g3
  · cases g3

theorem find_el {es : List ME} {l : List MapEntry} (h : EL ρ loc es l) (b : Nat) {x : ME} (hx : es.find? (fun x => Nat.beq x.b b) = some x) : ∃ y, l.find? (fun y => y.born == b) = some y ∧ V ρ loc x.k y.key ∧ V ρ loc x.v y.val := by
  induction es generalizing l with
  | nil => simp at hx
  | cons z es ih =>
    obtain ⟨y', l', rfl, e1, e2, e3, e4⟩ := h
    rw [List.find?_cons] at hx ⊢
    have e5 : (y'.born == b) = Nat.beq z.b b := by rw [e3, Bool.eq_iff_iff]; simp
    cases hb : Nat.beq z.b b with
    | true =>
      rw [hb] at hx e5
      rw [e5]
      cases hx
      exact ⟨y', rfl, e1, e2⟩
    | false =>
      rw [hb] at hx e5
      rw [e5]
      exact ih e4 hx

theorem o_entry (hT : TmOk ρ loc s.tm a) (hM : Mem ρ loc s.hp.get w) {x : Operand} (ho : o.op = .entry x) (h : execO P orb s o.op = .ok r) : OpPost ρ loc s w r ((execOp a.eval o).run P w) := by
  rw [ho] at h
  obtain ⟨v, h3, g3⟩ := R.bind_ok.1 h
  clear h
  have hx := evO_ok hT h3
  split at g3
  · rename_i id
    unfold entryV at g3
    split at g3
    · rename_i m since seen last hid
      obtain ⟨mc, h6, g4⟩ := R.bind_ok.1 g3
      obtain ⟨b, h7, g5⟩ := R.bind_ok.1 g4
      obtain ⟨h8, g6⟩ := R.if_ok.1 g5
      obtain ⟨e, h9, h⟩ := R.bind_ok.1 g6
      clear g3 g4 g5 g6
      simp only [V] at hx
      obtain ⟨p, hp, hx⟩ := hx
      obtain ⟨q, hq, mq, hm1, hm2⟩ := hM.sat id _ hid
      rw [hp] at hq; cases hq
      obtain ⟨q, hq, hh⟩ := hM.sat m _ (mapAt_ok h6)
      rw [hm1] at hq; cases hq
      obtain ⟨ar, har, hel⟩ := hh.el
      have gob : (getObj p.b).run P w = .ok (.mapIter (some mq.b) since seen.toArray last) w := by simp [getObj, Sem.run, hm2]
      obtain ⟨y, hy, y1, y2⟩ := find_el hel b (R.of_ok.1 h9)
      have h8 := Nat.eq_of_beq_eq_true h8
      refine OpPost.pure (v' := .tuple #[y.key, y.val]) hM (by simp only [V]; exact ⟨_, rfl, .cons y1 (.cons y2 .nil)⟩) h ?_
      have hback : seen.toArray.back? = some b := by
        have := R.of_ok.1 h7
        rw [List.back?_toArray]
        exact this
      have hfind : ar.find? (fun y => y.born == b) = some y := by
        rw [← Array.find?_toList]; exact hy
      simp only [execOp, ho, hx]
      rw [run_val]
      unfold Instr.entry
      show ((getObj p.b >>= _ : Sem Value).run P w).andThen _ = _
      rw [Sem.run_bind, gob]
      simp only [Result.andThen_ok, hback]
      rw [Sem.run_bind, run_getObj_map har]
      simp only [Result.andThen_ok]
      rw [if_neg (by simp [h8]), hfind]
      rfl
    · cases g3
  · cases g3

end

end Go.Cx
