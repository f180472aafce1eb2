/- The language's own functions, all of them; calls. No program is named here. -/
import Derived.Test.YtlffgjppnbhahaaGreatX16
set_option linter.unusedSimpArgs false
set_option linter.unusedVariables false
set_option maxHeartbeats 1000000
namespace Go.Cx
open Go.MapKept (run_getObj_map run_setObj_map run_findKey bytes_beq heap_set)

section
variable {P : Program} {orb : BinOp → CV → CV → Option CV} {ρ : Nat → Int} {loc loc' : Lc} {s : St} {a : Act} {w : World} {o : Oper} {r : Out}

theorem mm_ok {mx : Bool} {x y v : CV} (h : mm mx x y = .ok v) : ∃ k a k' b, x = .lit (.int k a) ∧ y = .lit (.int k' b) ∧ v = .lit (.int k (bif mx then (bif decide (b > a) then b else a) else (bif decide (b < a) then b else a))) := by
  unfold mm at h
  split at h
  · cases h; exact ⟨_, _, _, _, rfl, rfl, rfl⟩
  · cases h

theorem two {x y : CV} {vs : List Value} (h : VL ρ loc [x, y] vs) : ∃ a b, vs = [a, b] ∧ V ρ loc x a ∧ V ρ loc y b := by
  simp only [VL] at h
  obtain ⟨a, l, rfl, h1, b, l', rfl, h2, rfl⟩ := h
  exact ⟨a, b, rfl, h1, h2⟩

theorem storeCells_nil (ad : Addr) (w : World) : (storeCells ad []).run P w = .ok () w := by
  simp [storeCells]

theorem copy_ok (hM : Mem ρ loc s.hp.get w) {ts : Array TypeId} {as : Array Value} {t tx ty : TypeId} {x y : CV} {vx vy : Value} (ht0 : ts[0]? = some t) (hx0 : as[0]? = some vx) (hy0 : as[1]? = some vy) (hx : V ρ loc x vx) (hy : V ρ loc y vy)
    {ei : TI} (h1 : elemI P t = .ok ei) {c : Nat × List CV} (h3 : argsCells ei.size s.hp y = .ok c) (h : (match x with
    | .sl id st off len _ _ => bif Nat.beq (min c.1 len) 0 then Out.pure s (intV 0) else
      R.if "stride" (Nat.beq st ei.size) ((wr s.hp id off (c.2.take (min c.1 len * st))).bind fun hp => .ok (.val (intV (min c.1 len)) hp s.nx))
    | .lit v => (nilLen v).bind fun _ => Out.pure s (intV 0)
    | _ => .no "copy") = .ok r) : ValPost ρ loc s w r ((Builtin.copy_ ts ty as).run P w) := by
  obtain ⟨i, e, t1, t2, t3⟩ := elemI_ok h1
  have ht := t1.und
  rw [t2] at ht
  obtain ⟨news, hs, hv, ⟨b, l, k, rfl, hl⟩, hpart⟩ := args_ok hM h3 hy ht
  have hu := t1.underlying w
  rw [t2] at hu
  have hsz := t3.sizeOf w
  have run : ∀ {base : Option Addr} {len cap : Nat} {R' : Result Value}, vx = .slice base len cap → (((match base with
      | some a => storeCells a (news.take (min c.1 len * ei.size))
      | none => pure () : Sem Unit).run P w).andThen fun _ w => .ok (goInt (min c.1 len : Nat)) w) = R' → (Builtin.copy_ ts ty as).run P w = R' := by
    rintro base len cap R' rfl hR
    have hf := hpart (min c.1 len) (Nat.min_le_left _ _)
    rw [← hR]
    have hl' : Nat.min l len = min c.1 len := by rw [hl]
    unfold Builtin.copy_
    simp only [ht0, hx0, hy0]
    rw [Sem.run_bind, hu]
    simp only [Result.andThen_ok, Builtin.lenOf, pure_bind]
    rw [Sem.run_bind, hsz]
    simp only [Result.andThen_ok, hl']
    rw [Sem.run_bind, hf]
    simp only [Result.andThen_ok]
    cases base <;> first | rfl | (rw [Sem.run_bind]; rfl)
  cases x with
  | lit v =>
    obtain ⟨_, g1, h⟩ := R.bind_ok.1 h
    obtain ⟨rfl, _⟩ := nilLen_ok g1
    simp only [V] at hx
    subst hx
    exact ValPost.pure hM (v' := .int .i64 0) (by simp [intV, V]) h (run rfl (by simp [goInt]))
  | sl id st off len cap ex =>
    simp only [V] at hx
    obtain ⟨p, ad, k', hp, rfl, hc1, hc2, hc3, hc4⟩ := hx
    dsimp only at h
    cases h0 : Nat.beq (min c.1 len) 0 with
    | true =>
      rw [h0, cond_true] at h
      have h0 := Nat.eq_of_beq_eq_true h0
      refine ValPost.pure hM (v' := .int .i64 0) (by simp [intV, V]) h (run rfl ?_)
      rw [h0]
      simp [storeCells_nil, goInt]
    | false =>
      rw [h0, cond_false] at h
      have h0 := Nat.ne_of_beq_eq_false h0
      obtain ⟨g1, h⟩ := R.if_ok.1 h
      obtain ⟨hp', g2, h⟩ := R.bind_ok.1 h
      cases h
      have g1 := Nat.eq_of_beq_eq_true g1
      subst g1
      have had : ad = ⟨p.b, p.o + off, none⟩ := by
        rcases hc4 with h' | h'
        · omega
        · exact h'.1
      obtain ⟨w', g3, g4⟩ := wr_ok (P := P) (nx := s.nx) hM g2 hp (hv.take (min c.1 len * ei.size))
      refine ⟨_, _, _, rfl, fun _ => ⟨.int .i64 (min c.1 len : Nat), w', loc, run rfl ?_, by simp [intV, V], g4⟩⟩
      rw [had]
      dsimp only
      rw [g3]
      rfl
  | _ => cases h

theorem clear_ok (hM : Mem ρ loc s.hp.get w) {ts : Array TypeId} {as : Array Value} {t ty : TypeId} {x : CV} {vx : Value} (ht0 : ts[0]? = some t) (hx0 : as[0]? = some vx) (hx : V ρ loc x vx) {ei : TI} (h1 : elemI P t = .ok ei)
    (h : (match x with
    | .sl id st off len _ _ => bif Nat.beq len 0 then Out.pure s none' else
      R.if "stride" (Nat.beq st ei.size) ((wr s.hp id off (repL ei.zero len)).bind fun hp => .ok (.val none' hp s.nx))
    | .lit v => (nilLen v).bind fun _ => Out.pure s none'
    | _ => .no "clear") = .ok r) : ValPost ρ loc s w r ((Builtin.clear_ ts ty as).run P w) := by
  obtain ⟨i, e, t1, t2, t3⟩ := elemI_ok h1
  have hu := t1.underlying w
  rw [t2] at hu
  obtain ⟨z, z1, z2, z3⟩ := t3.zeroValue w
  cases x with
  | lit v =>
    obtain ⟨_, g1, h⟩ := R.bind_ok.1 h
    obtain ⟨rfl, _⟩ := nilLen_ok g1
    simp only [V] at hx
    subst hx
    refine ValPost.pure hM (v' := .tuple #[]) (by simp [none', V]) h ?_
    unfold Builtin.clear_
    simp only [ht0, hx0]
    rw [Sem.run_bind, hu]
    rfl
  | sl id st off len cap ex =>
    simp only [V] at hx
    obtain ⟨p, ad, k', hp, rfl, hc1, hc2, hc3, hc4⟩ := hx
    dsimp only at h
    cases h0 : Nat.beq len 0 with
    | true =>
      rw [h0, cond_true] at h
      have h0 := Nat.eq_of_beq_eq_true h0
      subst h0
      refine ValPost.pure hM (v' := .tuple #[]) (by simp [none', V]) h ?_
      unfold Builtin.clear_
      simp only [ht0, hx0]
      rw [Sem.run_bind, hu]
      rfl
    | false =>
      rw [h0, cond_false] at h
      have h0 := Nat.ne_of_beq_eq_false h0
      obtain ⟨g1, h⟩ := R.if_ok.1 h
      obtain ⟨hp', g2, h⟩ := R.bind_ok.1 h
      cases h
      have g1 := Nat.eq_of_beq_eq_true g1
      subst g1
      have had : ad = ⟨p.b, p.o + off, none⟩ := by
        rcases hc4 with h' | h'
        · omega
        · exact h'.1
      have hz : VL ρ loc (repL ei.zero len) (Builtin.zeroCells z.cells len).toList := by
        rw [z2]
        exact rep_cells z.cells len
      obtain ⟨w', g3, g4⟩ := wr_ok (P := P) (nx := s.nx) hM g2 hp hz
      refine ⟨_, _, _, rfl, fun _ => ⟨.tuple #[], w', loc, ?_, by simp [none', V], g4⟩⟩
      cases len with
      | zero => omega
      | succ len =>
        unfold Builtin.clear_
        simp only [ht0, hx0]
        rw [Sem.run_bind, hu]
        simp only [Result.andThen_ok]
        rw [Sem.run_bind, z1]
        simp only [Result.andThen_ok, had]
        rw [Sem.run_bind, g3]
        rfl
  | _ => cases h

theorem delete_ok (hO : OraOk ρ orb) (hM : Mem ρ loc s.hp.get w) {ts : Array TypeId} {as : Array Value} {t ty : TypeId} {x k : CV} {vx vk : Value} (ht0 : ts[0]? = some t) (hx0 : as[0]? = some vx) (hk0 : as[1]? = some vk) (hx : V ρ loc x vx) (hk : V ρ loc k vk)
    {ki : TI × TypeId} (h1 : keyI P t = .ok ki) (h : (match x with
    | .mp id => R.if "delete: key" (isKey ki.1.desc k) ((mapAt s.hp id).bind fun m => (findM orb k m.1).bind fun o => match o with
      | some p => R.ok (Out.val none' (s.hp.set id (.map (m.1.eraseIdx p.1) m.2)) s.nx)
      | none => Out.pure s none')
    | _ => .no "delete") = .ok r) : ValPost ρ loc s w r ((Builtin.delete_ ts ty as).run P w) := by
  obtain ⟨i, kt, t1, t2, t3⟩ := keyI_ok h1
  have hu := t1.underlying w
  rw [t2] at hu
  cases x with
  | mp id =>
    obtain ⟨h5, g5⟩ := R.if_ok.1 h
    obtain ⟨mc, h6, g6⟩ := R.bind_ok.1 g5
    obtain ⟨f, h7, g7⟩ := R.bind_ok.1 g6
    clear h g5 g6
    have h := g7
    clear g7
    simp only [V] at hx
    obtain ⟨p, hp, rfl⟩ := hx
    obtain ⟨q, hq, hh⟩ := hM.sat id _ (mapAt_ok h6)
    rw [hp] at hq; cases hq
    obtain ⟨ar, har, hel⟩ := hh.el
    have hck := key_checked (w := w) t3 h5 hk ar.isEmpty 9999
    have run : ∀ {f : Option (Nat × Value)} {R' : Result Value}, Instr.findNow ki.1.desc vk ar.toList 0 = some f → (((match f with
        | some (i, _) => setObj p.b (.map (ar.eraseIdxIfInBounds i) mc.2)
        | none => setObj p.b (.map ar mc.2) : Sem Unit).run P w).andThen fun _ w => .ok (.tuple #[]) w) = R' → (Builtin.delete_ ts ty as).run P w = R' := by
      intro f R' hf hR
      rw [← hR]
      unfold Builtin.delete_
      simp only [ht0, hx0, hk0]
      rw [Sem.run_bind, hu]
      simp only [Result.andThen_ok]
      rw [Sem.run_bind, run_getObj_map har]
      simp only [Result.andThen_ok]
      rw [Sem.run_bind, hck]
      simp only [Result.andThen_ok]
      rw [Sem.run_bind, run_findKey t3.und hf]
      simp only [Result.andThen_ok]
      cases f <;> (dsimp only; rw [Sem.run_bind]; rfl)
    rcases find_ok hO h5 hk 0 h7 hel with ⟨rfl, f1⟩ | ⟨j, c, e, rfl, f1, f2, f3, f4, f5⟩
    · cases h
      refine ⟨_, _, _, rfl, fun _ => ⟨.tuple #[], { w with heap := w.heap.setIfInBounds p.b (.map ar mc.2) }, loc, run f1 ?_, by simp [none', V], ?_⟩⟩
      · dsimp only
        rw [run_setObj_map _ har]
        rfl
      · obtain ⟨q1, q2⟩ := heap_set (o' := .map ar mc.2) har
        refine Step.upd hM (mapAt_ok h6) hp (fun b hb => q2 b hb) (by simp) rfl rfl rfl (o' := .map mc.1 mc.2) (Holds.of_el q1 hel) (fun j => ?_)
        split
        · rename_i e; subst e; exact mapAt_ok h6
        · rfl
    · cases h
      refine ⟨_, _, _, rfl, fun _ => ⟨.tuple #[], _, loc, run f2 ?_, by simp [none', V], map_set hM h6 hp har (ar' := ar.eraseIdxIfInBounds j) (c := mc.2) ?_ _⟩⟩
      · dsimp only
        rw [Nat.zero_add, run_setObj_map _ har]
        rfl
      · have := hel.erase j
        have e1 : (ar.eraseIdxIfInBounds j).toList = ar.toList.eraseIdx j := by
          unfold Array.eraseIdxIfInBounds
          split
          · simp
          · rename_i hj
            rw [List.eraseIdx_of_length_le (by simpa using hj)]
        rw [e1]
        exact this
  | _ => cases h

theorem len_ok (hM : Mem ρ loc s.hp.get w) {ts : Array TypeId} {as : Array Value} {t ty : TypeId} {x : CV} {vx : Value} (ht0 : ts[0]? = some t) (hx0 : as[0]? = some vx) (hx : V ρ loc x vx) {i : TI} (h1 : tiOf P t = .ok i) {n : Nat}
    (h2 : lenV s.hp i.desc x = .ok n) (h : Out.pure s (intV n) = .ok r) : ValPost ρ loc s w r ((Builtin.len_ ts ty as).run P w) := by
  have hu := (tiOf_ok h1).underlying w
  refine ValPost.pure hM (v' := .int .i64 n) (by simp [intV, V]) h ?_
  unfold Builtin.len_
  simp only [ht0, hx0]
  rw [Sem.run_bind, hu]
  simp only [Result.andThen_ok]
  unfold lenV at h2
  split at h2
  · simp only [V] at hx
    subst hx
    split at h2
    · split at h2
      · rename_i hd; cases h2; rw [hd]; rfl
      · cases h2
    · split at h2
      · rename_i hd; cases h2; rw [hd]; rfl
      · cases h2
    · split at h2
      · rename_i hd; cases h2; rw [hd]; rfl
      · cases h2
    · cases h2
  · simp only [V] at hx
    obtain ⟨p, ad, k', hp, rfl, _⟩ := hx
    split at h2
    · rename_i hd; cases h2; rw [hd]; rfl
    · cases h2
  · rename_i id
    split at h2
    · rename_i hd
      obtain ⟨mc, h6, h2⟩ := R.bind_ok.1 h2
      cases h2
      simp only [V] at hx
      obtain ⟨p, hp, rfl⟩ := hx
      obtain ⟨q, hq, hh⟩ := hM.sat id _ (mapAt_ok h6)
      rw [hp] at hq; cases hq
      obtain ⟨ar, har, hsz, _⟩ := hh
      rw [hd]
      dsimp only
      rw [Sem.run_bind, run_getObj_map har]
      simp only [Result.andThen_ok]
      rw [← hsz]
      rfl
    · cases h2
  · cases h2

end

end Go.Cx
