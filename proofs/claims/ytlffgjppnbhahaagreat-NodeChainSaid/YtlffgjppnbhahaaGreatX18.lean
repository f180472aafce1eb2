/- Calls; and every operation: what the executor says of it is so. No program is named here. -/
import Derived.Test.YtlffgjppnbhahaaGreatX17
set_option linter.unusedSimpArgs false
set_option linter.unusedVariables false
set_option maxHeartbeats 1000000
namespace Go.Cx

section
variable {P : Program} {orb : BinOp → CV → CV → Option CV} {ρ : Nat → Int} {loc loc' : Lc} {s : St} {a : Act} {w : World} {o : Oper} {r : Out}

theorem run_callFunc {g : FuncId} (h : okF P g = true) (vs : Array Value) : (callFunc g vs).run P w = .ok (.enter g vs) w := by
  unfold okF at h
  split at h
  · rename_i fn hf
    rw [Bool.and_eq_true] at h
    unfold callFunc
    rw [Sem.run_bind, run_program]
    simp only [Result.andThen_ok, hf]
    rw [if_neg (by simpa using h.2), if_neg (by simpa [Option.isNone_iff_eq_none, Option.isSome_iff_ne_none] using h.1)]
    rfl
  · cases h

theorem ValPost.op {res : Result Value} (h : ValPost ρ loc s w r res) {res' : Result Next} (he : res' = res.andThen fun v w => .ok (.value v) w) : OpPost ρ loc s w r res' := by
  obtain ⟨v, hp, nx, rfl, h⟩ := h
  intro hf
  obtain ⟨v', w', loc', e, h1, h2⟩ := h hf
  exact ⟨v', w', loc', .inl (by rw [he, e]; rfl), h1, h2⟩

theorem o_call (hO : OraOk ρ orb) (hT : TmOk ρ loc s.tm a) (hM : Mem ρ loc s.hp.get w) {c : Call} (ho : o.op = .call c) (h : execO P orb s o.op = .ok r) : OpPost ρ loc s w r ((execOp a.eval o).run P w) := by
  rw [ho] at h
  obtain ⟨args, h1, h2⟩ := R.bind_ok.1 h
  clear h
  have hargs := evL_ok hT h1
  have hal : (c.args.map a.eval).toList = c.args.toList.map a.eval := by simp
  have arg : ∀ {i : Nat} {x : CV}, args[i]? = some x → ∃ u, (c.args.map a.eval)[i]? = some u ∧ V ρ loc x u := fun hx => by
    obtain ⟨u, e1, e2⟩ := hargs.get hx
    exact ⟨u, by rw [← Array.getElem?_toList, hal]; exact e1, e2⟩
  cases hc : c.callee with
  | builtin b =>
    rw [hc] at h2
    have hrun : (execOp a.eval o).run P w = (builtin b c.argTypes o.type (c.args.map fun | .const _ => true | _ => false) (c.args.map a.eval)).run P w := by
      simp only [execOp, ho, resolve, hc, pure_bind, invoke]
      rfl
    rw [hrun]
    have tsl : ∀ {i : Nat} {t : TypeId}, c.argTypes.toList[i]? = some t → c.argTypes[i]? = some t := fun h => by simpa using h
    cases b with
    | len =>
      obtain ⟨x, g1, h3⟩ := R.bind_ok.1 h2
      obtain ⟨t, g2, h4⟩ := R.bind_ok.1 h3
      obtain ⟨i, g3, h5⟩ := R.bind_ok.1 h4
      obtain ⟨n, g4, h6⟩ := R.bind_ok.1 h5
      obtain ⟨u, u1, u2⟩ := arg (R.of_ok.1 g1)
      exact (len_ok (ty := o.type) hM (tsl (R.of_ok.1 g2)) u1 u2 g3 g4 h6).op (run_val _ _)
    | max =>
      simp only [builtinV] at h2
      split at h2
      · obtain ⟨v, g1, h3⟩ := R.bind_ok.1 h2
        obtain ⟨k, p, k', q, rfl, rfl, rfl⟩ := mm_ok g1
        obtain ⟨u, v, e, u1, u2⟩ := two hargs
        simp only [V] at u1 u2
        subst u1 u2
        refine (ValPost.pure (res := (Builtin.max_ c.argTypes o.type (c.args.map a.eval)).run P w) hM (v' := .int k (if q > p then q else p)) ?_ h3 ?_).op (run_val _ _)
        · simp only [V, cond_true]
          by_cases hq : q > p <;> simp [hq]
        · unfold Builtin.max_
          rw [hal, e]
          rfl
      · cases h2
    | min =>
      simp only [builtinV] at h2
      split at h2
      · obtain ⟨v, g1, h3⟩ := R.bind_ok.1 h2
        obtain ⟨k, p, k', q, rfl, rfl, rfl⟩ := mm_ok g1
        obtain ⟨u, v, e, u1, u2⟩ := two hargs
        simp only [V] at u1 u2
        subst u1 u2
        refine (ValPost.pure (res := (Builtin.min_ c.argTypes o.type (c.args.map a.eval)).run P w) hM (v' := .int k (if q < p then q else p)) ?_ h3 ?_).op (run_val _ _)
        · simp only [V, cond_false]
          by_cases hq : q < p <;> simp [hq]
        · unfold Builtin.min_
          rw [hal, e]
          rfl
      · cases h2
    | append =>
      obtain ⟨x, g1, h3⟩ := R.bind_ok.1 h2
      obtain ⟨y, g2, h4⟩ := R.bind_ok.1 h3
      obtain ⟨t, g3, h5⟩ := R.bind_ok.1 h4
      obtain ⟨tx, g4, h6⟩ := R.bind_ok.1 h5
      obtain ⟨ei, g5, h7⟩ := R.bind_ok.1 h6
      obtain ⟨ui, g6, h8⟩ := R.bind_ok.1 h7
      obtain ⟨cc, g7, h9⟩ := R.bind_ok.1 h8
      obtain ⟨u, u1, u2⟩ := arg (R.of_ok.1 g1)
      obtain ⟨v, v1, v2⟩ := arg (R.of_ok.1 g2)
      refine (append_ok (ty := o.type) hM u2 v2 g5 g6 g7 h9).op ?_
      have : Builtin.append_ c.argTypes o.type (c.args.map a.eval) = Builtin.append_ #[t, tx] o.type #[u, v] := by
        unfold Builtin.append_
        rw [tsl (R.of_ok.1 g3), tsl (R.of_ok.1 g4), u1, v1]
        rfl
      rw [← this]
      exact run_val _ _
    | copy =>
      obtain ⟨x, g1, h3⟩ := R.bind_ok.1 h2
      obtain ⟨y, g2, h4⟩ := R.bind_ok.1 h3
      obtain ⟨t, g3, h5⟩ := R.bind_ok.1 h4
      obtain ⟨ei, g5, h6⟩ := R.bind_ok.1 h5
      obtain ⟨cc, g7, h7⟩ := R.bind_ok.1 h6
      obtain ⟨u, u1, u2⟩ := arg (R.of_ok.1 g1)
      obtain ⟨v, v1, v2⟩ := arg (R.of_ok.1 g2)
      exact (copy_ok (tx := t) (ty := o.type) hM (tsl (R.of_ok.1 g3)) u1 v1 u2 v2 g5 g7 h7).op (run_val _ _)
    | clear =>
      obtain ⟨x, g1, h3⟩ := R.bind_ok.1 h2
      obtain ⟨t, g3, h4⟩ := R.bind_ok.1 h3
      obtain ⟨ei, g5, h5⟩ := R.bind_ok.1 h4
      obtain ⟨u, u1, u2⟩ := arg (R.of_ok.1 g1)
      exact (clear_ok (ty := o.type) hM (tsl (R.of_ok.1 g3)) u1 u2 g5 h5).op (run_val _ _)
    | delete =>
      obtain ⟨x, g1, h3⟩ := R.bind_ok.1 h2
      obtain ⟨k, g2, h4⟩ := R.bind_ok.1 h3
      obtain ⟨t, g3, h5⟩ := R.bind_ok.1 h4
      obtain ⟨ki, g5, h6⟩ := R.bind_ok.1 h5
      obtain ⟨u, u1, u2⟩ := arg (R.of_ok.1 g1)
      obtain ⟨v, v1, v2⟩ := arg (R.of_ok.1 g2)
      cases x with
      | mp id => exact (delete_ok (ty := o.type) hO hM (tsl (R.of_ok.1 g3)) u1 v1 u2 v2 g5 h6).op (run_val _ _)
      | _ => cases h6
    | _ => cases h2
  | value f =>
    rw [hc] at h2
    obtain ⟨v, g1, h3⟩ := R.bind_ok.1 h2
    have hv := evO_ok hT g1
    split at h3
    · obtain ⟨g2, h4⟩ := R.if_ok.1 h3
      cases h4
      simp only [V] at hv
      obtain ⟨x, y, e, v1, v2⟩ := hv
      refine ⟨x ++ c.args.map a.eval ++ y, ?_, ?_⟩
      · simp only [execOp, ho, resolve, hc, Deferred.ofValue, e, pure_bind, invoke]
        exact run_callFunc g2 _
      · simp only [Array.toList_append, hal]
        exact (v1.append hargs).append v2
    · cases h3
  | invoke rc name =>
    rw [hc] at h2
    obtain ⟨v, g1, h3⟩ := R.bind_ok.1 h2
    have hv := evO_ok hT g1
    split at h3
    · rename_i t x
      obtain ⟨f, g2, h4⟩ := R.bind_ok.1 h3
      obtain ⟨g3, h5⟩ := R.if_ok.1 h4
      cases h5
      simp only [V] at hv
      obtain ⟨u, e, u1⟩ := hv
      refine ⟨#[u] ++ c.args.map a.eval, ?_, ?_⟩
      · simp only [execOp, ho, resolve, hc, pure_bind, invoke]
        have h0 : (#[a.eval rc] ++ c.args.map a.eval)[0]? = some (a.eval rc) := by
          rw [Array.getElem?_append_left (by simp)]; rfl
        rw [h0]
        have h1 : (#[a.eval rc] ++ c.args.map a.eval).extract 1 (#[a.eval rc] ++ c.args.map a.eval).size = c.args.map a.eval := by
          apply Array.ext'
          simp
          rw [List.take_of_length_le (by simp)]
        rw [h1, e]
        unfold callMethod
        dsimp only
        rw [Sem.run_bind, run_program]
        simp only [Result.andThen_ok]
        rw [Sem.run_bind, show P.types.size + Made.depth = (P.types.size + 99) + 1 from rfl, run_method (methodP_ok g2) u _ w]
        simp only [Result.andThen_ok]
        exact run_callFunc g3 _
      · simp only [Array.toList_append, hal]
        exact .cons u1 hargs
    · cases h3

theorem exec_ok (hO : OraOk ρ orb) (hT : TmOk ρ loc s.tm a) (hM : Mem ρ loc s.hp.get w) (h : execO P orb s o.op = .ok r) : OpPost ρ loc s w r ((execOp a.eval o).run P w) := by
  cases ho : o.op with
  | move x => exact o_move hT hM (.inl ho) h
  | assign x => exact o_move hT hM (.inr ho) h
  | pick c x y => exact o_pick hT hM ho h
  | alloc t => exact o_alloc hT hM ho h
  | box t x => exact o_box hT hM ho h
  | build t ps => exact o_build hT hM ho h
  | buildSlice t n ps => exact o_buildSlice hT hM ho h
  | load t x => exact o_load hT hM ho h
  | store t x y => exact o_store hT hM ho h
  | nilCheck x => exact o_nilCheck hT hM ho h
  | binOp op t x y t' => exact o_binOp hO hT hM ho h
  | unOp op t x => exact o_unOp hT hM ho h
  | convert t d x => exact o_convert hO hT hM ho h
  | makeInterface t x => exact o_makeInterface hT hM ho h
  | makeFunc f fi ca => exact o_makeFunc hT hM ho h
  | makeMap t x => exact o_makeMap hT hM ho h
  | slice t x lo hi mx => exact o_slice hT hM ho h
  | fieldAddr t x f => exact o_fieldAddr hT hM ho h
  | indexAddr t x ix => exact o_indexAddr hT hM ho h
  | index t x ix => exact o_index hT hM ho h
  | lookup t m k ok => exact o_lookup hO hT hM ho h
  | mapUpdate t m k x => exact o_mapUpdate hO hT hM ho h
  | range t x => exact o_range hT hM ho h
  | next x st => exact o_next hT hM ho h
  | entry x => exact o_entry hT hM ho h
  | extract x i => exact o_extract hT hM ho h
  | call c => exact o_call hO hT hM ho h
  | _ => rw [ho] at h; cases h

end

end Go.Cx
