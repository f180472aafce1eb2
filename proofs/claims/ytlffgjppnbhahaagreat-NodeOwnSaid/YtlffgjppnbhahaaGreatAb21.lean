/- Functions whose results lie in variables. No program is named here. -/
import Derived.Test.YtlffgjppnbhahaaGreatAb20
set_option linter.unusedSimpArgs false
set_option linter.unusedVariables false
set_option maxHeartbeats 1000000
namespace Go.Ab

/-- What a result is at a function's end. -/
def rvD (P : Program) (st : St) : ResultVar → Option D
  | .tmp t => some (st.tm t)
  | .cell a t => match tyO P t, derefD st.ob (st.tm a) with | some (g, n), some cs => loadD g n cs | _, _ => none

def rvsD (P : Program) (st : St) : List ResultVar → Option (List D)
  | [] => some []
  | x :: l => match rvD P st x, rvsD P st l with | some d, some ds => some (d :: ds) | _, _ => none

def joinD : List D → D
  | [d] => d
  | ds => .tup ds

section
variable {P : Program} {M : En} {H0 H : HV} {w0 w : World} {nt : Nat} {loc : Nat → Loc} {st : St} {a : Act}

theorem run_rv (r : Rel M H0 w0 nt H loc w st a) (F : ResultVar → Sem Value) (h1 : ∀ t, F (.tmp t) = pure (a.tmps.getD t undef)) (h2 : ∀ x t, F (.cell x t) = (do loadVar t (← asAddr (a.tmps.getD x undef)))) :
    ∀ (l : List ResultVar) (ds : List D), rvsD P st l = some ds → ∃ vs : List Value, (l.mapM F).run P w = .ok vs w ∧ vs.length = ds.length ∧ ∀ (i : Nat) v d, vs[i]? = some v → ds[i]? = some d → V H loc st.ob v d
  | [], ds, h => by cases h; exact ⟨[], rfl, rfl, fun i v d h => by simp at h⟩
  | x :: l, ds, h => by
    unfold rvsD at h
    cases hx : rvD P st x with
    | none => rw [hx] at h; cases h
    | some d =>
      rw [hx] at h
      cases hl : rvsD P st l with
      | none => rw [hl] at h; cases h
      | some ds' =>
        rw [hl] at h; cases h
        obtain ⟨vs, g1, g2, g3⟩ := run_rv r F h1 h2 l ds' hl
        have one : ∃ v, (F x).run P w = .ok v w ∧ V H loc st.ob v d := by
          cases x with
          | tmp t => simp only [rvD, Option.some.injEq] at hx; subst hx; exact ⟨_, by rw [h1]; rfl, r.tm t⟩
          | cell x t =>
            simp only [rvD] at hx
            split at hx
            · rename_i g n cs ht hd
              obtain ⟨u, k1, k2⟩ := load_of r.sr (r.tm x) hd ht hx
              obtain ⟨b, o, hv, _⟩ := deref_cells r.sr (r.tm x) hd
              refine ⟨u, ?_, k2⟩
              rw [h2]
              rw [hv] at k1 ⊢
              simpa only [Instr.loadAt, Instr.sureAddr, asAddr, pure_bind] using k1
            · cases hx
        obtain ⟨v, k1, k2⟩ := one
        refine ⟨v :: vs, by simp only [List.mapM_cons, Sem.run_bind, k1, Result.andThen_ok, g1, Sem.run_pure], by simp [g2], fun i v' d' hi hd => ?_⟩
        cases i with
        | zero => simp at hi hd; subst hi; subst hd; exact k2
        | succ i => exact g3 i v' d' (by simpa using hi) (by simpa using hd)

theorem run_results (r : Rel M H0 w0 nt H loc w st a) {fn : Func} {rs : List ResultVar} (hr : fn.results = rs.toArray) {ds : List D} (h : rvsD P st rs = some ds) :
    ∃ v, (results fn a.tmps).run P w = .ok v w ∧ V H loc st.ob v (joinD ds) := by
  obtain ⟨vs, g1, g2, g3⟩ := run_rv (P := P) r (fun | .tmp t => pure (a.tmps.getD t undef) | .cell x t => do loadVar t (← asAddr (a.tmps.getD x undef))) (fun _ => rfl) (fun _ _ => rfl) rs ds h
  unfold results
  rw [hr, List.mapM_toArray]
  simp only [Sem.run_bind, Sem.run_map, Sem.run_pure]
  erw [g1]
  simp only [Result.andThen_ok]
  refine ⟨_, rfl, ?_⟩
  match ds, vs, g2 with
  | [d], [v], _ => exact g3 0 v d rfl rfl
  | [], [], _ => exact .tup #[] [] rfl (fun i v d h1 h2 => by simp at h2)
  | d :: d' :: ds, v :: v' :: vs, g2 =>
    rw [dif_neg (by simp)]
    exact .tup _ _ (by simpa using g2) fun i v d h1 h2 => g3 i v d (by simpa using h1) h2

end

def rvT : ResultVar → Nat
  | .tmp t => t
  | .cell a _ => a

/-- A function that takes and hands out data, some of it by way of variables. -/
theorem acallp_fnv {P : Program} {f : FuncId} {fn : Func} {c : Code} {args : List D} {r : D} (rs : List ResultVar) {n : Nat}
    (hf : P.funcs[f]? = some fn) (hb : fn.body = some c) (hr : fn.results = rs.toArray) (hnt : fn.ntmps = n) (hn : args.length ≤ n)
    (h : ∀ R : Exit → St → Prop, (∀ e st, (e = .ret ∨ e = .normal) → st.n0 = 0 → (rvsD P (st.frz (rs.map rvT) []) rs).map joinD = some r → R e st) → AWp P n c R ⟨ofL (startL 0 args), [], 0⟩) : ACallP P f args r := by
  subst hnt
  rintro H loc w vs hs hvs hv
  refine calls_of_wp hf hb ?_
  let M : Nat → Prop := fun b => ∃ (i : Nat) (o : Ob), ([] : List Ob)[i]? = some o ∧ o.live = true ∧ (loc i).r = true ∧ (loc i).b = b
  have hi : Is ⟨M, [], loc⟩ H w fn.ntmps ⟨ofL (startL 0 args), [], 0⟩ { tmps := vs ++ Array.replicate (fn.ntmps - vs.size) undef, defers := [] } w := by
    refine ⟨H, loc, hs, fun t => ?_, ?_, rfl, Grows.refl _ _ _, fun i o ho => (by cases ho), rfl, fun k o ho => (by cases ho)⟩
    · rw [← startTm_eq]
      simp only [startTm]
      by_cases ht : t < args.length
      · have h1 : args[t]? = some args[t] := List.getElem?_eq_getElem ht
        have h2 : vs[t]? = some vs[t] := Array.getElem?_eq_getElem (by omega)
        have := hv t vs[t] args[t] h2 h1
        have e1 : (vs ++ Array.replicate (fn.ntmps - vs.size) undef).getD t undef = vs[t] := by
          rw [Array.getD_eq_getD_getElem?, Array.getElem?_append_left (by omega), h2]; rfl
        rw [e1, List.getD_eq_getElem?_getD, h1]; exact this
      · have h1 : args.getD t .none = .none := by rw [List.getD_eq_getElem?_getD, List.getElem?_eq_none (by omega)]; rfl
        rw [h1]; exact .none _
    · simp; omega
  refine wp_mono (h (fun e st => (e = .ret ∨ e = .normal) ∧ st.n0 = 0 ∧ (rvsD P (st.frz (rs.map rvT) []) rs).map joinD = some r) (fun e st a b c => ⟨a, b, c⟩) ⟨M, [], loc⟩ H w w _ hi) ?_
  rintro e a' w' ⟨st', ⟨he, hn0, hq⟩, hi'⟩
  obtain ⟨H', loc', r'⟩ := hi'.frz (rs.map rvT) List.nodup_nil (fun k hk => by rw [hn0] at hk; omega)
  cases hds : rvsD P (st'.frz (rs.map rvT) []) rs with
  | none => rw [hds] at hq; cases hq
  | some ds =>
    rw [hds] at hq
    simp only [Option.map_some, Option.some.injEq] at hq
    obtain ⟨v, hv1, hv2⟩ := run_results r' hr hds
    rw [hq] at hv2
    have post : bodyPost P fn (fun e w' => ∃ v H' loc' r1 obs', (r1 = r ∧ obs' = []) ∧ e = .returned v ∧ V H' loc' obs' v r1 ∧ Sr H' loc' obs' w' ∧ Grows M H H' w w' ∧
        (∀ (i : Nat) o, obs'[i]? = some o → o.live = true → (loc' i).r = true → (∃ (k : Nat) (o' : Ob), ([] : List Ob)[k]? = some o' ∧ o'.live = true ∧ (loc k).r = true ∧ (loc k).b = (loc' i).b) ∨ w.heap.size ≤ (loc' i).b) ∧ stays [] obs' loc loc') .ret a' w' :=
      ⟨r'.df, v, hv1, v, H', loc', r, [], ⟨rfl, rfl⟩, rfl, hv2, r'.sr, r'.gr, fun i o ho => (by cases ho), fun k o ho => (by cases ho)⟩
    rcases he with rfl | rfl
    · exact post
    · exact post

attribute [go_sem] rvD rvsD joinD rvT
end Go.Ab
