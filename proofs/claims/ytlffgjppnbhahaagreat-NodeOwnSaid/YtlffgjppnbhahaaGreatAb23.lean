/- Contracts that leave the result open; calls that hand back new objects. No program is named here. -/
import Derived.Test.YtlffgjppnbhahaaGreatAb22
set_option linter.unusedSimpArgs false
set_option linter.unusedVariables false
set_option maxHeartbeats 1000000
namespace Go.Ab

/-- A function that takes data and hands out data of which something is known. -/
def ACallR (P : Program) (f : FuncId) (args : List D) (Qr : D → Prop) : Prop := ACalls P f args [] fun r obs' => Qr r ∧ obs' = []

theorem ACallP.r {P : Program} {f : FuncId} {args : List D} {r : D} (h : ACallP P f args r) : ACallR P f args (· = r) := h

theorem acallr_fn {P : Program} {f : FuncId} {fn : Func} {c : Code} {args : List D} {Qr : D → Prop} (ts : List Nat) {n : Nat}
    (hf : P.funcs[f]? = some fn) (hb : fn.body = some c) (hr : fn.results = (ts.map ResultVar.tmp).toArray) (hnt : fn.ntmps = n) (hn : args.length ≤ n)
    (h : ∀ R : Exit → St → Prop, (∀ e st, (e = .ret ∨ e = .normal) → st.n0 = 0 → Qr (resD (st.frz ts []) ts) → R e st) → AWp P n c R ⟨ofL (startL 0 args), [], 0⟩) : ACallR P f args Qr := by
  refine acalls_fn ts hf hb hr hnt hn (fun o ho => by cases ho) fun R h1 h2 => ?_
  have := h (fun e st => ((e = .ret ∨ e = .normal) ∧ st.n0 = 0 ∧ Qr (resD (st.frz ts []) ts))) (fun e st a b c => ⟨a, b, c⟩)
  intro M H0 w0 w a hi
  refine wp_mono (this M H0 w0 w a hi) ?_
  rintro e a' w' ⟨st', ⟨he, hn0, hq⟩, hi'⟩
  refine ⟨st'.frz ts [], ?_, hi'.frz ts List.nodup_nil (fun k hk => by rw [hn0] at hk; omega)⟩
  rcases he with rfl | rfl
  · exact h1 _ ⟨hq, rfl⟩
  · exact h2 _ ⟨hq, rfl⟩

section
variable {P : Program} {f : FuncId} {caps args : List D} {st : St} {K : D → St → Prop}

theorem acall_r {args' : List D} {Qr : D → Prop} (hc : ∀ args w, (callFunc f args).run P w = .ok (.enter f args) w) (h : ACallR P f args' Qr) (e : (args ++ caps).map (D.map (ren1 [])) = args') (k : ∀ r, Qr r → K (D.map (back [] st.ob.length) r) st) : AC P st (.fn f caps) args K := by
  subst e
  refine .mk ⟨hc, [], _, List.nodup_nil, fun i hi => (by cases hi), .inl ⟨h, ?_⟩⟩
  rintro r' obs' ⟨hq, rfl⟩
  refine ⟨Nat.le_refl _, ?_⟩
  simpa [merge, setAll] using k r' hq

/-- A call that hands back new objects. -/
theorem acall_new {args' : List D} {Q : D → List Ob → Prop} (hc : ∀ args w, (callFunc f args).run P w = .ok (.enter f args) w) (h : ACalls P f args' [] Q) (e : (args ++ caps).map (D.map (ren1 [])) = args')
    (k : ∀ r obs', Q r obs' → K (D.map (back [] st.ob.length) r) ⟨st.tm, st.ob ++ obs'.map (renOb (back [] st.ob.length)), st.n0⟩) : AC P st (.fn f caps) args K := by
  subst e
  refine .mk ⟨hc, [], _, List.nodup_nil, fun i hi => (by cases hi), .inl ⟨h, ?_⟩⟩
  rintro r' obs' hq
  refine ⟨Nat.zero_le _, ?_⟩
  simpa [merge, setAll] using k r' obs' hq

end

/-- A function that hands out new objects, by its body: what it hands out is told by temporaries and a list of objects. -/
theorem acalln_fn {P : Program} {f : FuncId} {fn : Func} {c : Code} {args : List D} {Q : D → List Ob → Prop} (ts : List Nat) {n : Nat}
    (hf : P.funcs[f]? = some fn) (hb : fn.body = some c) (hr : fn.results = (ts.map ResultVar.tmp).toArray) (hnt : fn.ntmps = n) (hn : args.length ≤ n)
    (h : ∀ R : Exit → St → Prop, (∀ e st (ids : List Nat), (e = .ret ∨ e = .normal) → st.n0 = 0 → ids.Nodup → Q (resD (st.cut ts ids) ts) (st.cut ts ids).ob → R e st) → AWp P n c R ⟨ofL (startL 0 args), [], 0⟩) : ACalls P f args [] Q := by
  refine acalls_fn ts hf hb hr hnt hn (fun o ho => by cases ho) fun R h1 h2 => ?_
  have := h (fun e st => ∃ ids : List Nat, ((e = .ret ∨ e = .normal) ∧ st.n0 = 0 ∧ ids.Nodup ∧ Q (resD (st.cut ts ids) ts) (st.cut ts ids).ob)) (fun e st ids a b c d => ⟨ids, a, b, c, d⟩)
  intro M H0 w0 w a hi
  refine wp_mono (this M H0 w0 w a hi) ?_
  rintro e a' w' ⟨st', ⟨ids, he, hn0, hd, hq⟩, hi'⟩
  refine ⟨st'.cut ts ids, ?_, hi'.cut ts hd (fun k hk => by rw [hn0] at hk; omega)⟩
  rcases he with rfl | rfl
  · exact h1 _ hq
  · exact h2 _ hq


/-- A nil slice, as a slice without elements. -/
def soft : D → D
  | .nil => .p (.sl [])
  | d => d

theorem V.soft {H : HV} {loc : Nat → Loc} {obs : List Ob} {v : Value} {d : D} (h : V H loc obs v d) : V H loc obs v (D.map soft d) :=
  h.mapOk (ok := fun _ => True) (fun v d h _ _ _ _ => by
    cases d <;> first | exact h | skip
    cases h
    exact .p _ _ (.none _ _)) (D.all_true d)

theorem ACalls.soft {P : Program} {f : FuncId} {args : List D} {obs : List Ob} {Q : D → List Ob → Prop} (h : ACalls P f (args.map (D.map Ab.soft)) obs Q) : ACalls P f args obs Q := by
  intro H loc w vs hs hn hv
  refine h H loc w vs hs (by simpa using hn) fun i v d h1 h2 => ?_
  rw [List.getElem?_map] at h2
  cases hx : args[i]? with
  | none => rw [hx] at h2; cases h2
  | some x => rw [hx] at h2; cases h2; exact (hv i v x h1 hx).soft

theorem ACallP.soft {P : Program} {f : FuncId} {args args' : List D} {r : D} (h : ACallP P f args' r) (e : args.map (D.map Ab.soft) = args') : ACallP P f args r := by
  subst e
  exact ACalls.soft h


theorem awp_seq_kc {P : Program} {nt : Nat} {Q : Exit → St → Prop} {st : St} {x y : Code} (h : ∀ K : St → Prop, (∀ s, AWp P nt y Q s → K s) →
    (∀ s ts ids, ids.Nodup → (∀ k, k < s.n0 → ids[k]? = some k) → K (s.cut ts ids) → K s) → AWp P nt x (andThen K Q) st) : AWp P nt (.seq x y) Q st :=
  awp_seq (h _ (fun _ h => h) (fun _ ts ids hd hp h => awp_cut ts ids hd hp h))

end Go.Ab
