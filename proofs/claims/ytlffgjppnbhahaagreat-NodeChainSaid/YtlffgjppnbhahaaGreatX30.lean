/- Code in parts: from states that are written down. No program is named here. -/
import Derived.Test.YtlffgjppnbhahaaGreatX29
import Derived.Below
set_option linter.unusedSimpArgs false
set_option linter.unusedVariables false
set_option maxHeartbeats 1000000
namespace Go.Cx

section
variable {P : Program} {orb : BinOp → CV → CV → Option CV} {ρ : Nat → Int} {call : Callee} {draw : List Oper → St → R St} {lp : Loops} {fuel nt : Nat}

/-- Where code leads to. -/
def Ex (P : Program) (ρ : Nat → Int) (nt : Nat) (c : Code) (s : St) (good : Exit → St → Prop) : Prop :=
  ∀ loc a w, TmOk ρ loc s.tm a → Mem ρ loc s.hp.get w → FreeAll loc s.nx → ActOk nt a → c.wp P (fun e a' w' => ∃ s', good e s' ∧ Post ρ nt loc s.hp.get s.nx w s' a' w') a w

/-- Rounds of a loop. -/
def ExR (P : Program) (ρ : Nat → Int) (nt : Nat) (b : Code) (s : St) (n : Nat) (good : Exit → St → Prop) : Prop :=
  ∀ loc a w, TmOk ρ loc s.tm a → Mem ρ loc s.hp.get w → FreeAll loc s.nx → ActOk nt a → ∀ Q : Exit → Act → World → Prop, (∀ e a' w' s', good e s' → Post ρ nt loc s.hp.get s.nx w s' a' w' → Q e a' w') → Code.rounds P b Q n a w

structure Sound (P : Program) (ρ : Nat → Int) (nt : Nat) (orb : BinOp → CV → CV → Option CV) (call : Callee) (draw : List Oper → St → R St) (lp : Loops) : Prop where
  o : OraOk ρ orb
  c : CallOk P ρ call
  d : DrawOk P ρ nt draw
  l : LoopOk P ρ nt lp

theorem ex_run (S : Sound P ρ nt orb call draw lp) {c : Code} {s s' : St} {e : Exit} (h : execC P orb call draw lp fuel c s = .ok (e, s')) (hd : dstC nt c = true) : Ex P ρ nt c s fun e' s'' => e' = e ∧ s'' = s' :=
  fun loc a w hT hM hf ha => wp_mono (code_ok S.o S.c S.d S.l fuel c s e s' h hd loc a w hT hM hf ha) fun _ _ _ ⟨h1, h2⟩ => ⟨s', ⟨h1, rfl⟩, h2⟩

theorem ex_mono {c : Code} {s : St} {g g' : Exit → St → Prop} (h : Ex P ρ nt c s g) (hg : ∀ e s', g e s' → g' e s') : Ex P ρ nt c s g' :=
  fun loc a w hT hM hf ha => wp_mono (h loc a w hT hM hf ha) fun _ _ _ ⟨s', h1, h2⟩ => ⟨s', hg _ _ h1, h2⟩

theorem ex_seq {x y : Code} {s : St} {good : Exit → St → Prop} (h : Ex P ρ nt x s fun e s1 => e = .normal ∧ Ex P ρ nt y s1 good) : Ex P ρ nt (.seq x y) s good := by
  intro loc a w hT hM hf ha
  refine wp_seq (wp_mono (h loc a w hT hM hf ha) ?_)
  rintro e a' w' ⟨s1, ⟨rfl, h2⟩, loc', p1, p2, p3, p4⟩
  refine wp_mono (h2 loc' a' w' p1 p2.mem p3 p4) ?_
  rintro e a2 w2 ⟨s2, g, p⟩
  exact ⟨s2, g, Post.trans p2 p⟩

theorem ex_block {id : Nat} {b : Code} {s : St} {good : Exit → St → Prop} (h : Ex P ρ nt b s fun e s1 => e = .exit id ∧ good .normal s1) : Ex P ρ nt (.block id b) s good := by
  intro loc a w hT hM hf ha
  refine wp_block (wp_mono (h loc a w hT hM hf ha) ?_)
  rintro e a' w' ⟨s1, ⟨rfl, h2⟩, p⟩
  simp only [Exit.inBlock, if_true]
  exact ⟨s1, h2, p⟩

theorem ex_loop {b : Code} {s : St} {n : Nat} {good : Exit → St → Prop} (h : ExR P ρ nt b s n good) : Ex P ρ nt (.loop b) s good :=
  fun loc a w hT hM hf ha => wp_loop_rounds n (h loc a w hT hM hf ha _ fun _ _ _ s' g p => ⟨s', g, p⟩)

theorem exr_step {b : Code} {s : St} {n : Nat} {good : Exit → St → Prop} (h : Ex P ρ nt b s fun e s1 => e = .normal ∧ ExR P ρ nt b s1 n good) : ExR P ρ nt b s (n + 1) good := by
  intro loc a w hT hM hf ha Q hQ
  rw [rounds_succ]
  refine wp_mono (h loc a w hT hM hf ha) ?_
  rintro e a' w' ⟨s1, ⟨rfl, h2⟩, loc', p1, p2, p3, p4⟩
  exact h2 loc' a' w' p1 p2.mem p3 p4 Q fun e a2 w2 s2 g p => hQ e a2 w2 s2 g (Post.trans p2 p)

/-- Rounds that go on, as many as told. -/
def iterN (body : St → R (Exit × St)) : Nat → St → R St
  | 0, s => .ok s
  | n + 1, s => (body s).bind fun r => match r.1 with
    | .normal => iterN body n r.2
    | _ => .no "a round ends"

theorem exr_iter (S : Sound P ρ nt orb call draw lp) {b : Code} (hd : dstC nt b = true) {m : Nat} {good : Exit → St → Prop} : ∀ {n : Nat} {s s' : St}, iterN (execC P orb call draw lp fuel b) n s = .ok s' → ExR P ρ nt b s' m good → ExR P ρ nt b s (m + n) good
  | 0, s, s', h, h2 => by cases h; exact h2
  | n + 1, s, s', h, h2 => by
    obtain ⟨r, h1, h3⟩ := R.bind_ok.1 h
    obtain ⟨e, s1⟩ := r
    dsimp only at h3
    split at h3
    · refine exr_step (ex_mono (ex_run S h1 hd) ?_)
      rintro e' s'' ⟨rfl, rfl⟩
      exact ⟨rfl, exr_iter S hd h3 h2⟩
    · cases h3

/-- The rest of the rounds, run at once. -/
theorem exr_end (S : Sound P ρ nt orb call draw lp) {b : Code} (hd : dstC nt b = true) {good : Exit → St → Prop} : ∀ {n : Nat} {s : St} {e : Exit} {s' : St}, loopN (execC P orb call draw lp fuel b) n s = .ok (e, s') → good e s' → ExR P ρ nt b s n good
  | 0, s, e, s', h, _ => by cases h
  | n + 1, s, e, s', h, hg => by
    obtain ⟨r, h1, h2⟩ := R.bind_ok.1 h
    obtain ⟨e1, s1⟩ := r
    intro loc a w hT hM hf ha Q hQ
    rw [rounds_succ]
    refine wp_mono (code_ok S.o S.c S.d S.l fuel b s e1 s1 h1 hd loc a w hT hM hf ha) ?_
    rintro e' a' w' ⟨rfl, p⟩
    dsimp only at h2
    cases e' with
    | normal =>
      obtain ⟨loc', p1, p2, p3, p4⟩ := p
      exact exr_end S hd h2 hg loc' a' w' p1 p2.mem p3 p4 Q fun e a2 w2 s2 g p => hQ e a2 w2 s2 g (Post.trans p2 p)
    | _ => cases h2; exact hQ _ a' w' _ hg p

/-- A state that is written down. -/
def mkT {α : Type} (l : List (Nat × α)) : Tr α := l.foldr (fun p t => t.set p.1 p.2) .e
def mkS (tl : List (Nat × CV)) (hl : List (Nat × OB)) (nx : Nat) : St := ⟨mkT tl, mkT hl, nx⟩

def eqMEs : List ME → List ME → Bool
  | [], y => match y with | [] => true | _ => false
  | a :: l, y => match y with | b :: m => eqCV a.k b.k && eqCV a.v b.v && Nat.beq a.b b.b && eqMEs l m | _ => false

theorem eqMEs_eq : ∀ (x y : List ME), eqMEs x y = true → x = y
  | [], y, h => by cases y <;> simp only [eqMEs] at h <;> first | rfl | cases h
  | a :: l, y, h => by
    cases y with
    | nil => simp only [eqMEs] at h; cases h
    | cons b m =>
      simp only [eqMEs, Bool.and_eq_true] at h
      obtain ⟨⟨⟨h1, h2⟩, h3⟩, h4⟩ := h
      obtain ⟨k, v, n⟩ := a
      obtain ⟨k', v', n'⟩ := b
      dsimp only at h1 h2 h3
      rw [eqCV_eq _ _ h1, eqCV_eq _ _ h2, Nat.eq_of_beq_eq_true h3, eqMEs_eq l m h4]

def eqOB : OB → OB → Bool
  | .cells xs, y => match y with | .cells ys => eqCVs xs ys | _ => false
  | .map es c, y => match y with | .map es' c' => eqMEs es es' && Nat.beq c c' | _ => false
  | _, _ => false

theorem eqOB_eq {x y : OB} (h : eqOB x y = true) : x = y := by
  cases x <;> cases y <;> simp only [eqOB] at h <;> first | cases h; done | skip
  · rw [eqCVs_eq _ _ h]
  · rw [Bool.and_eq_true] at h
    rw [eqMEs_eq _ _ h.1, Nat.eq_of_beq_eq_true h.2]

/-- Does a state have at least what is written down? -/
def hasS (tl : List (Nat × CV)) (hl : List (Nat × OB)) (nx : Nat) (s : St) : Bool :=
  Nat.beq s.nx nx && tl.all (fun p => match s.tm.get p.1 with | some v => eqCV v p.2 | none => false) && hl.all (fun p => match s.hp.get p.1 with | some o => eqOB o p.2 | none => false)

theorem mkT_get {α : Type} : ∀ {l : List (Nat × α)} {k : Nat} {v : α}, (mkT l).get k = some v → (k, v) ∈ l
  | [], k, v, h => by cases h
  | p :: l, k, v, h => by
    unfold mkT at h
    rw [List.foldr_cons, Tr.get_set] at h
    split at h
    · rename_i e; cases h; subst e; exact .head _
    · exact .tail _ (mkT_get h)

theorem ex_has {tl : List (Nat × CV)} {hl : List (Nat × OB)} {nx : Nat} {s : St} (h : hasS tl hl nx s = true) : (∀ k v, (mkS tl hl nx).tm.get k = some v → s.tm.get k = some v) ∧ (∀ k o, (mkS tl hl nx).hp.get k = some o → s.hp.get k = some o) ∧ s.nx = nx := by
  unfold hasS at h
  simp only [Bool.and_eq_true] at h
  obtain ⟨⟨h1, h2⟩, h3⟩ := h
  refine ⟨fun k v hk => ?_, fun k o hk => ?_, Nat.eq_of_beq_eq_true h1⟩
  · have := List.all_eq_true.1 h2 _ (mkT_get hk)
    dsimp only at this
    split at this
    · rename_i v' hv; rw [hv, eqCV_eq _ _ this]
    · cases this
  · have := List.all_eq_true.1 h3 _ (mkT_get hk)
    dsimp only at this
    split at this
    · rename_i v' hv; rw [hv, eqOB_eq this]
    · cases this

theorem Post.more {loc : Lc} {h h' : Nat → Option OB} {nx : Nat} {w w' : World} {s' : St} {a' : Act} (p : Post ρ nt loc h nx w s' a' w') (hs : ∀ j o, h j = some o → h' j = some o) : Post ρ nt loc h' nx w s' a' w' := by
  obtain ⟨loc', p1, p2, p3, p4⟩ := p
  refine ⟨loc', p1, ⟨p2.mem, p2.le, p2.ext, p2.fr.os, p2.fr.tape, p2.fr.output, p2.fr.size, fun b hb hn => p2.fr.kept b hb fun hd => hn (Dom.less hs hd), fun b hb => ?_⟩, p3, p4⟩
  rcases p2.fr.own b hb with g | g
  · exact .inl (Dom.less hs g)
  · exact .inr g

theorem exr_sub {tl : List (Nat × CV)} {hl : List (Nat × OB)} {nx : Nat} {s : St} (h : hasS tl hl nx s = true) {b : Code} {n : Nat} {good : Exit → St → Prop} (hx : ExR P ρ nt b (mkS tl hl nx) n good) : ExR P ρ nt b s n good := by
  obtain ⟨h1, h2, h3⟩ := ex_has h
  intro loc a w hT hM hf ha Q hQ
  refine hx loc a w (fun t v ht => hT t v (h1 t v ht)) (hM.less h2) (by rw [h3] at hf; exact hf) ha Q fun e a' w' s' g p => hQ e a' w' s' g ?_
  rw [h3]
  exact Post.more (h := (mkS tl hl nx).hp.get) (h' := s.hp.get) p h2

/-- The first parts of a sequence. -/
def runParts (P : Program) (orb : BinOp → CV → CV → Option CV) (call : Callee) (draw : List Oper → St → R St) (lp : Loops) (fuel : Nat) : Nat → Code → St → R St
  | 0, _, s => .ok s
  | n + 1, c, s => match c with
    | .seq x y => (execC P orb call draw lp fuel x s).bind fun r => match r.1 with
      | .normal => runParts P orb call draw lp fuel n y r.2
      | _ => .no "a part ends"
    | _ => .no "no part"

def dropParts : Nat → Code → Code
  | 0, c => c
  | n + 1, c => match c with
    | .seq _ y => dropParts n y
    | c => c

theorem ex_parts (S : Sound P ρ nt orb call draw lp) {good : Exit → St → Prop} : ∀ {n : Nat} {c : Code} {s s' : St}, runParts P orb call draw lp fuel n c s = .ok s' → dstC nt c = true → Ex P ρ nt (dropParts n c) s' good → Ex P ρ nt c s good
  | 0, c, s, s', h, _, h2 => by cases h; exact h2
  | n + 1, c, s, s', h, hd, h2 => by
    cases c with
    | seq x y =>
      obtain ⟨r, h1, h3⟩ := R.bind_ok.1 h
      obtain ⟨e, s1⟩ := r
      simp only [dstC, Bool.and_eq_true] at hd
      dsimp only at h3
      split at h3
      · refine ex_seq (ex_mono (ex_run S h1 hd.1) ?_)
        rintro e' s'' ⟨rfl, rfl⟩
        exact ⟨rfl, ex_parts S h3 hd.2 h2⟩
      · cases h3
    | _ => cases h

/-- A function, by its code. -/
theorem call_ex {f : FuncId} {fn : Func} {c : Code} (g1 : P.funcs[f]? = some fn) (g2 : fn.body = some c) {args : List CV} (g3 : args.length ≤ fn.ntmps)
    (hx : Ex P ρ fn.ntmps c ⟨startTm args 0 .e, .e, 0⟩ fun e s' => (e = .ret ∨ e = .normal) ∧ resL P s' fn.results.toList = .ok [.lit (.bool true)]) (w : World) (vs : Array Value) (hv : VL ρ (fun _ => none) args vs.toList) :
    Calls P f vs w fun e w' => e = .returned (.bool true) ∧ Go.RowKit.Below w.heap.size w w' := by
  have hlen := hv.length
  have hsz : vs.size = args.length := by simpa using hlen.symm
  refine calls_of_wp g1 g2 ?_
  have hT : TmOk ρ (fun _ => none) (startTm args 0 .e) { tmps := vs ++ Array.replicate (fn.ntmps - vs.size) undef, defers := [] } := fun t u hu => by
    rw [start_get] at hu
    split at hu
    · rename_i ht
      obtain ⟨x, x1, x2⟩ := hv.get hu
      rw [Nat.sub_zero, Array.getElem?_toList] at x1
      rw [Array.getD_eq_getD_getElem?, Array.getElem?_append_left (by omega), x1]
      exact x2
    · cases hu
  have ha : ActOk fn.ntmps { tmps := vs ++ Array.replicate (fn.ntmps - vs.size) undef, defers := [] } := ⟨by simp; omega, rfl⟩
  refine wp_mono (hx (fun _ => none) _ w hT ⟨fun id o ho => (by cases ho), fun i j o o' p q ho => (by cases ho)⟩ (fun _ _ => rfl) ha) ?_
  rintro e a' w' ⟨s', ⟨he, hc⟩, loc', p1, p2, p3, p4⟩
  have fin : a'.defers = [] ∧ ∃ v', (results fn a'.tmps).run P w' = .ok v' w' ∧ Ending.returned v' = .returned (.bool true) ∧ Go.RowKit.Below w.heap.size w w' := by
    obtain ⟨us, k1, k2⟩ := res_ok (P := P) p1 p2.mem (fun | .tmp t => pure (a'.tmps.getD t undef) | .cell x t => do loadVar t (← asAddr (a'.tmps.getD x undef))) (fun _ => rfl) (fun _ _ => rfl) hc
    simp only [VL, V] at k2
    obtain ⟨u, _, rfl, rfl, rfl⟩ := k2
    have hres : (results fn a'.tmps).run P w' = .ok (.bool true) w' := by
      unfold results
      rw [show fn.results = fn.results.toList.toArray by simp, List.mapM_toArray]
      simp only [Sem.run_bind, Sem.run_map, Sem.run_pure]
      erw [k1]
      rfl
    exact ⟨p4.defers, _, hres, rfl, p2.fr.os, p2.fr.tape, p2.fr.output, p2.fr.size, fun k hk => p2.fr.kept k hk (by rintro ⟨i, o, p, h1, _⟩; cases h1)⟩
  rcases he with rfl | rfl
  · exact fin
  · exact fin

end

end Go.Cx
