/- NodeChain: what its runs are made of. -/
import Derived.Test.YtlffgjppnbhahaaGreatXS
import Derived.Test.YtlffgjppnbhahaaGreatX30
import Derived.KernelRfl
set_option linter.unusedSimpArgs false
set_option linter.unusedVariables false
set_option maxHeartbeats 1000000
namespace Go.Cx

noncomputable abbrev prog : Program := Go.Proofs.Tryz.prog

def dsts (P : Program) : Bool := P.funcs.toList.all fun fn => match fn.body with
  | some c => dstC fn.ntmps c
  | none => true

theorem dsts_ok {P : Program} (h : dsts P = true) : DstsOk P := fun f fn c h1 h2 => by
  have := List.all_eq_true.1 h fn (by
    have := Array.mem_of_getElem? h1
    simpa using this)
  rw [h2] at this
  exact this

theorem dsts_prog : dsts prog = true := by kernel_rfl
theorem mixed_prog : prog.follows .mixedOrders = true := by kernel_rfl
theorem no_oracle {ρ : Nat → Int} : OraOk ρ none3 := fun _ _ _ _ h => by cases h
theorem none_sum {P : Program} {ρ : Nat → Int} : SumOk P ρ (fun _ _ _ _ => none) := fun _ _ _ _ _ _ _ h => by cases h
theorem none_loops {P : Program} {ρ : Nat → Int} {nt : Nat} : LoopOk P ρ nt (fun _ _ => none) := fun _ _ _ _ h => by cases h

/-- Some functions without arguments say true. -/
def sayT (fs : List FuncId) : Sum := fun f args hp nx => bif fs.any (fun g => Nat.beq g f) && args.isEmpty then some (.ok (.lit (.bool true), hp, nx)) else none

theorem sayT_ok {P : Program} {ρ : Nat → Int} {fs : List FuncId} (h : ∀ f, f ∈ fs → ∀ w, Calls P f #[] w fun e w' => e = .returned (.bool true) ∧ Go.RowKit.Below w.heap.size w w') : SumOk P ρ (sayT fs) := by
  intro f args hp nx v hp' nx' hs loc w vs hM hv hf
  unfold sayT at hs
  cases hc : (fs.any (fun g => Nat.beq g f) && args.isEmpty) with
  | false => rw [hc] at hs; cases hs
  | true =>
    rw [hc] at hs
    cases hs
    rw [Bool.and_eq_true, List.any_eq_true] at hc
    obtain ⟨⟨g, hg1, hg2⟩, ha⟩ := hc
    have := Nat.eq_of_beq_eq_true hg2
    subst this
    have ha : args = [] := by simpa using ha
    subst ha
    have hvs : vs = #[] := Array.ext' hv
    subst hvs
    refine (h g hg1 w).mono ?_
    rintro e w' ⟨rfl, b⟩
    refine ⟨.bool true, loc, rfl, by simp [V], ⟨fun id o ho => ?_, hM.inj⟩, Nat.le_refl _, fun _ _ => rfl, ⟨b.os, b.tape, b.output, b.size, fun k hk _ => b.block k hk, fun _ hb => .inl hb⟩⟩
    obtain ⟨p, hp, hh⟩ := hM.sat id o ho
    exact ⟨p, hp, hh.mono (.refl _) (b.block _ hh.lt)⟩

/-- Calls within the bodies of loops that collect. -/
noncomputable def cl (n : Nat) : Callee := callF prog none3 (fun _ _ _ _ => none) (fun _ _ _ => none) 200 n

theorem cl_ok (n : Nat) (ρ : Nat → Int) : CallOk prog ρ (cl n) := callF_ok mixed_prog (dsts_ok dsts_prog) no_oracle none_sum (fun _ _ => none_loops) 200 n

noncomputable def LP (n : Nat) : Loops := lpC prog (cl n) (execD prog none3 (cl n)) 200 3

theorem LP_ok (n : Nat) (ρ : Nat → Int) (nt : Nat) : LoopOk prog ρ nt (LP n) := lpC_ok (cl_ok n) (fun ρ _ => draw_ok mixed_prog no_oracle (cl_ok n ρ)) ρ

def isTC : R (CV × Tr OB × Nat) → Bool
  | .ok (c, _, _) => match c with
    | .lit (.bool b) => b
    | _ => false
  | .no _ _ => false

theorem nodes_run : isTC (cl 60 14 [] .e 0) = true := by kernel_rfl

theorem nodes_call (w : World) : Calls prog 14 #[] w fun e w' => e = .returned (.bool true) ∧ Go.RowKit.Below w.heap.size w w' := by
  have hr := nodes_run
  unfold isTC at hr
  split at hr
  · rename_i hp nx he
    split at hr
    · subst hr
      refine (cl_ok 60 (fun _ => 0) 14 [] .e 0 _ hp nx he (fun _ => none) w #[] ⟨fun id o ho => (by cases ho), fun i j o o' p q ho => (by cases ho)⟩ .nil (fun _ _ => rfl)).mono ?_
      rintro e w' ⟨v', loc', rfl, h1, h2⟩
      simp only [V] at h1
      subst h1
      exact ⟨rfl, h2.fr.os, h2.fr.tape, h2.fr.output, h2.fr.size, fun k hk => h2.fr.kept k hk (by rintro ⟨i, o, p, h1, _⟩; cases h1)⟩
    · cases hr
  · cases hr

def smC : Sum := fun f args hp nx => match sayT [14] f args hp nx with
  | some r => some r
  | none => sortS 51 f args hp nx

theorem smC_ok (ρ : Nat → Int) : SumOk prog ρ smC := by
  intro f args hp nx v hp' nx' hs
  unfold smC at hs
  split at hs
  · rename_i r hr
    rw [hs] at hr
    exact sayT_ok (fun f hf w => by
      have : f = 14 := by simpa using hf
      subst this
      exact nodes_call w) f args hp nx v hp' nx' hr
  · exact sortS_ok Go.Proofs.YtlffgjppnbhahaaGreat.P.lays189 f args hp nx v hp' nx' hs

def orC (r : Int) (op : BinOp) (x y : CV) : Option CV :=
  match op with
  | .andNot => match x with
    | .sym n => match y with
      | .lit (.int .u64 _) => bif Nat.beq n 0 then some (.sym 1) else none
      | _ => none
    | _ => none
  | .rem => match x with
    | .sym n => match y with
      | .lit (.int .u64 m) => bif Nat.beq n 1 && decide (m = 8) then some (.lit (.int .u64 r)) else none
      | _ => none
    | _ => none
  | _ => none

def rhoC (n : Int) : Nat → Int
  | 0 => n
  | 1 => IntKind.u64.wrap n
  | _ => 0

theorem oraC (n : Int) {r : Int} (hr : (IntKind.u64.wrap n).tmod 8 = r) : OraOk (rhoC n) (orC r) := by
  intro op x y v h
  unfold orC at h
  split at h
  · split at h
    · rename_i k
      split at h
      · rename_i m
        cases hk : Nat.beq k 0 with
        | false => rw [hk] at h; cases h
        | true =>
          rw [hk] at h
          cases h
          have := Nat.eq_of_beq_eq_true hk
          subst this
          exact ⟨fun hne => (hne rfl).elim, fun _ => ⟨0, .u64, m, rfl, rfl, .inr ⟨1, rfl, rfl⟩⟩⟩
      · cases h
    · cases h
  · split at h
    · rename_i k
      split at h
      · rename_i m
        cases hk : (Nat.beq k 1 && decide (m = 8)) with
        | false => rw [hk] at h; cases h
        | true =>
          rw [hk] at h
          cases h
          rw [Bool.and_eq_true] at hk
          have h1 := Nat.eq_of_beq_eq_true hk.1
          have h2 : m = 8 := by simpa using hk.2
          subst h1 h2
          exact ⟨fun _ => ⟨.u64, IntKind.u64.wrap n, 8, _, rfl, rfl, .inl rfl, by rw [← hr]; rfl⟩, fun he => by cases he⟩
      · cases h
    · cases h
  · cases h

/-- Calls out of NodeChain. -/
noncomputable def CALL (r : Int) : Callee := callF prog (orC r) smC LP 200 59

theorem sound (n : Int) {r : Int} (hr : (IntKind.u64.wrap n).tmod 8 = r) : Sound prog (rhoC n) 99 (orC r) (CALL r) (execD prog (orC r) (CALL r)) (LP 59) := by
  have hc : CallOk prog (rhoC n) (CALL r) := callF_ok mixed_prog (dsts_ok dsts_prog) (oraC n hr) (smC_ok _) (fun k nt => LP_ok k _ nt) 200 59
  exact ⟨oraC n hr, hc, draw_ok mixed_prog (oraC n hr) hc, LP_ok 59 _ _⟩

def fstC : Code → Code
  | .seq a _ => a
  | c => c
def sndC : Code → Code
  | .seq _ b => b
  | c => c
def inBl : Code → Code
  | .block _ b => b
  | c => c
def inLo : Code → Code
  | .loop b => b
  | c => c

noncomputable def c0 : Code := match Go.Proofs.Tryz.f3.body with
  | some c => c
  | none => .skip
noncomputable def c9 : Code := dropParts 9 c0
noncomputable def cB : Code := inLo (inBl (sndC (fstC c9)))
noncomputable def cR : Code := sndC c9

theorem c0_body : Go.Proofs.Tryz.f3.body = some c0 := by kernel_rfl
theorem c9_parts : c9 = .seq (.seq (fstC (fstC c9)) (.block 2 (.loop cB))) cR := by kernel_rfl
theorem dst0 : dstC 99 c0 = true := by kernel_rfl
theorem dst9 : dstC 99 (fstC (fstC c9)) = true ∧ dstC 99 cB = true ∧ dstC 99 cR = true := ⟨by kernel_rfl, by kernel_rfl, by kernel_rfl⟩

/-- To the loop's begin. -/
noncomputable def toLoop (r : Int) : R St :=
  (runParts prog (orC r) (CALL r) (execD prog (orC r) (CALL r)) (LP 59) 200 9 c0 ⟨startTm [.sym 0] 0 .e, .e, 0⟩).bind fun s => (execC prog (orC r) (CALL r) (execD prog (orC r) (CALL r)) (LP 59) 200 (fstC (fstC c9)) s).bind fun x => match x.1 with
    | .normal => .ok x.2
    | _ => .no "before the loop"

noncomputable def bodyC (r : Int) : St → R (Exit × St) := execC prog (orC r) (CALL r) (execD prog (orC r) (CALL r)) (LP 59) 200 cB

/-- From the loop's begin, or from within it, to the end. -/
noncomputable def toEnd (r : Int) (s : St) : Bool :=
  match loopN (bodyC r) 25 s with
  | .ok (.exit i, s1) => Nat.beq i 2 && (match execC prog (orC r) (CALL r) (execD prog (orC r) (CALL r)) (LP 59) 200 cR s1 with
    | .ok (.ret, s2) => (match resL prog s2 Go.Proofs.Tryz.f3.results.toList with
      | .ok [.lit (.bool b)] => b
      | _ => false)
    | _ => false)
  | _ => false

/-- What must come of the loop. -/
def Good (n : Int) (e : Exit) (s : St) : Prop := e = .exit 2 ∧ Ex prog (rhoC n) 99 cR s fun e s' => (e = .ret ∨ e = .normal) ∧ resL prog s' Go.Proofs.Tryz.f3.results.toList = .ok [.lit (.bool true)]

theorem end_ok {n r : Int} (hr : (IntKind.u64.wrap n).tmod 8 = r) {s : St} (h : toEnd r s = true) : ExR prog (rhoC n) 99 cB s 25 (Good n) := by
  unfold toEnd at h
  split at h
  · rename_i i s1 h1
    rw [Bool.and_eq_true] at h
    obtain ⟨h2, h3⟩ := h
    have h2 := Nat.eq_of_beq_eq_true h2
    subst h2
    refine exr_end (sound n hr) dst9.2.1 h1 ⟨rfl, ?_⟩
    split at h3
    · rename_i s2 h4
      refine ex_mono (ex_run (sound n hr) h4 dst9.2.2) ?_
      rintro e' s' ⟨rfl, rfl⟩
      split at h3
      · rename_i b h5
        subst h3
        exact ⟨.inl rfl, h5⟩
      · cases h3
    · cases h3
  · cases h

/-- Some rounds lead to a state that is written down. -/
noncomputable def leads (r : Int) (k : Nat) (s : St) (tl : List (Nat × CV)) (hl : List (Nat × OB)) (nx : Nat) : Bool :=
  match iterN (bodyC r) k s with
  | .ok s' => hasS tl hl nx s'
  | _ => false

theorem leads_ok {n r : Int} (hr : (IntKind.u64.wrap n).tmod 8 = r) {k : Nat} {s : St} {tl : List (Nat × CV)} {hl : List (Nat × OB)} {nx m : Nat} (h : leads r k s tl hl nx = true) (hx : ExR prog (rhoC n) 99 cB (mkS tl hl nx) m (Good n)) : ExR prog (rhoC n) 99 cB s (m + k) (Good n) := by
  unfold leads at h
  split at h
  · rename_i s' h1
    exact exr_iter (sound n hr) dst9.2.1 h1 (exr_sub h hx)
  · cases h

noncomputable def begins (r : Int) (tl : List (Nat × CV)) (hl : List (Nat × OB)) (nx : Nat) : Bool :=
  match toLoop r with
  | .ok s => hasS tl hl nx s
  | _ => false

theorem chain_of {n r : Int} (hr : (IntKind.u64.wrap n).tmod 8 = r) {tl : List (Nat × CV)} {hl : List (Nat × OB)} {nx m : Nat} (h : begins r tl hl nx = true) (hx : ExR prog (rhoC n) 99 cB (mkS tl hl nx) m (Good n)) (w : World) :
    Calls prog 3 #[.int .i64 n] w fun e w' => e = .returned (.bool true) ∧ Go.RowKit.Below w.heap.size w w' := by
  unfold begins at h
  split at h
  · rename_i s h1
    obtain ⟨s1, h2, h3⟩ := R.bind_ok.1 h1
    obtain ⟨x, h4, h5⟩ := R.bind_ok.1 h3
    obtain ⟨e, s2⟩ := x
    dsimp only at h5
    refine call_ex (ρ := rhoC n) Go.Proofs.Tryz.func3 c0_body (args := [.sym 0]) (by decide) ?_ w _ (.cons (by simp only [V]; rfl) .nil)
    refine ex_parts (nt := 99) (sound n hr) h2 dst0 ?_
    show Ex prog (rhoC n) 99 c9 s1 _
    rw [c9_parts]
    split at h5
    · cases h5
      refine ex_seq ?_
      refine ex_seq ?_
      refine ex_mono (ex_run (sound n hr) h4 dst9.1) ?_
      rintro e' s' ⟨rfl, rfl⟩
      refine ⟨rfl, ex_block (ex_mono (ex_loop (exr_sub h hx)) ?_)⟩
      rintro e'' s'' ⟨rfl, g⟩
      exact ⟨rfl, rfl, g⟩
    · cases h5
  · cases h

end Go.Cx
