/- NodeOwn: its two runs, whether the value is flat or not; from a run to a call. -/
import Derived.Test.YtlffgjppnbhahaaGreatOA
import Derived.KernelRfl
import Derived.Below
set_option linter.unusedSimpArgs false
set_option linter.unusedVariables false
set_option maxHeartbeats 1000000
namespace Go.Cx
open Go.Ab (PV HV D iD bD)

noncomputable abbrev prog : Program := Go.Proofs.Tryz.prog

def dsts (P : Program) : Bool := P.funcs.toList.all fun fn => match fn.body with
  | some c => dstC fn.ntmps c
  | none => true

theorem dsts_ok {P : Program} (h : dsts P = true) : DstsOk P := fun f fn c h1 h2 => by
  have := List.all_eq_true.1 h fn (by
    have := Array.mem_of_getElem? h1
    simpa using this)
  rw [h2] at this
  exact this

def noOr (_ : BinOp) (_ _ : CV) : Option CV := none
def noLp (_ : Nat) : Loops := fun _ _ => none

theorem dsts_prog : dsts prog = true := by kernel_rfl
theorem mixed_prog : prog.follows .mixedOrders = true := by kernel_rfl
theorem no_oracle {ρ : Env} : OraOk ρ noOr := fun _ _ _ _ h => by cases h
theorem none_sum {P : Program} {ρ : Env} : SumOk P ρ (fun _ _ _ _ => none) := fun _ _ _ _ _ _ _ h => by cases h
theorem none_loops {P : Program} {ρ : Env} {nt n : Nat} : LoopOk P ρ nt (noLp n) := fun _ _ _ _ h => by cases h

def isT : R (CV × Tr OB × Nat) → Bool
  | .ok (c, _, _) => match c with
    | .lit (.bool b) => b
    | _ => false
  | .no _ _ => false

theorem isT_ok {r : R (CV × Tr OB × Nat)} (h : isT r = true) : ∃ hp nx, r = .ok (.lit (.bool true), hp, nx) := by
  unfold isT at h
  split at h
  · split at h
    · subst h; exact ⟨_, _, rfl⟩
    · cases h
  · cases h

/-- A call, with no objects in memory that it knows of, but trees. -/
theorem call_true {P : Program} {ρ : Env} {orb : BinOp → CV → CV → Option CV} {sm : Sum} {lp : Nat → Loops} (hm : P.follows .mixedOrders = true) (hd : dsts P = true) (hO : OraOk ρ orb) (hS : SumOk P ρ sm) (hL : ∀ n nt, LoopOk P ρ nt (lp n)) {fuel n : Nat} {f : FuncId} {args : List CV} {nx : Nat}
    (h : isT (callF P orb sm lp fuel n f args .e nx) = true) (w : World) (vs : Array Value) {loc : Lc} (ht : Trees loc (Tr.e : Tr OB).get w) (hfr : FreeAll loc nx) (hv : VL ρ loc args vs.toList) :
    Calls P f vs w fun e w' => e = .returned (.bool true) ∧ Go.RowKit.Below w.heap.size w w' := by
  obtain ⟨hp, nx', h⟩ := isT_ok h
  refine (callF_ok hm (dsts_ok hd) hO hS hL fuel n f args .e nx _ hp nx' h loc w vs ⟨ht, fun id o ho => (by cases ho), fun i j o o' p q ho => (by cases ho)⟩ hv hfr).mono ?_
  rintro e w' ⟨v', loc', rfl, h1, h2⟩
  simp only [V] at h1
  subst h1
  exact ⟨rfl, h2.fr.os, h2.fr.tape, h2.fr.output, h2.fr.size, fun k hk => h2.fr.kept k hk (by rintro ⟨i, o, p, h1, _⟩; cases h1)⟩

/-- Some functions without arguments say true. -/
def sayT (fs : List FuncId) : Sum := fun f args hp nx => bif fs.any (fun g => Nat.beq g f) && args.isEmpty then some (.ok (.lit (.bool true), hp, nx)) else none

theorem sayT_ok {P : Program} {ρ : Env} {fs : List FuncId} (h : ∀ f, f ∈ fs → ∀ w, Calls P f #[] w fun e w' => e = .returned (.bool true) ∧ Go.RowKit.Below w.heap.size w w') : SumOk P ρ (sayT fs) := by
  intro f args hp nx v hp' nx' hs loc w vs hM hv hf
  unfold sayT at hs
  cases hc : (fs.any (fun g => Nat.beq g f) && args.isEmpty) with
  | false => rw [hc] at hs; cases hs
  | true =>
    rw [hc] at hs
    cases hs
    rw [Bool.and_eq_true, List.any_eq_true] at hc
    obtain ⟨⟨g, hg1, hg2⟩, ha⟩ := hc
    have := Nat.eq_of_beq_eq_true hg2
    subst this
    have ha : args = [] := by simpa using ha
    subst ha
    have hvs : vs = #[] := Array.ext' hv
    subst hvs
    refine (h g hg1 w).mono ?_
    rintro e w' ⟨rfl, b⟩
    have fr : Fr loc hp.get w loc hp.get w' := ⟨b.os, b.tape, b.output, b.size, fun k hk _ => b.block k hk, fun _ hb => .inl hb, fun _ _ _ _ _ g _ => .inl g⟩
    refine ⟨.bool true, loc, rfl, by simp [V], ⟨⟨hM.tree.step fr, fun id o ho => ?_, hM.inj⟩, Nat.le_refl _, fun _ _ => rfl, fr⟩⟩
    obtain ⟨p, hp, hh⟩ := hM.sat id o ho
    exact ⟨p, hp, hh.mono (.refl _) (b.block _ hh.lt)⟩

theorem no_trees (w : World) : Trees (fun _ => none) (Tr.e : Tr OB).get w := fun _ _ _ _ _ h => by cases h

theorem nodes_run : isT (callF prog noOr (fun _ _ _ _ => none) noLp 200 60 14 [] .e 0) = true := by kernel_rfl

theorem nodes_call (w : World) : Calls prog 14 #[] w fun e w' => e = .returned (.bool true) ∧ Go.RowKit.Below w.heap.size w w' :=
  call_true (ρ := ⟨fun _ => 0, fun _ => .sl []⟩) mixed_prog dsts_prog no_oracle none_sum (fun _ _ => none_loops) nodes_run w _ (no_trees w) (fun _ _ => rfl) .nil

theorem sumN {ρ : Env} : SumOk prog ρ (sayT [14]) := sayT_ok fun f hf w => by
  have : f = 14 := by simpa using hf
  subst this
  exact nodes_call w

/-- One summary, or another. -/
def orS (a b : Sum) : Sum := fun f args hp nx => match a f args hp nx with
  | some r => some r
  | none => b f args hp nx

theorem orS_ok {P : Program} {ρ : Env} {a b : Sum} (ha : SumOk P ρ a) (hb : SumOk P ρ b) : SumOk P ρ (orS a b) := by
  intro f args hp nx v hp' nx' hs
  unfold orS at hs
  split at hs
  · rename_i r hr
    rw [hs] at hr
    exact ha f args hp nx v hp' nx' hr
  · exact hb f args hp nx v hp' nx' hs

def smV (q : Bool) : Sum := orS (sayT [14]) (orS (flatS q) ownS)

noncomputable def runO (q : Bool) : R (CV × Tr OB × Nat) := callF prog noOr (smV q) noLp 200 60 10 [.agg [.opq 0 0, .opq 1 1, .opq 2 2, .opq 3 3]] .e 4

theorem runO_f : isT (runO false) = true := by kernel_rfl
theorem runO_t : isT (runO true) = true := by kernel_rfl
end Go.Cx
