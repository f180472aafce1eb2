/- A call that says true and leaves what it was handed, as a summary: nodes(). -/
import Derived.Test.YtlffgjppnbhahaaGreatHO
set_option linter.unusedSimpArgs false
set_option linter.unusedVariables false
set_option maxHeartbeats 1000000
namespace Go.Cx

/-- Some functions without arguments say true. -/
def sayT (fs : List FuncId) : Sum := fun f args hp nx => bif fs.any (fun g => Nat.beq g f) && args.isEmpty then some (.ok (.lit (.bool true), hp, nx)) else none

theorem sayT_ok {P : Program} {ρ : Nat → Int} {fs : List FuncId} (h : ∀ f, f ∈ fs → ∀ w, Calls P f #[] w fun e w' => e = .returned (.bool true) ∧ Go.RowKit.Below w.heap.size w w') : SumOk P ρ (sayT fs) := by
  intro f args hp nx v hp' nx' hs loc w vs hM hv hf
  unfold sayT at hs
  cases hc : (fs.any (fun g => Nat.beq g f) && args.isEmpty) with
  | false => rw [hc] at hs; cases hs
  | true =>
    rw [hc] at hs
    cases hs
    rw [Bool.and_eq_true, List.any_eq_true] at hc
    obtain ⟨⟨g, hg1, hg2⟩, ha⟩ := hc
    have := Nat.eq_of_beq_eq_true hg2
    subst this
    have ha : args = [] := by simpa using ha
    subst ha
    have hvs : vs = #[] := Array.ext' hv
    subst hvs
    refine (h g hg1 w).mono ?_
    rintro e w' ⟨rfl, b⟩
    refine ⟨.bool true, loc, rfl, by simp [V], ⟨fun id o ho => ?_, hM.inj⟩, Nat.le_refl _, fun _ _ => rfl, ⟨b.os, b.tape, b.output, b.size, fun k hk _ => b.block k hk, fun _ hb => .inl hb⟩⟩
    obtain ⟨p, hp, hh⟩ := hM.sat id o ho
    exact ⟨p, hp, hh.mono (.refl _) (b.block _ hh.lt)⟩

theorem no_oracle {ρ : Nat → Int} : OraOk ρ (fun _ _ _ => none) := fun _ _ _ _ h => by cases h

theorem nodes_run : isT (callF Go.Proofs.Tryz.prog (fun _ _ _ => none) (fun _ _ _ _ => none) 200 60 14 [] .e 0) = true := by kernel_rfl

theorem nodes_call (w : World) : Calls Go.Proofs.Tryz.prog 14 #[] w fun e w' => e = .returned (.bool true) ∧ Go.RowKit.Below w.heap.size w w' :=
  call_true (ρ := fun _ => 0) mixed_prog dsts_prog no_oracle none_sum nodes_run w _ .nil

theorem sumN {ρ : Nat → Int} : SumOk Go.Proofs.Tryz.prog ρ (sayT [14]) := sayT_ok fun f hf w => by
  have : f = 14 := by simpa using hf
  subst this
  exact nodes_call w

/-- What is known of the symbols of NodeHome: 2 is the reference, 6 the node that was told last. -/
def KnH (ref b : Kn) : Nat → Kn
  | 2 => ref
  | 6 => b
  | _ => ⟨-99999999999999999999, 99999999999999999999, []⟩

noncomputable def runH (ref b : Kn) (r : Int) : Bool := isT (callF Go.Proofs.Tryz.prog (orK (KnH ref b) 8 r) (sayT [14]) 200 60 5 [.sym 0, .sym 2, .sym 4, .sym 6] .e 0)

end Go.Cx
