/- A closed law by the executor: from a run to a call. -/
import Derived.Test.YtlffgjppnbhahaaGreatWO
import Derived.Below
set_option linter.unusedSimpArgs false
set_option linter.unusedVariables false
set_option maxHeartbeats 1000000
namespace Go.Cx

theorem none_sum {P : Program} {ρ : Nat → Int} : SumOk P ρ (fun _ _ _ _ => none) := fun _ _ _ _ _ _ _ h => by cases h

/-- A call, with nothing in memory that it knows of. -/
theorem call_true {P : Program} {ρ : Nat → Int} {orb : BinOp → CV → CV → Option CV} {sm : Sum} (hm : P.follows .mixedOrders = true) (hd : dsts P = true) (hO : OraOk ρ orb) (hS : SumOk P ρ sm) {fuel n : Nat} {f : FuncId} {args : List CV}
    (h : isT (callF P orb sm fuel n f args .e 0) = true) (w : World) (vs : Array Value) (hv : VL ρ (fun _ => none) args vs.toList) :
    Calls P f vs w fun e w' => e = .returned (.bool true) ∧ Go.RowKit.Below w.heap.size w w' := by
  obtain ⟨hp, nx, h⟩ := isT_ok h
  refine (callF_ok hm (dsts_ok hd) hO hS fuel n f args .e 0 _ hp nx h (fun _ => none) w vs ⟨fun id o ho => (by cases ho), fun i j o o' p q ho => (by cases ho)⟩ hv (fun _ _ => rfl)).mono ?_
  rintro e w' ⟨v', loc', rfl, h1, h2⟩
  simp only [V] at h1
  subst h1
  exact ⟨rfl, h2.fr.os, h2.fr.tape, h2.fr.output, h2.fr.size, fun k hk => h2.fr.kept k hk (by rintro ⟨i, o, p, h1, _⟩; cases h1)⟩

end Go.Cx
