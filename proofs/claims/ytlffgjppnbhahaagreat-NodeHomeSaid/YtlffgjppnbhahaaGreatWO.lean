/- The oracle of NodeWatches: the number of watchers, 'times', is known by what is left of it by 5. -/
import Derived.Test.YtlffgjppnbhahaaGreatX24
import Derived.Test.YtlffgjppnbhahaaGreatProg
import Derived.KernelRfl
set_option linter.unusedSimpArgs false
set_option linter.unusedVariables false
set_option maxHeartbeats 1000000
namespace Go.Cx

def isT : R (CV × Tr OB × Nat) → Bool
  | .ok (c, _, _) => match c with
    | .lit (.bool b) => b
    | _ => false
  | .no _ _ => false

theorem isT_ok {r : R (CV × Tr OB × Nat)} (h : isT r = true) : ∃ hp nx, r = .ok (.lit (.bool true), hp, nx) := by
  unfold isT at h
  split at h
  · split at h
    · subst h; exact ⟨_, _, rfl⟩
    · cases h
  · cases h

def orW (r : Int) (op : BinOp) (x y : CV) : Option CV :=
  match op with
  | .andNot => match x with
    | .sym n => match y with
      | .lit (.int .u64 _) => bif Nat.beq n 0 then some (.sym 1) else none
      | _ => none
    | _ => none
  | .rem => match x with
    | .sym n => match y with
      | .lit (.int .u64 m) => bif Nat.beq n 1 && decide (m = 5) then some (.lit (.int .u64 r)) else none
      | _ => none
    | _ => none
  | _ => none

/-- One of the ten runs. -/
noncomputable def runW (b : Bool) (r : Int) : Bool := isT (callF Go.Proofs.Tryz.prog (orW r) (fun _ _ _ _ => none) 200 60 4 [.lit (.bool b), .sym 0] .e 0)

def dsts (P : Program) : Bool := P.funcs.toList.all fun fn => match fn.body with
  | some c => dstC fn.ntmps c
  | none => true

theorem dsts_ok {P : Program} (h : dsts P = true) : DstsOk P := fun f fn c h1 h2 => by
  have := List.all_eq_true.1 h fn (by
    have := Array.mem_of_getElem? h1
    simpa using this)
  rw [h2] at this
  exact this

theorem dsts_prog : dsts Go.Proofs.Tryz.prog = true := by kernel_rfl
theorem mixed_prog : Go.Proofs.Tryz.prog.follows .mixedOrders = true := by kernel_rfl

end Go.Cx
