/-
  No cell of these rows narrows 'for every input' (looked for: loops, veiled, ifaces, maps, wideKeys, modest, calm, conditions, laid).
  DERIVED. THE GIVEN ROWS OF THIS SEAT. 8 by the template 'for every input the law returns true; each argument reads behind the call as it read before'; 0 by the template 'total and deterministic' (their statements: YtjaghpkmbgcabaaTotals.lean).
  GIVEN WITH THE SEED: the statements are not yours to turn. If you find one false, say at which input.
  Laid BY PROGRAM, IN A SANDBOX (cutbox-rows.mjs): the forced cells as the released guide's own fill.sh prints them over the translation c70eb3681d4ed4df… (all of the seat's roots in one cut). By AI agents, Wed Nov 11 2026. No macro, syntax, notation, axiom, sorry.
-/
import Derived.Test.YtjaghpkmbgcabaaChecked
import GoSem.Claim
import GoSem.ClaimJoined
import GoSem.ClaimMapViews
import Derived.JoinedTies
import Derived.KernelRfl
namespace Go.Proofs.Ytjaghpkmbgcabaa
/- THE CELL 'sum', in the pinned program and in every row, IS THE sha256 OF THE DUMP (.gsa) THAT YtjaghpkmbgcabaaProg.lean LOADS. Nothing in Lean hashes anything: it is a label: what it is worth is what the hold of that sum in a sandbox is worth. -/
noncomputable def Try.pinned : Pinned := { name := "ytjaghpkmbgcabaa", sum := "c70eb3681d4ed4dfa6b682fb4d314f1a7edd5b31ecf3e3c6016f385473ac8d75", checked := Try.checked }
namespace Rows
def none {H : Type} : Left H := { results := [], args := [] }

/-- 'roadkeep3.TurnDone': WHATEVER THE INPUT: true; the input reads as it did. -/
def turnDoneSpec : ChangeSpec := { name := "turnDone", fn := fun _ => fun
  | [d1, d2] => { results := [.lit (.bool true)], args := [d1, d2] }
  | _ => none }
def turnDoneRow : OpenClaim := { program := "ytjaghpkmbgcabaa", sum := "c70eb3681d4ed4dfa6b682fb4d314f1a7edd5b31ecf3e3c6016f385473ac8d75", func := "roadstead/roadkeep3.TurnDone", spec := "turnDone", unfollowed := true, recurses := true, apart := false }
def TurnDoneSaid : Prop := turnDoneRow.holds Try.pinned (OpenSpec.ofChange turnDoneSpec)

/-- ITS FALSE NEIGHBOUR: 'it returns false'. Refute it at one input. -/
def turnDoneWrong : ChangeSpec := { name := "turnDone", fn := fun _ => fun
  | [d1, d2] => { results := [.lit (.bool false)], args := [d1, d2] }
  | _ => none }
def TurnDoneWrongFalsely : Prop := turnDoneRow.holds Try.pinned (OpenSpec.ofChange turnDoneWrong)

/-- 'roadkeep3.TurnLag': WHATEVER THE INPUT: true; the input reads as it did. -/
def turnLagSpec : ChangeSpec := { name := "turnLag", fn := fun _ => fun
  | [d1, d2] => { results := [.lit (.bool true)], args := [d1, d2] }
  | _ => none }
def turnLagRow : OpenClaim := { program := "ytjaghpkmbgcabaa", sum := "c70eb3681d4ed4dfa6b682fb4d314f1a7edd5b31ecf3e3c6016f385473ac8d75", func := "roadstead/roadkeep3.TurnLag", spec := "turnLag", unfollowed := true, recurses := true, apart := false }
def TurnLagSaid : Prop := turnLagRow.holds Try.pinned (OpenSpec.ofChange turnLagSpec)

/-- ITS FALSE NEIGHBOUR: 'it returns false'. Refute it at one input. -/
def turnLagWrong : ChangeSpec := { name := "turnLag", fn := fun _ => fun
  | [d1, d2] => { results := [.lit (.bool false)], args := [d1, d2] }
  | _ => none }
def TurnLagWrongFalsely : Prop := turnLagRow.holds Try.pinned (OpenSpec.ofChange turnLagWrong)

/-- 'roadkeep3.TurnFair': WHATEVER THE INPUT: true; the input reads as it did. -/
def turnFairSpec : ChangeSpec := { name := "turnFair", fn := fun _ => fun
  | [d1, d2] => { results := [.lit (.bool true)], args := [d1, d2] }
  | _ => none }
def turnFairRow : OpenClaim := { program := "ytjaghpkmbgcabaa", sum := "c70eb3681d4ed4dfa6b682fb4d314f1a7edd5b31ecf3e3c6016f385473ac8d75", func := "roadstead/roadkeep3.TurnFair", spec := "turnFair", recurses := true, apart := false }
def TurnFairSaid : Prop := turnFairRow.holds Try.pinned (OpenSpec.ofChange turnFairSpec)

/-- ITS FALSE NEIGHBOUR: 'it returns false'. Refute it at one input. -/
def turnFairWrong : ChangeSpec := { name := "turnFair", fn := fun _ => fun
  | [d1, d2] => { results := [.lit (.bool false)], args := [d1, d2] }
  | _ => none }
def TurnFairWrongFalsely : Prop := turnFairRow.holds Try.pinned (OpenSpec.ofChange turnFairWrong)

/-- 'roadkeep3.TurnWaits': WHATEVER THE INPUT: true; the input reads as it did. -/
def turnWaitsSpec : ChangeSpec := { name := "turnWaits", fn := fun _ => fun
  | [d1, d2, d3] => { results := [.lit (.bool true)], args := [d1, d2, d3] }
  | _ => none }
def turnWaitsRow : OpenClaim := { program := "ytjaghpkmbgcabaa", sum := "c70eb3681d4ed4dfa6b682fb4d314f1a7edd5b31ecf3e3c6016f385473ac8d75", func := "roadstead/roadkeep3.TurnWaits", spec := "turnWaits", recurses := true, apart := false }
def TurnWaitsSaid : Prop := turnWaitsRow.holds Try.pinned (OpenSpec.ofChange turnWaitsSpec)

/-- ITS FALSE NEIGHBOUR: 'it returns false'. Refute it at one input. -/
def turnWaitsWrong : ChangeSpec := { name := "turnWaits", fn := fun _ => fun
  | [d1, d2, d3] => { results := [.lit (.bool false)], args := [d1, d2, d3] }
  | _ => none }
def TurnWaitsWrongFalsely : Prop := turnWaitsRow.holds Try.pinned (OpenSpec.ofChange turnWaitsWrong)

/-- 'roadkeep3.StealOwn': WHATEVER THE INPUT: true; the input reads as it did. -/
def stealOwnSpec : ChangeSpec := { name := "stealOwn", fn := fun _ => fun
  | [d1, d2, d3] => { results := [.lit (.bool true)], args := [d1, d2, d3] }
  | _ => none }
def stealOwnRow : OpenClaim := { program := "ytjaghpkmbgcabaa", sum := "c70eb3681d4ed4dfa6b682fb4d314f1a7edd5b31ecf3e3c6016f385473ac8d75", func := "roadstead/roadkeep3.StealOwn", spec := "stealOwn", apart := false }
def StealOwnSaid : Prop := stealOwnRow.holds Try.pinned (OpenSpec.ofChange stealOwnSpec)

/-- ITS FALSE NEIGHBOUR: 'it returns false'. Refute it at one input. -/
def stealOwnWrong : ChangeSpec := { name := "stealOwn", fn := fun _ => fun
  | [d1, d2, d3] => { results := [.lit (.bool false)], args := [d1, d2, d3] }
  | _ => none }
def StealOwnWrongFalsely : Prop := stealOwnRow.holds Try.pinned (OpenSpec.ofChange stealOwnWrong)

/-- 'roadkeep3.StealHalf': WHATEVER THE INPUT: true; the input reads as it did. -/
def stealHalfSpec : ChangeSpec := { name := "stealHalf", fn := fun _ => fun
  | [d1, d2] => { results := [.lit (.bool true)], args := [d1, d2] }
  | _ => none }
def stealHalfRow : OpenClaim := { program := "ytjaghpkmbgcabaa", sum := "c70eb3681d4ed4dfa6b682fb4d314f1a7edd5b31ecf3e3c6016f385473ac8d75", func := "roadstead/roadkeep3.StealHalf", spec := "stealHalf", apart := false }
def StealHalfSaid : Prop := stealHalfRow.holds Try.pinned (OpenSpec.ofChange stealHalfSpec)

/-- ITS FALSE NEIGHBOUR: 'it returns false'. Refute it at one input. -/
def stealHalfWrong : ChangeSpec := { name := "stealHalf", fn := fun _ => fun
  | [d1, d2] => { results := [.lit (.bool false)], args := [d1, d2] }
  | _ => none }
def StealHalfWrongFalsely : Prop := stealHalfRow.holds Try.pinned (OpenSpec.ofChange stealHalfWrong)

/-- 'roadkeep3.StealBusy': WHATEVER THE INPUT: true; the input reads as it did. -/
def stealBusySpec : ChangeSpec := { name := "stealBusy", fn := fun _ => fun
  | [d1, d2] => { results := [.lit (.bool true)], args := [d1, d2] }
  | _ => none }
def stealBusyRow : OpenClaim := { program := "ytjaghpkmbgcabaa", sum := "c70eb3681d4ed4dfa6b682fb4d314f1a7edd5b31ecf3e3c6016f385473ac8d75", func := "roadstead/roadkeep3.StealBusy", spec := "stealBusy", apart := false }
def StealBusySaid : Prop := stealBusyRow.holds Try.pinned (OpenSpec.ofChange stealBusySpec)

/-- ITS FALSE NEIGHBOUR: 'it returns false'. Refute it at one input. -/
def stealBusyWrong : ChangeSpec := { name := "stealBusy", fn := fun _ => fun
  | [d1, d2] => { results := [.lit (.bool false)], args := [d1, d2] }
  | _ => none }
def StealBusyWrongFalsely : Prop := stealBusyRow.holds Try.pinned (OpenSpec.ofChange stealBusyWrong)

/-- 'roadkeep3.StealOnce': WHATEVER THE INPUT: true; the input reads as it did. -/
def stealOnceSpec : ChangeSpec := { name := "stealOnce", fn := fun _ => fun
  | [d1, d2] => { results := [.lit (.bool true)], args := [d1, d2] }
  | _ => none }
def stealOnceRow : OpenClaim := { program := "ytjaghpkmbgcabaa", sum := "c70eb3681d4ed4dfa6b682fb4d314f1a7edd5b31ecf3e3c6016f385473ac8d75", func := "roadstead/roadkeep3.StealOnce", spec := "stealOnce", recurses := true, apart := false }
def StealOnceSaid : Prop := stealOnceRow.holds Try.pinned (OpenSpec.ofChange stealOnceSpec)

/-- ITS FALSE NEIGHBOUR: 'it returns false'. Refute it at one input. -/
def stealOnceWrong : ChangeSpec := { name := "stealOnce", fn := fun _ => fun
  | [d1, d2] => { results := [.lit (.bool false)], args := [d1, d2] }
  | _ => none }
def StealOnceWrongFalsely : Prop := stealOnceRow.holds Try.pinned (OpenSpec.ofChange stealOnceWrong)

/- THE SECOND FORM. 'bulk': how many values and letters a reading holds, each counted each time it is reached (what is shared counts as often as it is met; a slice's spare places count too). A statement '..UptoSaid' is the law's where the arguments, and the package variables that the reading takes, are together of bulk at most 1048576: NARROWER than '..Said'. Prove '..Said' where nothing that the law and all that it calls make is longer than what came in: it says more and counts as full. Else prove '..UptoSaid'. A law counts once. -/
mutual
def uptoBulk {H : Type} : DataW H → Nat
  | .lit (.string bytes) => bytes.length + 1
  | .lit _ => 1
  | .nil => 1
  | .ptr d => uptoBulk d + 1
  | .slice elems spare => uptoBulkAll elems + uptoBulkAll spare + 1
  | .agg parts => uptoBulkAll parts + 1
  | .iface _ d => uptoBulk d + 1
  | .map entries => uptoBulkEntries entries + 1
  | .held _ => 1
def uptoBulkAll {H : Type} : List (DataW H) → Nat
  | [] => 0
  | d :: r => uptoBulk d + uptoBulkAll r
def uptoBulkEntries {H : Type} : List (Lit × DataW H) → Nat
  | [] => 0
  | x :: r => uptoBulkEntry x + uptoBulkEntries r
def uptoBulkEntry {H : Type} : Lit × DataW H → Nat
  | (.string bytes, d) => bytes.length + uptoBulk d + 1
  | (_, d) => uptoBulk d + 1
 end
def uptoSmall : (H : Type) → List (DataW H) → Bool := fun _ ds => decide (uptoBulkAll ds ≤ 1048576)
def OpenSpec.upto (s : _root_.Go.ChangeSpec) : _root_.Go.OpenSpec := { _root_.Go.OpenSpec.ofChange s with cond := some uptoSmall }

/-- 'roadkeep3.TurnDone', WHERE WHAT IT READS IS OF BULK AT MOST 1048576: true; the input reads as it did. -/
def turnDoneUptoRow : OpenClaim := { program := "ytjaghpkmbgcabaa", sum := "c70eb3681d4ed4dfa6b682fb4d314f1a7edd5b31ecf3e3c6016f385473ac8d75", func := "roadstead/roadkeep3.TurnDone", spec := "turnDone", unfollowed := true, recurses := true, apart := false, narrowed := true }
def TurnDoneUptoSaid : Prop := turnDoneUptoRow.holds Try.pinned (OpenSpec.upto turnDoneSpec)

/-- 'roadkeep3.TurnLag', WHERE WHAT IT READS IS OF BULK AT MOST 1048576: true; the input reads as it did. -/
def turnLagUptoRow : OpenClaim := { program := "ytjaghpkmbgcabaa", sum := "c70eb3681d4ed4dfa6b682fb4d314f1a7edd5b31ecf3e3c6016f385473ac8d75", func := "roadstead/roadkeep3.TurnLag", spec := "turnLag", unfollowed := true, recurses := true, apart := false, narrowed := true }
def TurnLagUptoSaid : Prop := turnLagUptoRow.holds Try.pinned (OpenSpec.upto turnLagSpec)

/-- 'roadkeep3.TurnFair', WHERE WHAT IT READS IS OF BULK AT MOST 1048576: true; the input reads as it did. -/
def turnFairUptoRow : OpenClaim := { program := "ytjaghpkmbgcabaa", sum := "c70eb3681d4ed4dfa6b682fb4d314f1a7edd5b31ecf3e3c6016f385473ac8d75", func := "roadstead/roadkeep3.TurnFair", spec := "turnFair", recurses := true, apart := false, narrowed := true }
def TurnFairUptoSaid : Prop := turnFairUptoRow.holds Try.pinned (OpenSpec.upto turnFairSpec)

/-- 'roadkeep3.TurnWaits', WHERE WHAT IT READS IS OF BULK AT MOST 1048576: true; the input reads as it did. -/
def turnWaitsUptoRow : OpenClaim := { program := "ytjaghpkmbgcabaa", sum := "c70eb3681d4ed4dfa6b682fb4d314f1a7edd5b31ecf3e3c6016f385473ac8d75", func := "roadstead/roadkeep3.TurnWaits", spec := "turnWaits", recurses := true, apart := false, narrowed := true }
def TurnWaitsUptoSaid : Prop := turnWaitsUptoRow.holds Try.pinned (OpenSpec.upto turnWaitsSpec)

/-- 'roadkeep3.StealOwn', WHERE WHAT IT READS IS OF BULK AT MOST 1048576: true; the input reads as it did. -/
def stealOwnUptoRow : OpenClaim := { program := "ytjaghpkmbgcabaa", sum := "c70eb3681d4ed4dfa6b682fb4d314f1a7edd5b31ecf3e3c6016f385473ac8d75", func := "roadstead/roadkeep3.StealOwn", spec := "stealOwn", apart := false, narrowed := true }
def StealOwnUptoSaid : Prop := stealOwnUptoRow.holds Try.pinned (OpenSpec.upto stealOwnSpec)

/-- 'roadkeep3.StealHalf', WHERE WHAT IT READS IS OF BULK AT MOST 1048576: true; the input reads as it did. -/
def stealHalfUptoRow : OpenClaim := { program := "ytjaghpkmbgcabaa", sum := "c70eb3681d4ed4dfa6b682fb4d314f1a7edd5b31ecf3e3c6016f385473ac8d75", func := "roadstead/roadkeep3.StealHalf", spec := "stealHalf", apart := false, narrowed := true }
def StealHalfUptoSaid : Prop := stealHalfUptoRow.holds Try.pinned (OpenSpec.upto stealHalfSpec)

/-- 'roadkeep3.StealBusy', WHERE WHAT IT READS IS OF BULK AT MOST 1048576: true; the input reads as it did. -/
def stealBusyUptoRow : OpenClaim := { program := "ytjaghpkmbgcabaa", sum := "c70eb3681d4ed4dfa6b682fb4d314f1a7edd5b31ecf3e3c6016f385473ac8d75", func := "roadstead/roadkeep3.StealBusy", spec := "stealBusy", apart := false, narrowed := true }
def StealBusyUptoSaid : Prop := stealBusyUptoRow.holds Try.pinned (OpenSpec.upto stealBusySpec)

/-- 'roadkeep3.StealOnce', WHERE WHAT IT READS IS OF BULK AT MOST 1048576: true; the input reads as it did. -/
def stealOnceUptoRow : OpenClaim := { program := "ytjaghpkmbgcabaa", sum := "c70eb3681d4ed4dfa6b682fb4d314f1a7edd5b31ecf3e3c6016f385473ac8d75", func := "roadstead/roadkeep3.StealOnce", spec := "stealOnce", recurses := true, apart := false, narrowed := true }
def StealOnceUptoSaid : Prop := stealOnceUptoRow.holds Try.pinned (OpenSpec.upto stealOnceSpec)

end Rows
end Go.Proofs.Ytjaghpkmbgcabaa
