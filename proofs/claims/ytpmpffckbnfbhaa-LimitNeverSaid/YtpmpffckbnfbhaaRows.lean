/-
  No cell of these rows narrows 'for every input' (looked for: loops, veiled, ifaces, maps, wideKeys, modest, calm, conditions, laid).
  DERIVED. THE GIVEN ROWS OF THIS SEAT. 7 by the template 'for every input the law returns true; each argument reads behind the call as it read before'; 0 by the template 'total and deterministic' (their statements: YtpmpffckbnfbhaaTotals.lean).
  GIVEN WITH THE SEED: the statements are not yours to turn. If you find one false, say at which input.
  Laid BY PROGRAM, IN A SANDBOX (cutbox-rows.mjs): the forced cells as the released guide's own fill.sh prints them over the translation 02360b4a94257491… (all of the seat's roots in one cut). By AI agents, Wed Nov 11 2026. No macro, syntax, notation, axiom, sorry.
-/
import Derived.Test.YtpmpffckbnfbhaaChecked
import GoSem.Claim
import GoSem.ClaimJoined
import GoSem.ClaimMapViews
import Derived.JoinedTies
import Derived.KernelRfl
namespace Go.Proofs.Ytpmpffckbnfbhaa
/- THE CELL 'sum', in the pinned program and in every row, IS THE sha256 OF THE DUMP (.gsa) THAT YtpmpffckbnfbhaaProg.lean LOADS. Nothing in Lean hashes anything: it is a label: what it is worth is what the hold of that sum in a sandbox is worth. -/
noncomputable def Try.pinned : Pinned := { name := "ytpmpffckbnfbhaa", sum := "02360b4a942574917a1f6d66e7db2be623787f15ca906ec1ef7328f1487fe2d3", checked := Try.checked }
namespace Rows
def none {H : Type} : Left H := { results := [], args := [] }

/-- 'roadkeep3.BlobOnce': WHATEVER THE INPUT: true; the input reads as it did. -/
def blobOnceSpec : ChangeSpec := { name := "blobOnce", fn := fun _ => fun
  | [d1, d2] => { results := [.lit (.bool true)], args := [d1, d2] }
  | _ => none }
def blobOnceRow : OpenClaim := { program := "ytpmpffckbnfbhaa", sum := "02360b4a942574917a1f6d66e7db2be623787f15ca906ec1ef7328f1487fe2d3", func := "roadstead/roadkeep3.BlobOnce", spec := "blobOnce", unfollowed := true, recurses := true, apart := false }
def BlobOnceSaid : Prop := blobOnceRow.holds Try.pinned (OpenSpec.ofChange blobOnceSpec)

/-- ITS FALSE NEIGHBOUR: 'it returns false'. Refute it at one input. -/
def blobOnceWrong : ChangeSpec := { name := "blobOnce", fn := fun _ => fun
  | [d1, d2] => { results := [.lit (.bool false)], args := [d1, d2] }
  | _ => none }
def BlobOnceWrongFalsely : Prop := blobOnceRow.holds Try.pinned (OpenSpec.ofChange blobOnceWrong)

/-- 'roadkeep3.BlobApart': WHATEVER THE INPUT: true; the input reads as it did. -/
def blobApartSpec : ChangeSpec := { name := "blobApart", fn := fun _ => fun
  | [d1, d2, d3, d4] => { results := [.lit (.bool true)], args := [d1, d2, d3, d4] }
  | _ => none }
def blobApartRow : OpenClaim := { program := "ytpmpffckbnfbhaa", sum := "02360b4a942574917a1f6d66e7db2be623787f15ca906ec1ef7328f1487fe2d3", func := "roadstead/roadkeep3.BlobApart", spec := "blobApart", unfollowed := true, recurses := true, apart := false }
def BlobApartSaid : Prop := blobApartRow.holds Try.pinned (OpenSpec.ofChange blobApartSpec)

/-- ITS FALSE NEIGHBOUR: 'it returns false'. Refute it at one input. -/
def blobApartWrong : ChangeSpec := { name := "blobApart", fn := fun _ => fun
  | [d1, d2, d3, d4] => { results := [.lit (.bool false)], args := [d1, d2, d3, d4] }
  | _ => none }
def BlobApartWrongFalsely : Prop := blobApartRow.holds Try.pinned (OpenSpec.ofChange blobApartWrong)

/-- 'roadkeep3.BlobBack': WHATEVER THE INPUT: true; the input reads as it did. -/
def blobBackSpec : ChangeSpec := { name := "blobBack", fn := fun _ => fun
  | [d1, d2] => { results := [.lit (.bool true)], args := [d1, d2] }
  | _ => none }
def blobBackRow : OpenClaim := { program := "ytpmpffckbnfbhaa", sum := "02360b4a942574917a1f6d66e7db2be623787f15ca906ec1ef7328f1487fe2d3", func := "roadstead/roadkeep3.BlobBack", spec := "blobBack", unfollowed := true, recurses := true, apart := false }
def BlobBackSaid : Prop := blobBackRow.holds Try.pinned (OpenSpec.ofChange blobBackSpec)

/-- ITS FALSE NEIGHBOUR: 'it returns false'. Refute it at one input. -/
def blobBackWrong : ChangeSpec := { name := "blobBack", fn := fun _ => fun
  | [d1, d2] => { results := [.lit (.bool false)], args := [d1, d2] }
  | _ => none }
def BlobBackWrongFalsely : Prop := blobBackRow.holds Try.pinned (OpenSpec.ofChange blobBackWrong)

/-- 'roadkeep3.LimitFull': WHATEVER THE INPUT: true; the input reads as it did. -/
def limitFullSpec : ChangeSpec := { name := "limitFull", fn := fun _ => fun
  | [d1, d2, d3, d4] => { results := [.lit (.bool true)], args := [d1, d2, d3, d4] }
  | _ => none }
def limitFullRow : OpenClaim := { program := "ytpmpffckbnfbhaa", sum := "02360b4a942574917a1f6d66e7db2be623787f15ca906ec1ef7328f1487fe2d3", func := "roadstead/roadkeep3.LimitFull", spec := "limitFull", unfollowed := true, recurses := true, apart := false }
def LimitFullSaid : Prop := limitFullRow.holds Try.pinned (OpenSpec.ofChange limitFullSpec)

/-- ITS FALSE NEIGHBOUR: 'it returns false'. Refute it at one input. -/
def limitFullWrong : ChangeSpec := { name := "limitFull", fn := fun _ => fun
  | [d1, d2, d3, d4] => { results := [.lit (.bool false)], args := [d1, d2, d3, d4] }
  | _ => none }
def LimitFullWrongFalsely : Prop := limitFullRow.holds Try.pinned (OpenSpec.ofChange limitFullWrong)

/-- 'roadkeep3.LimitSum': WHATEVER THE INPUT: true; the input reads as it did. -/
def limitSumSpec : ChangeSpec := { name := "limitSum", fn := fun _ => fun
  | [d1, d2, d3, d4, d5] => { results := [.lit (.bool true)], args := [d1, d2, d3, d4, d5] }
  | _ => none }
def limitSumRow : OpenClaim := { program := "ytpmpffckbnfbhaa", sum := "02360b4a942574917a1f6d66e7db2be623787f15ca906ec1ef7328f1487fe2d3", func := "roadstead/roadkeep3.LimitSum", spec := "limitSum", inPlace := ["slices.overlaps[roadstead/limit.Row]"], unfollowed := true, recurses := true, apart := false }
def LimitSumSaid : Prop := limitSumRow.holds Try.pinned (OpenSpec.ofChange limitSumSpec)

/-- ITS FALSE NEIGHBOUR: 'it returns false'. Refute it at one input. -/
def limitSumWrong : ChangeSpec := { name := "limitSum", fn := fun _ => fun
  | [d1, d2, d3, d4, d5] => { results := [.lit (.bool false)], args := [d1, d2, d3, d4, d5] }
  | _ => none }
def LimitSumWrongFalsely : Prop := limitSumRow.holds Try.pinned (OpenSpec.ofChange limitSumWrong)

/-- 'roadkeep3.LimitNever': WHATEVER THE INPUT: true; the input reads as it did. -/
def limitNeverSpec : ChangeSpec := { name := "limitNever", fn := fun _ => fun
  | [d1, d2] => { results := [.lit (.bool true)], args := [d1, d2] }
  | _ => none }
def limitNeverRow : OpenClaim := { program := "ytpmpffckbnfbhaa", sum := "02360b4a942574917a1f6d66e7db2be623787f15ca906ec1ef7328f1487fe2d3", func := "roadstead/roadkeep3.LimitNever", spec := "limitNever", inPlace := ["slices.overlaps[roadstead/limit.Row]"], unfollowed := true, recurses := true, apart := false }
def LimitNeverSaid : Prop := limitNeverRow.holds Try.pinned (OpenSpec.ofChange limitNeverSpec)

/-- ITS FALSE NEIGHBOUR: 'it returns false'. Refute it at one input. -/
def limitNeverWrong : ChangeSpec := { name := "limitNever", fn := fun _ => fun
  | [d1, d2] => { results := [.lit (.bool false)], args := [d1, d2] }
  | _ => none }
def LimitNeverWrongFalsely : Prop := limitNeverRow.holds Try.pinned (OpenSpec.ofChange limitNeverWrong)

/-- 'roadkeep3.LimitTurns': WHATEVER THE INPUT: true; the input reads as it did. -/
def limitTurnsSpec : ChangeSpec := { name := "limitTurns", fn := fun _ => fun
  | [d1, d2, d3, d4, d5] => { results := [.lit (.bool true)], args := [d1, d2, d3, d4, d5] }
  | _ => none }
def limitTurnsRow : OpenClaim := { program := "ytpmpffckbnfbhaa", sum := "02360b4a942574917a1f6d66e7db2be623787f15ca906ec1ef7328f1487fe2d3", func := "roadstead/roadkeep3.LimitTurns", spec := "limitTurns", inPlace := ["slices.overlaps[roadstead/limit.Row]"], unfollowed := true, recurses := true, apart := false }
def LimitTurnsSaid : Prop := limitTurnsRow.holds Try.pinned (OpenSpec.ofChange limitTurnsSpec)

/-- ITS FALSE NEIGHBOUR: 'it returns false'. Refute it at one input. -/
def limitTurnsWrong : ChangeSpec := { name := "limitTurns", fn := fun _ => fun
  | [d1, d2, d3, d4, d5] => { results := [.lit (.bool false)], args := [d1, d2, d3, d4, d5] }
  | _ => none }
def LimitTurnsWrongFalsely : Prop := limitTurnsRow.holds Try.pinned (OpenSpec.ofChange limitTurnsWrong)

/- THE SECOND FORM. 'bulk': how many values and letters a reading holds, each counted each time it is reached (what is shared counts as often as it is met; a slice's spare places count too). A statement '..UptoSaid' is the law's where the arguments, and the package variables that the reading takes, are together of bulk at most 1048576: NARROWER than '..Said'. Prove '..Said' where nothing that the law and all that it calls make is longer than what came in: it says more and counts as full. Else prove '..UptoSaid'. A law counts once. -/
mutual
def uptoBulk {H : Type} : DataW H → Nat
  | .lit (.string bytes) => bytes.length + 1
  | .lit _ => 1
  | .nil => 1
  | .ptr d => uptoBulk d + 1
  | .slice elems spare => uptoBulkAll elems + uptoBulkAll spare + 1
  | .agg parts => uptoBulkAll parts + 1
  | .iface _ d => uptoBulk d + 1
  | .map entries => uptoBulkEntries entries + 1
  | .held _ => 1
def uptoBulkAll {H : Type} : List (DataW H) → Nat
  | [] => 0
  | d :: r => uptoBulk d + uptoBulkAll r
def uptoBulkEntries {H : Type} : List (Lit × DataW H) → Nat
  | [] => 0
  | x :: r => uptoBulkEntry x + uptoBulkEntries r
def uptoBulkEntry {H : Type} : Lit × DataW H → Nat
  | (.string bytes, d) => bytes.length + uptoBulk d + 1
  | (_, d) => uptoBulk d + 1
 end
def uptoSmall : (H : Type) → List (DataW H) → Bool := fun _ ds => decide (uptoBulkAll ds ≤ 1048576)
def OpenSpec.upto (s : _root_.Go.ChangeSpec) : _root_.Go.OpenSpec := { _root_.Go.OpenSpec.ofChange s with cond := some uptoSmall }

/-- 'roadkeep3.BlobOnce', WHERE WHAT IT READS IS OF BULK AT MOST 1048576: true; the input reads as it did. -/
def blobOnceUptoRow : OpenClaim := { program := "ytpmpffckbnfbhaa", sum := "02360b4a942574917a1f6d66e7db2be623787f15ca906ec1ef7328f1487fe2d3", func := "roadstead/roadkeep3.BlobOnce", spec := "blobOnce", unfollowed := true, recurses := true, apart := false, narrowed := true }
def BlobOnceUptoSaid : Prop := blobOnceUptoRow.holds Try.pinned (OpenSpec.upto blobOnceSpec)

/-- 'roadkeep3.BlobApart', WHERE WHAT IT READS IS OF BULK AT MOST 1048576: true; the input reads as it did. -/
def blobApartUptoRow : OpenClaim := { program := "ytpmpffckbnfbhaa", sum := "02360b4a942574917a1f6d66e7db2be623787f15ca906ec1ef7328f1487fe2d3", func := "roadstead/roadkeep3.BlobApart", spec := "blobApart", unfollowed := true, recurses := true, apart := false, narrowed := true }
def BlobApartUptoSaid : Prop := blobApartUptoRow.holds Try.pinned (OpenSpec.upto blobApartSpec)

/-- 'roadkeep3.BlobBack', WHERE WHAT IT READS IS OF BULK AT MOST 1048576: true; the input reads as it did. -/
def blobBackUptoRow : OpenClaim := { program := "ytpmpffckbnfbhaa", sum := "02360b4a942574917a1f6d66e7db2be623787f15ca906ec1ef7328f1487fe2d3", func := "roadstead/roadkeep3.BlobBack", spec := "blobBack", unfollowed := true, recurses := true, apart := false, narrowed := true }
def BlobBackUptoSaid : Prop := blobBackUptoRow.holds Try.pinned (OpenSpec.upto blobBackSpec)

/-- 'roadkeep3.LimitFull', WHERE WHAT IT READS IS OF BULK AT MOST 1048576: true; the input reads as it did. -/
def limitFullUptoRow : OpenClaim := { program := "ytpmpffckbnfbhaa", sum := "02360b4a942574917a1f6d66e7db2be623787f15ca906ec1ef7328f1487fe2d3", func := "roadstead/roadkeep3.LimitFull", spec := "limitFull", unfollowed := true, recurses := true, apart := false, narrowed := true }
def LimitFullUptoSaid : Prop := limitFullUptoRow.holds Try.pinned (OpenSpec.upto limitFullSpec)

/-- 'roadkeep3.LimitSum', WHERE WHAT IT READS IS OF BULK AT MOST 1048576: true; the input reads as it did. -/
def limitSumUptoRow : OpenClaim := { program := "ytpmpffckbnfbhaa", sum := "02360b4a942574917a1f6d66e7db2be623787f15ca906ec1ef7328f1487fe2d3", func := "roadstead/roadkeep3.LimitSum", spec := "limitSum", inPlace := ["slices.overlaps[roadstead/limit.Row]"], unfollowed := true, recurses := true, apart := false, narrowed := true }
def LimitSumUptoSaid : Prop := limitSumUptoRow.holds Try.pinned (OpenSpec.upto limitSumSpec)

/-- 'roadkeep3.LimitNever', WHERE WHAT IT READS IS OF BULK AT MOST 1048576: true; the input reads as it did. -/
def limitNeverUptoRow : OpenClaim := { program := "ytpmpffckbnfbhaa", sum := "02360b4a942574917a1f6d66e7db2be623787f15ca906ec1ef7328f1487fe2d3", func := "roadstead/roadkeep3.LimitNever", spec := "limitNever", inPlace := ["slices.overlaps[roadstead/limit.Row]"], unfollowed := true, recurses := true, apart := false, narrowed := true }
def LimitNeverUptoSaid : Prop := limitNeverUptoRow.holds Try.pinned (OpenSpec.upto limitNeverSpec)

/-- 'roadkeep3.LimitTurns', WHERE WHAT IT READS IS OF BULK AT MOST 1048576: true; the input reads as it did. -/
def limitTurnsUptoRow : OpenClaim := { program := "ytpmpffckbnfbhaa", sum := "02360b4a942574917a1f6d66e7db2be623787f15ca906ec1ef7328f1487fe2d3", func := "roadstead/roadkeep3.LimitTurns", spec := "limitTurns", inPlace := ["slices.overlaps[roadstead/limit.Row]"], unfollowed := true, recurses := true, apart := false, narrowed := true }
def LimitTurnsUptoSaid : Prop := limitTurnsUptoRow.holds Try.pinned (OpenSpec.upto limitTurnsSpec)

end Rows
end Go.Proofs.Ytpmpffckbnfbhaa
