/-
  NARROWER THAN 'FOR EVERY INPUT', by the rows' own cells (each row's printed sentence says how): LinkNone: loops.
  DERIVED. THE GIVEN ROWS OF THIS SEAT. 8 by the template 'for every input the law returns true; each argument reads behind the call as it read before'; 0 by the template 'total and deterministic' (their statements: YtfjfiemcdnicoaaTotals.lean).
  GIVEN WITH THE SEED: the statements are not yours to turn. If you find one false, say at which input.
  Laid BY PROGRAM, IN A SANDBOX (cutbox-rows.mjs): the forced cells as the released guide's own fill.sh prints them over the translation 67fe2d927c01167d… (all of the seat's roots in one cut). By AI agents, Wed Nov 11 2026. No macro, syntax, notation, axiom, sorry.
-/
import Derived.Test.YtfjfiemcdnicoaaChecked
import GoSem.Claim
import GoSem.ClaimJoined
import GoSem.ClaimMapViews
import Derived.JoinedTies
import Derived.KernelRfl
namespace Go.Proofs.Ytfjfiemcdnicoaa
/- THE CELL 'sum', in the pinned program and in every row, IS THE sha256 OF THE DUMP (.gsa) THAT YtfjfiemcdnicoaaProg.lean LOADS. Nothing in Lean hashes anything: it is a label: what it is worth is what the hold of that sum in a sandbox is worth. -/
noncomputable def Try.pinned : Pinned := { name := "ytfjfiemcdnicoaa", sum := "67fe2d927c01167d630d3869b3c1b3894f344ca3315e713dad7ad6e8308c97b4", checked := Try.checked }
namespace Rows
def none {H : Type} : Left H := { results := [], args := [] }

/-- 'roadkeep3.LinkNone': WHATEVER THE INPUT: true; the input reads as it did. -/
def linkNoneSpec : ChangeSpec := { name := "linkNone", fn := fun _ => fun
  | [d] => { results := [.lit (.bool true)], args := [d] }
  | _ => none }
def linkNoneRow : OpenClaim := { program := "ytfjfiemcdnicoaa", sum := "67fe2d927c01167d630d3869b3c1b3894f344ca3315e713dad7ad6e8308c97b4", func := "roadstead/roadkeep3.LinkNone", spec := "linkNone", inPlace := ["slices.overlaps[roadstead/link.Row]"], unfollowed := true, recurses := true, loops := true, apart := false }
def LinkNoneSaid : Prop := linkNoneRow.holds Try.pinned (OpenSpec.ofChange linkNoneSpec)

/-- ITS FALSE NEIGHBOUR: 'it returns false'. Refute it at one input. -/
def linkNoneWrong : ChangeSpec := { name := "linkNone", fn := fun _ => fun
  | [d] => { results := [.lit (.bool false)], args := [d] }
  | _ => none }
def LinkNoneWrongFalsely : Prop := linkNoneRow.holds Try.pinned (OpenSpec.ofChange linkNoneWrong)

/-- 'roadkeep3.LinkTold': WHATEVER THE INPUT: true; the input reads as it did. -/
def linkToldSpec : ChangeSpec := { name := "linkTold", fn := fun _ => fun
  | [d1, d2, d3, d4] => { results := [.lit (.bool true)], args := [d1, d2, d3, d4] }
  | _ => none }
def linkToldRow : OpenClaim := { program := "ytfjfiemcdnicoaa", sum := "67fe2d927c01167d630d3869b3c1b3894f344ca3315e713dad7ad6e8308c97b4", func := "roadstead/roadkeep3.LinkTold", spec := "linkTold", inPlace := ["slices.overlaps[roadstead/link.Row]"], unfollowed := true, recurses := true, apart := false }
def LinkToldSaid : Prop := linkToldRow.holds Try.pinned (OpenSpec.ofChange linkToldSpec)

/-- ITS FALSE NEIGHBOUR: 'it returns false'. Refute it at one input. -/
def linkToldWrong : ChangeSpec := { name := "linkTold", fn := fun _ => fun
  | [d1, d2, d3, d4] => { results := [.lit (.bool false)], args := [d1, d2, d3, d4] }
  | _ => none }
def LinkToldWrongFalsely : Prop := linkToldRow.holds Try.pinned (OpenSpec.ofChange linkToldWrong)

/-- 'roadkeep3.LinkOnce': WHATEVER THE INPUT: true; the input reads as it did. -/
def linkOnceSpec : ChangeSpec := { name := "linkOnce", fn := fun _ => fun
  | [d1, d2, d3] => { results := [.lit (.bool true)], args := [d1, d2, d3] }
  | _ => none }
def linkOnceRow : OpenClaim := { program := "ytfjfiemcdnicoaa", sum := "67fe2d927c01167d630d3869b3c1b3894f344ca3315e713dad7ad6e8308c97b4", func := "roadstead/roadkeep3.LinkOnce", spec := "linkOnce", inPlace := ["slices.overlaps[roadstead/link.Row]"], unfollowed := true, recurses := true, apart := false }
def LinkOnceSaid : Prop := linkOnceRow.holds Try.pinned (OpenSpec.ofChange linkOnceSpec)

/-- ITS FALSE NEIGHBOUR: 'it returns false'. Refute it at one input. -/
def linkOnceWrong : ChangeSpec := { name := "linkOnce", fn := fun _ => fun
  | [d1, d2, d3] => { results := [.lit (.bool false)], args := [d1, d2, d3] }
  | _ => none }
def LinkOnceWrongFalsely : Prop := linkOnceRow.holds Try.pinned (OpenSpec.ofChange linkOnceWrong)

/-- 'roadkeep3.LinkApart': WHATEVER THE INPUT: true; the input reads as it did. -/
def linkApartSpec : ChangeSpec := { name := "linkApart", fn := fun _ => fun
  | [d1, d2, d3, d4] => { results := [.lit (.bool true)], args := [d1, d2, d3, d4] }
  | _ => none }
def linkApartRow : OpenClaim := { program := "ytfjfiemcdnicoaa", sum := "67fe2d927c01167d630d3869b3c1b3894f344ca3315e713dad7ad6e8308c97b4", func := "roadstead/roadkeep3.LinkApart", spec := "linkApart", inPlace := ["slices.overlaps[roadstead/link.Row]"], unfollowed := true, recurses := true, apart := false }
def LinkApartSaid : Prop := linkApartRow.holds Try.pinned (OpenSpec.ofChange linkApartSpec)

/-- ITS FALSE NEIGHBOUR: 'it returns false'. Refute it at one input. -/
def linkApartWrong : ChangeSpec := { name := "linkApart", fn := fun _ => fun
  | [d1, d2, d3, d4] => { results := [.lit (.bool false)], args := [d1, d2, d3, d4] }
  | _ => none }
def LinkApartWrongFalsely : Prop := linkApartRow.holds Try.pinned (OpenSpec.ofChange linkApartWrong)

/-- 'roadkeep3.TimerOut': WHATEVER THE INPUT: true; the input reads as it did. -/
def timerOutSpec : ChangeSpec := { name := "timerOut", fn := fun _ => fun
  | [d1, d2, d3] => { results := [.lit (.bool true)], args := [d1, d2, d3] }
  | _ => none }
def timerOutRow : OpenClaim := { program := "ytfjfiemcdnicoaa", sum := "67fe2d927c01167d630d3869b3c1b3894f344ca3315e713dad7ad6e8308c97b4", func := "roadstead/roadkeep3.TimerOut", spec := "timerOut", inPlace := ["slices.overlaps[roadstead/timer.Due]"], unfollowed := true, recurses := true, apart := false }
def TimerOutSaid : Prop := timerOutRow.holds Try.pinned (OpenSpec.ofChange timerOutSpec)

/-- ITS FALSE NEIGHBOUR: 'it returns false'. Refute it at one input. -/
def timerOutWrong : ChangeSpec := { name := "timerOut", fn := fun _ => fun
  | [d1, d2, d3] => { results := [.lit (.bool false)], args := [d1, d2, d3] }
  | _ => none }
def TimerOutWrongFalsely : Prop := timerOutRow.holds Try.pinned (OpenSpec.ofChange timerOutWrong)

/-- 'roadkeep3.TimerSorted': WHATEVER THE INPUT: true; the input reads as it did. -/
def timerSortedSpec : ChangeSpec := { name := "timerSorted", fn := fun _ => fun
  | [d1, d2] => { results := [.lit (.bool true)], args := [d1, d2] }
  | _ => none }
def timerSortedRow : OpenClaim := { program := "ytfjfiemcdnicoaa", sum := "67fe2d927c01167d630d3869b3c1b3894f344ca3315e713dad7ad6e8308c97b4", func := "roadstead/roadkeep3.TimerSorted", spec := "timerSorted", inPlace := ["slices.overlaps[roadstead/timer.Due]"], unfollowed := true, recurses := true, apart := false }
def TimerSortedSaid : Prop := timerSortedRow.holds Try.pinned (OpenSpec.ofChange timerSortedSpec)

/-- ITS FALSE NEIGHBOUR: 'it returns false'. Refute it at one input. -/
def timerSortedWrong : ChangeSpec := { name := "timerSorted", fn := fun _ => fun
  | [d1, d2] => { results := [.lit (.bool false)], args := [d1, d2] }
  | _ => none }
def TimerSortedWrongFalsely : Prop := timerSortedRow.holds Try.pinned (OpenSpec.ofChange timerSortedWrong)

/-- 'roadkeep3.TimerComes': WHATEVER THE INPUT: true; the input reads as it did. -/
def timerComesSpec : ChangeSpec := { name := "timerComes", fn := fun _ => fun
  | [d1, d2, d3, d4] => { results := [.lit (.bool true)], args := [d1, d2, d3, d4] }
  | _ => none }
def timerComesRow : OpenClaim := { program := "ytfjfiemcdnicoaa", sum := "67fe2d927c01167d630d3869b3c1b3894f344ca3315e713dad7ad6e8308c97b4", func := "roadstead/roadkeep3.TimerComes", spec := "timerComes", inPlace := ["slices.overlaps[roadstead/timer.Due]"], unfollowed := true, recurses := true, apart := false }
def TimerComesSaid : Prop := timerComesRow.holds Try.pinned (OpenSpec.ofChange timerComesSpec)

/-- ITS FALSE NEIGHBOUR: 'it returns false'. Refute it at one input. -/
def timerComesWrong : ChangeSpec := { name := "timerComes", fn := fun _ => fun
  | [d1, d2, d3, d4] => { results := [.lit (.bool false)], args := [d1, d2, d3, d4] }
  | _ => none }
def TimerComesWrongFalsely : Prop := timerComesRow.holds Try.pinned (OpenSpec.ofChange timerComesWrong)

/-- 'roadkeep3.TimerParts': WHATEVER THE INPUT: true; the input reads as it did. -/
def timerPartsSpec : ChangeSpec := { name := "timerParts", fn := fun _ => fun
  | [d1, d2, d3] => { results := [.lit (.bool true)], args := [d1, d2, d3] }
  | _ => none }
def timerPartsRow : OpenClaim := { program := "ytfjfiemcdnicoaa", sum := "67fe2d927c01167d630d3869b3c1b3894f344ca3315e713dad7ad6e8308c97b4", func := "roadstead/roadkeep3.TimerParts", spec := "timerParts", inPlace := ["slices.overlaps[roadstead/timer.Due]"], unfollowed := true, recurses := true, apart := false }
def TimerPartsSaid : Prop := timerPartsRow.holds Try.pinned (OpenSpec.ofChange timerPartsSpec)

/-- ITS FALSE NEIGHBOUR: 'it returns false'. Refute it at one input. -/
def timerPartsWrong : ChangeSpec := { name := "timerParts", fn := fun _ => fun
  | [d1, d2, d3] => { results := [.lit (.bool false)], args := [d1, d2, d3] }
  | _ => none }
def TimerPartsWrongFalsely : Prop := timerPartsRow.holds Try.pinned (OpenSpec.ofChange timerPartsWrong)

/- THE SECOND FORM. 'bulk': how many values and letters a reading holds, each counted each time it is reached (what is shared counts as often as it is met; a slice's spare places count too). A statement '..UptoSaid' is the law's where the arguments, and the package variables that the reading takes, are together of bulk at most 1048576: NARROWER than '..Said'. Prove '..Said' where nothing that the law and all that it calls make is longer than what came in: it says more and counts as full. Else prove '..UptoSaid'. A law counts once. -/
mutual
def uptoBulk {H : Type} : DataW H → Nat
  | .lit (.string bytes) => bytes.length + 1
  | .lit _ => 1
  | .nil => 1
  | .ptr d => uptoBulk d + 1
  | .slice elems spare => uptoBulkAll elems + uptoBulkAll spare + 1
  | .agg parts => uptoBulkAll parts + 1
  | .iface _ d => uptoBulk d + 1
  | .map entries => uptoBulkEntries entries + 1
  | .held _ => 1
def uptoBulkAll {H : Type} : List (DataW H) → Nat
  | [] => 0
  | d :: r => uptoBulk d + uptoBulkAll r
def uptoBulkEntries {H : Type} : List (Lit × DataW H) → Nat
  | [] => 0
  | x :: r => uptoBulkEntry x + uptoBulkEntries r
def uptoBulkEntry {H : Type} : Lit × DataW H → Nat
  | (.string bytes, d) => bytes.length + uptoBulk d + 1
  | (_, d) => uptoBulk d + 1
 end
def uptoSmall : (H : Type) → List (DataW H) → Bool := fun _ ds => decide (uptoBulkAll ds ≤ 1048576)
def OpenSpec.upto (s : _root_.Go.ChangeSpec) : _root_.Go.OpenSpec := { _root_.Go.OpenSpec.ofChange s with cond := some uptoSmall }

/-- 'roadkeep3.LinkNone', WHERE WHAT IT READS IS OF BULK AT MOST 1048576: true; the input reads as it did. -/
def linkNoneUptoRow : OpenClaim := { program := "ytfjfiemcdnicoaa", sum := "67fe2d927c01167d630d3869b3c1b3894f344ca3315e713dad7ad6e8308c97b4", func := "roadstead/roadkeep3.LinkNone", spec := "linkNone", inPlace := ["slices.overlaps[roadstead/link.Row]"], unfollowed := true, recurses := true, loops := true, apart := false, narrowed := true }
def LinkNoneUptoSaid : Prop := linkNoneUptoRow.holds Try.pinned (OpenSpec.upto linkNoneSpec)

/-- 'roadkeep3.LinkTold', WHERE WHAT IT READS IS OF BULK AT MOST 1048576: true; the input reads as it did. -/
def linkToldUptoRow : OpenClaim := { program := "ytfjfiemcdnicoaa", sum := "67fe2d927c01167d630d3869b3c1b3894f344ca3315e713dad7ad6e8308c97b4", func := "roadstead/roadkeep3.LinkTold", spec := "linkTold", inPlace := ["slices.overlaps[roadstead/link.Row]"], unfollowed := true, recurses := true, apart := false, narrowed := true }
def LinkToldUptoSaid : Prop := linkToldUptoRow.holds Try.pinned (OpenSpec.upto linkToldSpec)

/-- 'roadkeep3.LinkOnce', WHERE WHAT IT READS IS OF BULK AT MOST 1048576: true; the input reads as it did. -/
def linkOnceUptoRow : OpenClaim := { program := "ytfjfiemcdnicoaa", sum := "67fe2d927c01167d630d3869b3c1b3894f344ca3315e713dad7ad6e8308c97b4", func := "roadstead/roadkeep3.LinkOnce", spec := "linkOnce", inPlace := ["slices.overlaps[roadstead/link.Row]"], unfollowed := true, recurses := true, apart := false, narrowed := true }
def LinkOnceUptoSaid : Prop := linkOnceUptoRow.holds Try.pinned (OpenSpec.upto linkOnceSpec)

/-- 'roadkeep3.LinkApart', WHERE WHAT IT READS IS OF BULK AT MOST 1048576: true; the input reads as it did. -/
def linkApartUptoRow : OpenClaim := { program := "ytfjfiemcdnicoaa", sum := "67fe2d927c01167d630d3869b3c1b3894f344ca3315e713dad7ad6e8308c97b4", func := "roadstead/roadkeep3.LinkApart", spec := "linkApart", inPlace := ["slices.overlaps[roadstead/link.Row]"], unfollowed := true, recurses := true, apart := false, narrowed := true }
def LinkApartUptoSaid : Prop := linkApartUptoRow.holds Try.pinned (OpenSpec.upto linkApartSpec)

/-- 'roadkeep3.TimerOut', WHERE WHAT IT READS IS OF BULK AT MOST 1048576: true; the input reads as it did. -/
def timerOutUptoRow : OpenClaim := { program := "ytfjfiemcdnicoaa", sum := "67fe2d927c01167d630d3869b3c1b3894f344ca3315e713dad7ad6e8308c97b4", func := "roadstead/roadkeep3.TimerOut", spec := "timerOut", inPlace := ["slices.overlaps[roadstead/timer.Due]"], unfollowed := true, recurses := true, apart := false, narrowed := true }
def TimerOutUptoSaid : Prop := timerOutUptoRow.holds Try.pinned (OpenSpec.upto timerOutSpec)

/-- 'roadkeep3.TimerSorted', WHERE WHAT IT READS IS OF BULK AT MOST 1048576: true; the input reads as it did. -/
def timerSortedUptoRow : OpenClaim := { program := "ytfjfiemcdnicoaa", sum := "67fe2d927c01167d630d3869b3c1b3894f344ca3315e713dad7ad6e8308c97b4", func := "roadstead/roadkeep3.TimerSorted", spec := "timerSorted", inPlace := ["slices.overlaps[roadstead/timer.Due]"], unfollowed := true, recurses := true, apart := false, narrowed := true }
def TimerSortedUptoSaid : Prop := timerSortedUptoRow.holds Try.pinned (OpenSpec.upto timerSortedSpec)

/-- 'roadkeep3.TimerComes', WHERE WHAT IT READS IS OF BULK AT MOST 1048576: true; the input reads as it did. -/
def timerComesUptoRow : OpenClaim := { program := "ytfjfiemcdnicoaa", sum := "67fe2d927c01167d630d3869b3c1b3894f344ca3315e713dad7ad6e8308c97b4", func := "roadstead/roadkeep3.TimerComes", spec := "timerComes", inPlace := ["slices.overlaps[roadstead/timer.Due]"], unfollowed := true, recurses := true, apart := false, narrowed := true }
def TimerComesUptoSaid : Prop := timerComesUptoRow.holds Try.pinned (OpenSpec.upto timerComesSpec)

/-- 'roadkeep3.TimerParts', WHERE WHAT IT READS IS OF BULK AT MOST 1048576: true; the input reads as it did. -/
def timerPartsUptoRow : OpenClaim := { program := "ytfjfiemcdnicoaa", sum := "67fe2d927c01167d630d3869b3c1b3894f344ca3315e713dad7ad6e8308c97b4", func := "roadstead/roadkeep3.TimerParts", spec := "timerParts", inPlace := ["slices.overlaps[roadstead/timer.Due]"], unfollowed := true, recurses := true, apart := false, narrowed := true }
def TimerPartsUptoSaid : Prop := timerPartsUptoRow.holds Try.pinned (OpenSpec.upto timerPartsSpec)

end Rows
end Go.Proofs.Ytfjfiemcdnicoaa
