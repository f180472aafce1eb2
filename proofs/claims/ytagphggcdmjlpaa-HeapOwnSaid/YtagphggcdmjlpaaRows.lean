/-
  NARROWER THAN 'FOR EVERY INPUT', by the rows' own cells (each row's printed sentence says how): HeapWhole: loops · HeapRight: loops · YoungRight: loops · YoungTwice: loops · YoungDies: loops · YoungKeeps: loops.
  DERIVED. THE GIVEN ROWS OF THIS SEAT. 12 by the template 'for every input the law returns true; each argument reads behind the call as it read before'; 0 by the template 'total and deterministic' (their statements: YtagphggcdmjlpaaTotals.lean).
  GIVEN WITH THE SEED: the statements are not yours to turn. If you find one false, say at which input.
  Laid BY PROGRAM, IN A SANDBOX (cutbox-rows.mjs): the forced cells as the released guide's own fill.sh prints them over the translation ca7b02791f64c1df… (all of the seat's roots in one cut). By AI agents, Wed Nov 11 2026. No macro, syntax, notation, axiom, sorry.
-/
import Derived.Test.YtagphggcdmjlpaaChecked
import GoSem.Claim
import GoSem.ClaimJoined
import GoSem.ClaimMapViews
import Derived.JoinedTies
import Derived.KernelRfl
namespace Go.Proofs.Ytagphggcdmjlpaa
/- THE CELL 'sum', in the pinned program and in every row, IS THE sha256 OF THE DUMP (.gsa) THAT YtagphggcdmjlpaaProg.lean LOADS. Nothing in Lean hashes anything: it is a label: what it is worth is what the hold of that sum in a sandbox is worth. -/
noncomputable def Try.pinned : Pinned := { name := "ytagphggcdmjlpaa", sum := "ca7b02791f64c1df0b694d9e77a22ee7e920e478c8c87f0251b5d5317a376567", checked := Try.checked }
namespace Rows
def none {H : Type} : Left H := { results := [], args := [] }

/-- 'roadkeep3.HeapAll': WHATEVER THE INPUT: true; the input reads as it did. -/
def heapAllSpec : ChangeSpec := { name := "heapAll", fn := fun _ => fun
  | [d] => { results := [.lit (.bool true)], args := [d] }
  | _ => none }
def heapAllRow : OpenClaim := { program := "ytagphggcdmjlpaa", sum := "ca7b02791f64c1df0b694d9e77a22ee7e920e478c8c87f0251b5d5317a376567", func := "roadstead/roadkeep3.HeapAll", spec := "heapAll", recurses := true, apart := false }
def HeapAllSaid : Prop := heapAllRow.holds Try.pinned (OpenSpec.ofChange heapAllSpec)

/-- ITS FALSE NEIGHBOUR: 'it returns false'. Refute it at one input. -/
def heapAllWrong : ChangeSpec := { name := "heapAll", fn := fun _ => fun
  | [d] => { results := [.lit (.bool false)], args := [d] }
  | _ => none }
def HeapAllWrongFalsely : Prop := heapAllRow.holds Try.pinned (OpenSpec.ofChange heapAllWrong)

/-- 'roadkeep3.HeapWhole': WHATEVER THE INPUT: true; the input reads as it did. -/
def heapWholeSpec : ChangeSpec := { name := "heapWhole", fn := fun _ => fun
  | [d1, d2, d3] => { results := [.lit (.bool true)], args := [d1, d2, d3] }
  | _ => none }
def heapWholeRow : OpenClaim := { program := "ytagphggcdmjlpaa", sum := "ca7b02791f64c1df0b694d9e77a22ee7e920e478c8c87f0251b5d5317a376567", func := "roadstead/roadkeep3.HeapWhole", spec := "heapWhole", unfollowed := true, recurses := true, loops := true, apart := false }
def HeapWholeSaid : Prop := heapWholeRow.holds Try.pinned (OpenSpec.ofChange heapWholeSpec)

/-- ITS FALSE NEIGHBOUR: 'it returns false'. Refute it at one input. -/
def heapWholeWrong : ChangeSpec := { name := "heapWhole", fn := fun _ => fun
  | [d1, d2, d3] => { results := [.lit (.bool false)], args := [d1, d2, d3] }
  | _ => none }
def HeapWholeWrongFalsely : Prop := heapWholeRow.holds Try.pinned (OpenSpec.ofChange heapWholeWrong)

/-- 'roadkeep3.HeapRight': WHATEVER THE INPUT: true; the input reads as it did. -/
def heapRightSpec : ChangeSpec := { name := "heapRight", fn := fun _ => fun
  | [d1, d2, d3] => { results := [.lit (.bool true)], args := [d1, d2, d3] }
  | _ => none }
def heapRightRow : OpenClaim := { program := "ytagphggcdmjlpaa", sum := "ca7b02791f64c1df0b694d9e77a22ee7e920e478c8c87f0251b5d5317a376567", func := "roadstead/roadkeep3.HeapRight", spec := "heapRight", recurses := true, loops := true, apart := false }
def HeapRightSaid : Prop := heapRightRow.holds Try.pinned (OpenSpec.ofChange heapRightSpec)

/-- ITS FALSE NEIGHBOUR: 'it returns false'. Refute it at one input. -/
def heapRightWrong : ChangeSpec := { name := "heapRight", fn := fun _ => fun
  | [d1, d2, d3] => { results := [.lit (.bool false)], args := [d1, d2, d3] }
  | _ => none }
def HeapRightWrongFalsely : Prop := heapRightRow.holds Try.pinned (OpenSpec.ofChange heapRightWrong)

/-- 'roadkeep3.CarryShares': WHATEVER THE INPUT: true; the input reads as it did. -/
def carrySharesSpec : ChangeSpec := { name := "carryShares", fn := fun _ => fun
  | [d1, d2, d3] => { results := [.lit (.bool true)], args := [d1, d2, d3] }
  | _ => none }
def carrySharesRow : OpenClaim := { program := "ytagphggcdmjlpaa", sum := "ca7b02791f64c1df0b694d9e77a22ee7e920e478c8c87f0251b5d5317a376567", func := "roadstead/roadkeep3.CarryShares", spec := "carryShares", unfollowed := true, recurses := true, apart := false }
def CarrySharesSaid : Prop := carrySharesRow.holds Try.pinned (OpenSpec.ofChange carrySharesSpec)

/-- ITS FALSE NEIGHBOUR: 'it returns false'. Refute it at one input. -/
def carrySharesWrong : ChangeSpec := { name := "carryShares", fn := fun _ => fun
  | [d1, d2, d3] => { results := [.lit (.bool false)], args := [d1, d2, d3] }
  | _ => none }
def CarrySharesWrongFalsely : Prop := carrySharesRow.holds Try.pinned (OpenSpec.ofChange carrySharesWrong)

/-- 'roadkeep3.CarryGoes': WHATEVER THE INPUT: true; the input reads as it did. -/
def carryGoesSpec : ChangeSpec := { name := "carryGoes", fn := fun _ => fun
  | [d1, d2, d3] => { results := [.lit (.bool true)], args := [d1, d2, d3] }
  | _ => none }
def carryGoesRow : OpenClaim := { program := "ytagphggcdmjlpaa", sum := "ca7b02791f64c1df0b694d9e77a22ee7e920e478c8c87f0251b5d5317a376567", func := "roadstead/roadkeep3.CarryGoes", spec := "carryGoes", unfollowed := true, recurses := true, apart := false }
def CarryGoesSaid : Prop := carryGoesRow.holds Try.pinned (OpenSpec.ofChange carryGoesSpec)

/-- ITS FALSE NEIGHBOUR: 'it returns false'. Refute it at one input. -/
def carryGoesWrong : ChangeSpec := { name := "carryGoes", fn := fun _ => fun
  | [d1, d2, d3] => { results := [.lit (.bool false)], args := [d1, d2, d3] }
  | _ => none }
def CarryGoesWrongFalsely : Prop := carryGoesRow.holds Try.pinned (OpenSpec.ofChange carryGoesWrong)

/-- 'roadkeep3.CarryAlike': WHATEVER THE INPUT: true; the input reads as it did. -/
def carryAlikeSpec : ChangeSpec := { name := "carryAlike", fn := fun _ => fun
  | [d1, d2, d3] => { results := [.lit (.bool true)], args := [d1, d2, d3] }
  | _ => none }
def carryAlikeRow : OpenClaim := { program := "ytagphggcdmjlpaa", sum := "ca7b02791f64c1df0b694d9e77a22ee7e920e478c8c87f0251b5d5317a376567", func := "roadstead/roadkeep3.CarryAlike", spec := "carryAlike", unfollowed := true, recurses := true, apart := false }
def CarryAlikeSaid : Prop := carryAlikeRow.holds Try.pinned (OpenSpec.ofChange carryAlikeSpec)

/-- ITS FALSE NEIGHBOUR: 'it returns false'. Refute it at one input. -/
def carryAlikeWrong : ChangeSpec := { name := "carryAlike", fn := fun _ => fun
  | [d1, d2, d3] => { results := [.lit (.bool false)], args := [d1, d2, d3] }
  | _ => none }
def CarryAlikeWrongFalsely : Prop := carryAlikeRow.holds Try.pinned (OpenSpec.ofChange carryAlikeWrong)

/-- 'roadkeep3.YoungSets': WHATEVER THE INPUT: true; the input reads as it did. -/
def youngSetsSpec : ChangeSpec := { name := "youngSets", fn := fun _ => fun
  | [d1, d2, d3, d4] => { results := [.lit (.bool true)], args := [d1, d2, d3, d4] }
  | _ => none }
def youngSetsRow : OpenClaim := { program := "ytagphggcdmjlpaa", sum := "ca7b02791f64c1df0b694d9e77a22ee7e920e478c8c87f0251b5d5317a376567", func := "roadstead/roadkeep3.YoungSets", spec := "youngSets", inPlace := ["slices.overlaps[int]"], unfollowed := true, recurses := true, apart := false }
def YoungSetsSaid : Prop := youngSetsRow.holds Try.pinned (OpenSpec.ofChange youngSetsSpec)

/-- ITS FALSE NEIGHBOUR: 'it returns false'. Refute it at one input. -/
def youngSetsWrong : ChangeSpec := { name := "youngSets", fn := fun _ => fun
  | [d1, d2, d3, d4] => { results := [.lit (.bool false)], args := [d1, d2, d3, d4] }
  | _ => none }
def YoungSetsWrongFalsely : Prop := youngSetsRow.holds Try.pinned (OpenSpec.ofChange youngSetsWrong)

/-- 'roadkeep3.YoungRight': WHATEVER THE INPUT: true; the input reads as it did. -/
def youngRightSpec : ChangeSpec := { name := "youngRight", fn := fun _ => fun
  | [d1, d2, d3] => { results := [.lit (.bool true)], args := [d1, d2, d3] }
  | _ => none }
def youngRightRow : OpenClaim := { program := "ytagphggcdmjlpaa", sum := "ca7b02791f64c1df0b694d9e77a22ee7e920e478c8c87f0251b5d5317a376567", func := "roadstead/roadkeep3.YoungRight", spec := "youngRight", inPlace := ["slices.overlaps[int]"], unfollowed := true, recurses := true, loops := true, apart := false }
def YoungRightSaid : Prop := youngRightRow.holds Try.pinned (OpenSpec.ofChange youngRightSpec)

/-- ITS FALSE NEIGHBOUR: 'it returns false'. Refute it at one input. -/
def youngRightWrong : ChangeSpec := { name := "youngRight", fn := fun _ => fun
  | [d1, d2, d3] => { results := [.lit (.bool false)], args := [d1, d2, d3] }
  | _ => none }
def YoungRightWrongFalsely : Prop := youngRightRow.holds Try.pinned (OpenSpec.ofChange youngRightWrong)

/-- 'roadkeep3.YoungTwice': WHATEVER THE INPUT: true; the input reads as it did. -/
def youngTwiceSpec : ChangeSpec := { name := "youngTwice", fn := fun _ => fun
  | [d1, d2, d3] => { results := [.lit (.bool true)], args := [d1, d2, d3] }
  | _ => none }
def youngTwiceRow : OpenClaim := { program := "ytagphggcdmjlpaa", sum := "ca7b02791f64c1df0b694d9e77a22ee7e920e478c8c87f0251b5d5317a376567", func := "roadstead/roadkeep3.YoungTwice", spec := "youngTwice", inPlace := ["slices.overlaps[int]"], unfollowed := true, recurses := true, loops := true, apart := false }
def YoungTwiceSaid : Prop := youngTwiceRow.holds Try.pinned (OpenSpec.ofChange youngTwiceSpec)

/-- ITS FALSE NEIGHBOUR: 'it returns false'. Refute it at one input. -/
def youngTwiceWrong : ChangeSpec := { name := "youngTwice", fn := fun _ => fun
  | [d1, d2, d3] => { results := [.lit (.bool false)], args := [d1, d2, d3] }
  | _ => none }
def YoungTwiceWrongFalsely : Prop := youngTwiceRow.holds Try.pinned (OpenSpec.ofChange youngTwiceWrong)

/-- 'roadkeep3.YoungDies': WHATEVER THE INPUT: true; the input reads as it did. -/
def youngDiesSpec : ChangeSpec := { name := "youngDies", fn := fun _ => fun
  | [d1, d2, d3] => { results := [.lit (.bool true)], args := [d1, d2, d3] }
  | _ => none }
def youngDiesRow : OpenClaim := { program := "ytagphggcdmjlpaa", sum := "ca7b02791f64c1df0b694d9e77a22ee7e920e478c8c87f0251b5d5317a376567", func := "roadstead/roadkeep3.YoungDies", spec := "youngDies", inPlace := ["slices.overlaps[int]"], unfollowed := true, recurses := true, loops := true, apart := false }
def YoungDiesSaid : Prop := youngDiesRow.holds Try.pinned (OpenSpec.ofChange youngDiesSpec)

/-- ITS FALSE NEIGHBOUR: 'it returns false'. Refute it at one input. -/
def youngDiesWrong : ChangeSpec := { name := "youngDies", fn := fun _ => fun
  | [d1, d2, d3] => { results := [.lit (.bool false)], args := [d1, d2, d3] }
  | _ => none }
def YoungDiesWrongFalsely : Prop := youngDiesRow.holds Try.pinned (OpenSpec.ofChange youngDiesWrong)

/-- 'roadkeep3.YoungKeeps': WHATEVER THE INPUT: true; the input reads as it did. -/
def youngKeepsSpec : ChangeSpec := { name := "youngKeeps", fn := fun _ => fun
  | [d1, d2, d3] => { results := [.lit (.bool true)], args := [d1, d2, d3] }
  | _ => none }
def youngKeepsRow : OpenClaim := { program := "ytagphggcdmjlpaa", sum := "ca7b02791f64c1df0b694d9e77a22ee7e920e478c8c87f0251b5d5317a376567", func := "roadstead/roadkeep3.YoungKeeps", spec := "youngKeeps", inPlace := ["slices.overlaps[int]"], unfollowed := true, recurses := true, loops := true, apart := false }
def YoungKeepsSaid : Prop := youngKeepsRow.holds Try.pinned (OpenSpec.ofChange youngKeepsSpec)

/-- ITS FALSE NEIGHBOUR: 'it returns false'. Refute it at one input. -/
def youngKeepsWrong : ChangeSpec := { name := "youngKeeps", fn := fun _ => fun
  | [d1, d2, d3] => { results := [.lit (.bool false)], args := [d1, d2, d3] }
  | _ => none }
def YoungKeepsWrongFalsely : Prop := youngKeepsRow.holds Try.pinned (OpenSpec.ofChange youngKeepsWrong)

/-- 'roadkeep3.HeapOwn': WHATEVER THE INPUT: true; the input reads as it did. -/
def heapOwnSpec : ChangeSpec := { name := "heapOwn", fn := fun _ => fun
  | [d1, d2, d3, d4, d5, d6, d7] => { results := [.lit (.bool true)], args := [d1, d2, d3, d4, d5, d6, d7] }
  | _ => none }
def heapOwnRow : OpenClaim := { program := "ytagphggcdmjlpaa", sum := "ca7b02791f64c1df0b694d9e77a22ee7e920e478c8c87f0251b5d5317a376567", func := "roadstead/roadkeep3.HeapOwn", spec := "heapOwn", inPlace := ["slices.overlaps[int]"], unfollowed := true, recurses := true, apart := false }
def HeapOwnSaid : Prop := heapOwnRow.holds Try.pinned (OpenSpec.ofChange heapOwnSpec)

/-- ITS FALSE NEIGHBOUR: 'it returns false'. Refute it at one input. -/
def heapOwnWrong : ChangeSpec := { name := "heapOwn", fn := fun _ => fun
  | [d1, d2, d3, d4, d5, d6, d7] => { results := [.lit (.bool false)], args := [d1, d2, d3, d4, d5, d6, d7] }
  | _ => none }
def HeapOwnWrongFalsely : Prop := heapOwnRow.holds Try.pinned (OpenSpec.ofChange heapOwnWrong)

/- THE SECOND FORM. 'bulk': how many values and letters a reading holds, each counted each time it is reached (what is shared counts as often as it is met; a slice's spare places count too). A statement '..UptoSaid' is the law's where the arguments, and the package variables that the reading takes, are together of bulk at most 1048576: NARROWER than '..Said'. Prove '..Said' where nothing that the law and all that it calls make is longer than what came in: it says more and counts as full. Else prove '..UptoSaid'. A law counts once. -/
mutual
def uptoBulk {H : Type} : DataW H → Nat
  | .lit (.string bytes) => bytes.length + 1
  | .lit _ => 1
  | .nil => 1
  | .ptr d => uptoBulk d + 1
  | .slice elems spare => uptoBulkAll elems + uptoBulkAll spare + 1
  | .agg parts => uptoBulkAll parts + 1
  | .iface _ d => uptoBulk d + 1
  | .map entries => uptoBulkEntries entries + 1
  | .held _ => 1
def uptoBulkAll {H : Type} : List (DataW H) → Nat
  | [] => 0
  | d :: r => uptoBulk d + uptoBulkAll r
def uptoBulkEntries {H : Type} : List (Lit × DataW H) → Nat
  | [] => 0
  | x :: r => uptoBulkEntry x + uptoBulkEntries r
def uptoBulkEntry {H : Type} : Lit × DataW H → Nat
  | (.string bytes, d) => bytes.length + uptoBulk d + 1
  | (_, d) => uptoBulk d + 1
 end
def uptoSmall : (H : Type) → List (DataW H) → Bool := fun _ ds => decide (uptoBulkAll ds ≤ 1048576)
def OpenSpec.upto (s : _root_.Go.ChangeSpec) : _root_.Go.OpenSpec := { _root_.Go.OpenSpec.ofChange s with cond := some uptoSmall }

/-- 'roadkeep3.HeapAll', WHERE WHAT IT READS IS OF BULK AT MOST 1048576: true; the input reads as it did. -/
def heapAllUptoRow : OpenClaim := { program := "ytagphggcdmjlpaa", sum := "ca7b02791f64c1df0b694d9e77a22ee7e920e478c8c87f0251b5d5317a376567", func := "roadstead/roadkeep3.HeapAll", spec := "heapAll", recurses := true, apart := false, narrowed := true }
def HeapAllUptoSaid : Prop := heapAllUptoRow.holds Try.pinned (OpenSpec.upto heapAllSpec)

/-- 'roadkeep3.HeapWhole', WHERE WHAT IT READS IS OF BULK AT MOST 1048576: true; the input reads as it did. -/
def heapWholeUptoRow : OpenClaim := { program := "ytagphggcdmjlpaa", sum := "ca7b02791f64c1df0b694d9e77a22ee7e920e478c8c87f0251b5d5317a376567", func := "roadstead/roadkeep3.HeapWhole", spec := "heapWhole", unfollowed := true, recurses := true, loops := true, apart := false, narrowed := true }
def HeapWholeUptoSaid : Prop := heapWholeUptoRow.holds Try.pinned (OpenSpec.upto heapWholeSpec)

/-- 'roadkeep3.HeapRight', WHERE WHAT IT READS IS OF BULK AT MOST 1048576: true; the input reads as it did. -/
def heapRightUptoRow : OpenClaim := { program := "ytagphggcdmjlpaa", sum := "ca7b02791f64c1df0b694d9e77a22ee7e920e478c8c87f0251b5d5317a376567", func := "roadstead/roadkeep3.HeapRight", spec := "heapRight", recurses := true, loops := true, apart := false, narrowed := true }
def HeapRightUptoSaid : Prop := heapRightUptoRow.holds Try.pinned (OpenSpec.upto heapRightSpec)

/-- 'roadkeep3.CarryShares', WHERE WHAT IT READS IS OF BULK AT MOST 1048576: true; the input reads as it did. -/
def carrySharesUptoRow : OpenClaim := { program := "ytagphggcdmjlpaa", sum := "ca7b02791f64c1df0b694d9e77a22ee7e920e478c8c87f0251b5d5317a376567", func := "roadstead/roadkeep3.CarryShares", spec := "carryShares", unfollowed := true, recurses := true, apart := false, narrowed := true }
def CarrySharesUptoSaid : Prop := carrySharesUptoRow.holds Try.pinned (OpenSpec.upto carrySharesSpec)

/-- 'roadkeep3.CarryGoes', WHERE WHAT IT READS IS OF BULK AT MOST 1048576: true; the input reads as it did. -/
def carryGoesUptoRow : OpenClaim := { program := "ytagphggcdmjlpaa", sum := "ca7b02791f64c1df0b694d9e77a22ee7e920e478c8c87f0251b5d5317a376567", func := "roadstead/roadkeep3.CarryGoes", spec := "carryGoes", unfollowed := true, recurses := true, apart := false, narrowed := true }
def CarryGoesUptoSaid : Prop := carryGoesUptoRow.holds Try.pinned (OpenSpec.upto carryGoesSpec)

/-- 'roadkeep3.CarryAlike', WHERE WHAT IT READS IS OF BULK AT MOST 1048576: true; the input reads as it did. -/
def carryAlikeUptoRow : OpenClaim := { program := "ytagphggcdmjlpaa", sum := "ca7b02791f64c1df0b694d9e77a22ee7e920e478c8c87f0251b5d5317a376567", func := "roadstead/roadkeep3.CarryAlike", spec := "carryAlike", unfollowed := true, recurses := true, apart := false, narrowed := true }
def CarryAlikeUptoSaid : Prop := carryAlikeUptoRow.holds Try.pinned (OpenSpec.upto carryAlikeSpec)

/-- 'roadkeep3.YoungSets', WHERE WHAT IT READS IS OF BULK AT MOST 1048576: true; the input reads as it did. -/
def youngSetsUptoRow : OpenClaim := { program := "ytagphggcdmjlpaa", sum := "ca7b02791f64c1df0b694d9e77a22ee7e920e478c8c87f0251b5d5317a376567", func := "roadstead/roadkeep3.YoungSets", spec := "youngSets", inPlace := ["slices.overlaps[int]"], unfollowed := true, recurses := true, apart := false, narrowed := true }
def YoungSetsUptoSaid : Prop := youngSetsUptoRow.holds Try.pinned (OpenSpec.upto youngSetsSpec)

/-- 'roadkeep3.YoungRight', WHERE WHAT IT READS IS OF BULK AT MOST 1048576: true; the input reads as it did. -/
def youngRightUptoRow : OpenClaim := { program := "ytagphggcdmjlpaa", sum := "ca7b02791f64c1df0b694d9e77a22ee7e920e478c8c87f0251b5d5317a376567", func := "roadstead/roadkeep3.YoungRight", spec := "youngRight", inPlace := ["slices.overlaps[int]"], unfollowed := true, recurses := true, loops := true, apart := false, narrowed := true }
def YoungRightUptoSaid : Prop := youngRightUptoRow.holds Try.pinned (OpenSpec.upto youngRightSpec)

/-- 'roadkeep3.YoungTwice', WHERE WHAT IT READS IS OF BULK AT MOST 1048576: true; the input reads as it did. -/
def youngTwiceUptoRow : OpenClaim := { program := "ytagphggcdmjlpaa", sum := "ca7b02791f64c1df0b694d9e77a22ee7e920e478c8c87f0251b5d5317a376567", func := "roadstead/roadkeep3.YoungTwice", spec := "youngTwice", inPlace := ["slices.overlaps[int]"], unfollowed := true, recurses := true, loops := true, apart := false, narrowed := true }
def YoungTwiceUptoSaid : Prop := youngTwiceUptoRow.holds Try.pinned (OpenSpec.upto youngTwiceSpec)

/-- 'roadkeep3.YoungDies', WHERE WHAT IT READS IS OF BULK AT MOST 1048576: true; the input reads as it did. -/
def youngDiesUptoRow : OpenClaim := { program := "ytagphggcdmjlpaa", sum := "ca7b02791f64c1df0b694d9e77a22ee7e920e478c8c87f0251b5d5317a376567", func := "roadstead/roadkeep3.YoungDies", spec := "youngDies", inPlace := ["slices.overlaps[int]"], unfollowed := true, recurses := true, loops := true, apart := false, narrowed := true }
def YoungDiesUptoSaid : Prop := youngDiesUptoRow.holds Try.pinned (OpenSpec.upto youngDiesSpec)

/-- 'roadkeep3.YoungKeeps', WHERE WHAT IT READS IS OF BULK AT MOST 1048576: true; the input reads as it did. -/
def youngKeepsUptoRow : OpenClaim := { program := "ytagphggcdmjlpaa", sum := "ca7b02791f64c1df0b694d9e77a22ee7e920e478c8c87f0251b5d5317a376567", func := "roadstead/roadkeep3.YoungKeeps", spec := "youngKeeps", inPlace := ["slices.overlaps[int]"], unfollowed := true, recurses := true, loops := true, apart := false, narrowed := true }
def YoungKeepsUptoSaid : Prop := youngKeepsUptoRow.holds Try.pinned (OpenSpec.upto youngKeepsSpec)

/-- 'roadkeep3.HeapOwn', WHERE WHAT IT READS IS OF BULK AT MOST 1048576: true; the input reads as it did. -/
def heapOwnUptoRow : OpenClaim := { program := "ytagphggcdmjlpaa", sum := "ca7b02791f64c1df0b694d9e77a22ee7e920e478c8c87f0251b5d5317a376567", func := "roadstead/roadkeep3.HeapOwn", spec := "heapOwn", inPlace := ["slices.overlaps[int]"], unfollowed := true, recurses := true, apart := false, narrowed := true }
def HeapOwnUptoSaid : Prop := heapOwnUptoRow.holds Try.pinned (OpenSpec.upto heapOwnSpec)

end Rows
end Go.Proofs.Ytagphggcdmjlpaa
