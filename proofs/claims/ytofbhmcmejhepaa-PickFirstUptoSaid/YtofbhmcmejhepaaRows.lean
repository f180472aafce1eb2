/-
  NARROWER THAN 'FOR EVERY INPUT', by the rows' own cells (each row's printed sentence says how): TermValue: loops · BoxFull: loops · BoxOrder: loops · PickFits: loops · PickAgain: loops · PickAsks: loops · PickFirst: loops.
  DERIVED. THE GIVEN ROWS OF THIS SEAT. 9 by the template 'for every input the law returns true; each argument reads behind the call as it read before'; 0 by the template 'total and deterministic' (their statements: YtofbhmcmejhepaaTotals.lean).
  GIVEN WITH THE SEED: the statements are not yours to turn. If you find one false, say at which input.
  Laid BY PROGRAM, IN A SANDBOX (cutbox-rows.mjs): the forced cells as the released guide's own fill.sh prints them over the translation fcbf087391a37f2a… (all of the seat's roots in one cut). By AI agents, Wed Nov 11 2026. No macro, syntax, notation, axiom, sorry.
-/
import Derived.Test.YtofbhmcmejhepaaChecked
import GoSem.Claim
import GoSem.ClaimJoined
import GoSem.ClaimMapViews
import Derived.JoinedTies
import Derived.KernelRfl
namespace Go.Proofs.Ytofbhmcmejhepaa
/- THE CELL 'sum', in the pinned program and in every row, IS THE sha256 OF THE DUMP (.gsa) THAT YtofbhmcmejhepaaProg.lean LOADS. Nothing in Lean hashes anything: it is a label: what it is worth is what the hold of that sum in a sandbox is worth. -/
noncomputable def Try.pinned : Pinned := { name := "ytofbhmcmejhepaa", sum := "fcbf087391a37f2a9052305d419319d2401272930b116e4607449fe34cf2025d", checked := Try.checked }
namespace Rows
def none {H : Type} : Left H := { results := [], args := [] }

/-- 'roadkeep3.TermBack': WHATEVER THE INPUT: true; the input reads as it did. -/
def termBackSpec : ChangeSpec := { name := "termBack", fn := fun _ => fun
  | [d1, d2, d3] => { results := [.lit (.bool true)], args := [d1, d2, d3] }
  | _ => none }
def termBackRow : OpenClaim := { program := "ytofbhmcmejhepaa", sum := "fcbf087391a37f2a9052305d419319d2401272930b116e4607449fe34cf2025d", func := "roadstead/roadkeep3.TermBack", spec := "termBack", apart := false }
def TermBackSaid : Prop := termBackRow.holds Try.pinned (OpenSpec.ofChange termBackSpec)

/-- ITS FALSE NEIGHBOUR: 'it returns false'. Refute it at one input. -/
def termBackWrong : ChangeSpec := { name := "termBack", fn := fun _ => fun
  | [d1, d2, d3] => { results := [.lit (.bool false)], args := [d1, d2, d3] }
  | _ => none }
def TermBackWrongFalsely : Prop := termBackRow.holds Try.pinned (OpenSpec.ofChange termBackWrong)

/-- 'roadkeep3.TermApart': WHATEVER THE INPUT: true; the input reads as it did. -/
def termApartSpec : ChangeSpec := { name := "termApart", fn := fun _ => fun
  | [d1, d2, d3, d4] => { results := [.lit (.bool true)], args := [d1, d2, d3, d4] }
  | _ => none }
def termApartRow : OpenClaim := { program := "ytofbhmcmejhepaa", sum := "fcbf087391a37f2a9052305d419319d2401272930b116e4607449fe34cf2025d", func := "roadstead/roadkeep3.TermApart", spec := "termApart", unfollowed := true, recurses := true, apart := false }
def TermApartSaid : Prop := termApartRow.holds Try.pinned (OpenSpec.ofChange termApartSpec)

/-- ITS FALSE NEIGHBOUR: 'it returns false'. Refute it at one input. -/
def termApartWrong : ChangeSpec := { name := "termApart", fn := fun _ => fun
  | [d1, d2, d3, d4] => { results := [.lit (.bool false)], args := [d1, d2, d3, d4] }
  | _ => none }
def TermApartWrongFalsely : Prop := termApartRow.holds Try.pinned (OpenSpec.ofChange termApartWrong)

/-- 'roadkeep3.TermValue': WHATEVER THE INPUT: true; the input reads as it did. -/
def termValueSpec : ChangeSpec := { name := "termValue", fn := fun _ => fun
  | [d1, d2] => { results := [.lit (.bool true)], args := [d1, d2] }
  | _ => none }
def termValueRow : OpenClaim := { program := "ytofbhmcmejhepaa", sum := "fcbf087391a37f2a9052305d419319d2401272930b116e4607449fe34cf2025d", func := "roadstead/roadkeep3.TermValue", spec := "termValue", loops := true, apart := false }
def TermValueSaid : Prop := termValueRow.holds Try.pinned (OpenSpec.ofChange termValueSpec)

/-- ITS FALSE NEIGHBOUR: 'it returns false'. Refute it at one input. -/
def termValueWrong : ChangeSpec := { name := "termValue", fn := fun _ => fun
  | [d1, d2] => { results := [.lit (.bool false)], args := [d1, d2] }
  | _ => none }
def TermValueWrongFalsely : Prop := termValueRow.holds Try.pinned (OpenSpec.ofChange termValueWrong)

/-- 'roadkeep3.BoxFull': WHATEVER THE INPUT: true; the input reads as it did. -/
def boxFullSpec : ChangeSpec := { name := "boxFull", fn := fun _ => fun
  | [d1, d2] => { results := [.lit (.bool true)], args := [d1, d2] }
  | _ => none }
def boxFullRow : OpenClaim := { program := "ytofbhmcmejhepaa", sum := "fcbf087391a37f2a9052305d419319d2401272930b116e4607449fe34cf2025d", func := "roadstead/roadkeep3.BoxFull", spec := "boxFull", recurses := true, loops := true, apart := false }
def BoxFullSaid : Prop := boxFullRow.holds Try.pinned (OpenSpec.ofChange boxFullSpec)

/-- ITS FALSE NEIGHBOUR: 'it returns false'. Refute it at one input. -/
def boxFullWrong : ChangeSpec := { name := "boxFull", fn := fun _ => fun
  | [d1, d2] => { results := [.lit (.bool false)], args := [d1, d2] }
  | _ => none }
def BoxFullWrongFalsely : Prop := boxFullRow.holds Try.pinned (OpenSpec.ofChange boxFullWrong)

/-- 'roadkeep3.BoxOrder': WHATEVER THE INPUT: true; the input reads as it did. -/
def boxOrderSpec : ChangeSpec := { name := "boxOrder", fn := fun _ => fun
  | [d1, d2, d3] => { results := [.lit (.bool true)], args := [d1, d2, d3] }
  | _ => none }
def boxOrderRow : OpenClaim := { program := "ytofbhmcmejhepaa", sum := "fcbf087391a37f2a9052305d419319d2401272930b116e4607449fe34cf2025d", func := "roadstead/roadkeep3.BoxOrder", spec := "boxOrder", unfollowed := true, recurses := true, loops := true, apart := false }
def BoxOrderSaid : Prop := boxOrderRow.holds Try.pinned (OpenSpec.ofChange boxOrderSpec)

/-- ITS FALSE NEIGHBOUR: 'it returns false'. Refute it at one input. -/
def boxOrderWrong : ChangeSpec := { name := "boxOrder", fn := fun _ => fun
  | [d1, d2, d3] => { results := [.lit (.bool false)], args := [d1, d2, d3] }
  | _ => none }
def BoxOrderWrongFalsely : Prop := boxOrderRow.holds Try.pinned (OpenSpec.ofChange boxOrderWrong)

/-- 'roadkeep3.PickFits': WHATEVER THE INPUT: true; the input reads as it did. -/
def pickFitsSpec : ChangeSpec := { name := "pickFits", fn := fun _ => fun
  | [d1, d2] => { results := [.lit (.bool true)], args := [d1, d2] }
  | _ => none }
def pickFitsRow : OpenClaim := { program := "ytofbhmcmejhepaa", sum := "fcbf087391a37f2a9052305d419319d2401272930b116e4607449fe34cf2025d", func := "roadstead/roadkeep3.PickFits", spec := "pickFits", unfollowed := true, recurses := true, loops := true, apart := false }
def PickFitsSaid : Prop := pickFitsRow.holds Try.pinned (OpenSpec.ofChange pickFitsSpec)

/-- ITS FALSE NEIGHBOUR: 'it returns false'. Refute it at one input. -/
def pickFitsWrong : ChangeSpec := { name := "pickFits", fn := fun _ => fun
  | [d1, d2] => { results := [.lit (.bool false)], args := [d1, d2] }
  | _ => none }
def PickFitsWrongFalsely : Prop := pickFitsRow.holds Try.pinned (OpenSpec.ofChange pickFitsWrong)

/-- 'roadkeep3.PickAgain': WHATEVER THE INPUT: true; the input reads as it did. -/
def pickAgainSpec : ChangeSpec := { name := "pickAgain", fn := fun _ => fun
  | [d1, d2] => { results := [.lit (.bool true)], args := [d1, d2] }
  | _ => none }
def pickAgainRow : OpenClaim := { program := "ytofbhmcmejhepaa", sum := "fcbf087391a37f2a9052305d419319d2401272930b116e4607449fe34cf2025d", func := "roadstead/roadkeep3.PickAgain", spec := "pickAgain", unfollowed := true, recurses := true, loops := true, apart := false }
def PickAgainSaid : Prop := pickAgainRow.holds Try.pinned (OpenSpec.ofChange pickAgainSpec)

/-- ITS FALSE NEIGHBOUR: 'it returns false'. Refute it at one input. -/
def pickAgainWrong : ChangeSpec := { name := "pickAgain", fn := fun _ => fun
  | [d1, d2] => { results := [.lit (.bool false)], args := [d1, d2] }
  | _ => none }
def PickAgainWrongFalsely : Prop := pickAgainRow.holds Try.pinned (OpenSpec.ofChange pickAgainWrong)

/-- 'roadkeep3.PickAsks': WHATEVER THE INPUT: true; the input reads as it did. -/
def pickAsksSpec : ChangeSpec := { name := "pickAsks", fn := fun _ => fun
  | [d1, d2, d3] => { results := [.lit (.bool true)], args := [d1, d2, d3] }
  | _ => none }
def pickAsksRow : OpenClaim := { program := "ytofbhmcmejhepaa", sum := "fcbf087391a37f2a9052305d419319d2401272930b116e4607449fe34cf2025d", func := "roadstead/roadkeep3.PickAsks", spec := "pickAsks", unfollowed := true, recurses := true, loops := true, apart := false }
def PickAsksSaid : Prop := pickAsksRow.holds Try.pinned (OpenSpec.ofChange pickAsksSpec)

/-- ITS FALSE NEIGHBOUR: 'it returns false'. Refute it at one input. -/
def pickAsksWrong : ChangeSpec := { name := "pickAsks", fn := fun _ => fun
  | [d1, d2, d3] => { results := [.lit (.bool false)], args := [d1, d2, d3] }
  | _ => none }
def PickAsksWrongFalsely : Prop := pickAsksRow.holds Try.pinned (OpenSpec.ofChange pickAsksWrong)

/-- 'roadkeep3.PickFirst': WHATEVER THE INPUT: true; the input reads as it did. -/
def pickFirstSpec : ChangeSpec := { name := "pickFirst", fn := fun _ => fun
  | [d1, d2] => { results := [.lit (.bool true)], args := [d1, d2] }
  | _ => none }
def pickFirstRow : OpenClaim := { program := "ytofbhmcmejhepaa", sum := "fcbf087391a37f2a9052305d419319d2401272930b116e4607449fe34cf2025d", func := "roadstead/roadkeep3.PickFirst", spec := "pickFirst", unfollowed := true, recurses := true, loops := true, apart := false }
def PickFirstSaid : Prop := pickFirstRow.holds Try.pinned (OpenSpec.ofChange pickFirstSpec)

/-- ITS FALSE NEIGHBOUR: 'it returns false'. Refute it at one input. -/
def pickFirstWrong : ChangeSpec := { name := "pickFirst", fn := fun _ => fun
  | [d1, d2] => { results := [.lit (.bool false)], args := [d1, d2] }
  | _ => none }
def PickFirstWrongFalsely : Prop := pickFirstRow.holds Try.pinned (OpenSpec.ofChange pickFirstWrong)

/- THE SECOND FORM. 'bulk': how many values and letters a reading holds, each counted each time it is reached (what is shared counts as often as it is met; a slice's spare places count too). A statement '..UptoSaid' is the law's where the arguments, and the package variables that the reading takes, are together of bulk at most 1048576: NARROWER than '..Said'. Prove '..Said' where nothing that the law and all that it calls make is longer than what came in: it says more and counts as full. Else prove '..UptoSaid'. A law counts once. -/
mutual
def uptoBulk {H : Type} : DataW H → Nat
  | .lit (.string bytes) => bytes.length + 1
  | .lit _ => 1
  | .nil => 1
  | .ptr d => uptoBulk d + 1
  | .slice elems spare => uptoBulkAll elems + uptoBulkAll spare + 1
  | .agg parts => uptoBulkAll parts + 1
  | .iface _ d => uptoBulk d + 1
  | .map entries => uptoBulkEntries entries + 1
  | .held _ => 1
def uptoBulkAll {H : Type} : List (DataW H) → Nat
  | [] => 0
  | d :: r => uptoBulk d + uptoBulkAll r
def uptoBulkEntries {H : Type} : List (Lit × DataW H) → Nat
  | [] => 0
  | x :: r => uptoBulkEntry x + uptoBulkEntries r
def uptoBulkEntry {H : Type} : Lit × DataW H → Nat
  | (.string bytes, d) => bytes.length + uptoBulk d + 1
  | (_, d) => uptoBulk d + 1
 end
def uptoSmall : (H : Type) → List (DataW H) → Bool := fun _ ds => decide (uptoBulkAll ds ≤ 1048576)
def OpenSpec.upto (s : _root_.Go.ChangeSpec) : _root_.Go.OpenSpec := { _root_.Go.OpenSpec.ofChange s with cond := some uptoSmall }

/-- 'roadkeep3.TermBack', WHERE WHAT IT READS IS OF BULK AT MOST 1048576: true; the input reads as it did. -/
def termBackUptoRow : OpenClaim := { program := "ytofbhmcmejhepaa", sum := "fcbf087391a37f2a9052305d419319d2401272930b116e4607449fe34cf2025d", func := "roadstead/roadkeep3.TermBack", spec := "termBack", apart := false, narrowed := true }
def TermBackUptoSaid : Prop := termBackUptoRow.holds Try.pinned (OpenSpec.upto termBackSpec)

/-- 'roadkeep3.TermApart', WHERE WHAT IT READS IS OF BULK AT MOST 1048576: true; the input reads as it did. -/
def termApartUptoRow : OpenClaim := { program := "ytofbhmcmejhepaa", sum := "fcbf087391a37f2a9052305d419319d2401272930b116e4607449fe34cf2025d", func := "roadstead/roadkeep3.TermApart", spec := "termApart", unfollowed := true, recurses := true, apart := false, narrowed := true }
def TermApartUptoSaid : Prop := termApartUptoRow.holds Try.pinned (OpenSpec.upto termApartSpec)

/-- 'roadkeep3.TermValue', WHERE WHAT IT READS IS OF BULK AT MOST 1048576: true; the input reads as it did. -/
def termValueUptoRow : OpenClaim := { program := "ytofbhmcmejhepaa", sum := "fcbf087391a37f2a9052305d419319d2401272930b116e4607449fe34cf2025d", func := "roadstead/roadkeep3.TermValue", spec := "termValue", loops := true, apart := false, narrowed := true }
def TermValueUptoSaid : Prop := termValueUptoRow.holds Try.pinned (OpenSpec.upto termValueSpec)

/-- 'roadkeep3.BoxFull', WHERE WHAT IT READS IS OF BULK AT MOST 1048576: true; the input reads as it did. -/
def boxFullUptoRow : OpenClaim := { program := "ytofbhmcmejhepaa", sum := "fcbf087391a37f2a9052305d419319d2401272930b116e4607449fe34cf2025d", func := "roadstead/roadkeep3.BoxFull", spec := "boxFull", recurses := true, loops := true, apart := false, narrowed := true }
def BoxFullUptoSaid : Prop := boxFullUptoRow.holds Try.pinned (OpenSpec.upto boxFullSpec)

/-- 'roadkeep3.BoxOrder', WHERE WHAT IT READS IS OF BULK AT MOST 1048576: true; the input reads as it did. -/
def boxOrderUptoRow : OpenClaim := { program := "ytofbhmcmejhepaa", sum := "fcbf087391a37f2a9052305d419319d2401272930b116e4607449fe34cf2025d", func := "roadstead/roadkeep3.BoxOrder", spec := "boxOrder", unfollowed := true, recurses := true, loops := true, apart := false, narrowed := true }
def BoxOrderUptoSaid : Prop := boxOrderUptoRow.holds Try.pinned (OpenSpec.upto boxOrderSpec)

/-- 'roadkeep3.PickFits', WHERE WHAT IT READS IS OF BULK AT MOST 1048576: true; the input reads as it did. -/
def pickFitsUptoRow : OpenClaim := { program := "ytofbhmcmejhepaa", sum := "fcbf087391a37f2a9052305d419319d2401272930b116e4607449fe34cf2025d", func := "roadstead/roadkeep3.PickFits", spec := "pickFits", unfollowed := true, recurses := true, loops := true, apart := false, narrowed := true }
def PickFitsUptoSaid : Prop := pickFitsUptoRow.holds Try.pinned (OpenSpec.upto pickFitsSpec)

/-- 'roadkeep3.PickAgain', WHERE WHAT IT READS IS OF BULK AT MOST 1048576: true; the input reads as it did. -/
def pickAgainUptoRow : OpenClaim := { program := "ytofbhmcmejhepaa", sum := "fcbf087391a37f2a9052305d419319d2401272930b116e4607449fe34cf2025d", func := "roadstead/roadkeep3.PickAgain", spec := "pickAgain", unfollowed := true, recurses := true, loops := true, apart := false, narrowed := true }
def PickAgainUptoSaid : Prop := pickAgainUptoRow.holds Try.pinned (OpenSpec.upto pickAgainSpec)

/-- 'roadkeep3.PickAsks', WHERE WHAT IT READS IS OF BULK AT MOST 1048576: true; the input reads as it did. -/
def pickAsksUptoRow : OpenClaim := { program := "ytofbhmcmejhepaa", sum := "fcbf087391a37f2a9052305d419319d2401272930b116e4607449fe34cf2025d", func := "roadstead/roadkeep3.PickAsks", spec := "pickAsks", unfollowed := true, recurses := true, loops := true, apart := false, narrowed := true }
def PickAsksUptoSaid : Prop := pickAsksUptoRow.holds Try.pinned (OpenSpec.upto pickAsksSpec)

/-- 'roadkeep3.PickFirst', WHERE WHAT IT READS IS OF BULK AT MOST 1048576: true; the input reads as it did. -/
def pickFirstUptoRow : OpenClaim := { program := "ytofbhmcmejhepaa", sum := "fcbf087391a37f2a9052305d419319d2401272930b116e4607449fe34cf2025d", func := "roadstead/roadkeep3.PickFirst", spec := "pickFirst", unfollowed := true, recurses := true, loops := true, apart := false, narrowed := true }
def PickFirstUptoSaid : Prop := pickFirstUptoRow.holds Try.pinned (OpenSpec.upto pickFirstSpec)

end Rows
end Go.Proofs.Ytofbhmcmejhepaa
