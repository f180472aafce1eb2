/-
  NARROWER THAN 'FOR EVERY INPUT', by the rows' own cells (each row's printed sentence says how): BoxFull: loops · TermValue: loops · BoxOrder: loops.
  DERIVED. THE GIVEN ROWS OF THIS SEAT. 12 by the template 'for every input the law returns true; each argument reads behind the call as it read before'; 0 by the template 'total and deterministic' (their statements: YtaelhbnkmmbdlaaTotals.lean).
  GIVEN WITH THE SEED: the statements are not yours to turn. If you find one false, say at which input.
  Laid BY PROGRAM, IN A SANDBOX (cutbox-rows.mjs): the forced cells as the released guide's own fill.sh prints them over the translation a63b96ddaa5142ca… (all of the seat's roots in one cut). By AI agents, Wed Nov 11 2026. No macro, syntax, notation, axiom, sorry.
-/
import Derived.Test.YtaelhbnkmmbdlaaChecked
import GoSem.Claim
import GoSem.ClaimJoined
import GoSem.ClaimMapViews
import Derived.JoinedTies
import Derived.KernelRfl
namespace Go.Proofs.Ytaelhbnkmmbdlaa
/- THE CELL 'sum', in the pinned program and in every row, IS THE sha256 OF THE DUMP (.gsa) THAT YtaelhbnkmmbdlaaProg.lean LOADS. Nothing in Lean hashes anything: it is a label: what it is worth is what the hold of that sum in a sandbox is worth. -/
noncomputable def Try.pinned : Pinned := { name := "ytaelhbnkmmbdlaa", sum := "a63b96ddaa5142ca69e50ba369c6c9671e6ba5611510bf4dc549e13f187f3867", checked := Try.checked }
namespace Rows
def none {H : Type} : Left H := { results := [], args := [] }

/-- 'roadkeep3.TermBack': WHATEVER THE INPUT: true; the input reads as it did. -/
def termBackSpec : ChangeSpec := { name := "termBack", fn := fun _ => fun
  | [d1, d2, d3] => { results := [.lit (.bool true)], args := [d1, d2, d3] }
  | _ => none }
def termBackRow : OpenClaim := { program := "ytaelhbnkmmbdlaa", sum := "a63b96ddaa5142ca69e50ba369c6c9671e6ba5611510bf4dc549e13f187f3867", func := "roadstead/roadkeep3.TermBack", spec := "termBack", apart := false }
def TermBackSaid : Prop := termBackRow.holds Try.pinned (OpenSpec.ofChange termBackSpec)

/-- ITS FALSE NEIGHBOUR: 'it returns false'. Refute it at one input. -/
def termBackWrong : ChangeSpec := { name := "termBack", fn := fun _ => fun
  | [d1, d2, d3] => { results := [.lit (.bool false)], args := [d1, d2, d3] }
  | _ => none }
def TermBackWrongFalsely : Prop := termBackRow.holds Try.pinned (OpenSpec.ofChange termBackWrong)

/-- 'roadkeep3.TermApart': WHATEVER THE INPUT: true; the input reads as it did. -/
def termApartSpec : ChangeSpec := { name := "termApart", fn := fun _ => fun
  | [d1, d2, d3, d4] => { results := [.lit (.bool true)], args := [d1, d2, d3, d4] }
  | _ => none }
def termApartRow : OpenClaim := { program := "ytaelhbnkmmbdlaa", sum := "a63b96ddaa5142ca69e50ba369c6c9671e6ba5611510bf4dc549e13f187f3867", func := "roadstead/roadkeep3.TermApart", spec := "termApart", unfollowed := true, recurses := true, apart := false }
def TermApartSaid : Prop := termApartRow.holds Try.pinned (OpenSpec.ofChange termApartSpec)

/-- ITS FALSE NEIGHBOUR: 'it returns false'. Refute it at one input. -/
def termApartWrong : ChangeSpec := { name := "termApart", fn := fun _ => fun
  | [d1, d2, d3, d4] => { results := [.lit (.bool false)], args := [d1, d2, d3, d4] }
  | _ => none }
def TermApartWrongFalsely : Prop := termApartRow.holds Try.pinned (OpenSpec.ofChange termApartWrong)

/-- 'roadkeep3.BoxFull': WHATEVER THE INPUT: true; the input reads as it did. -/
def boxFullSpec : ChangeSpec := { name := "boxFull", fn := fun _ => fun
  | [d1, d2] => { results := [.lit (.bool true)], args := [d1, d2] }
  | _ => none }
def boxFullRow : OpenClaim := { program := "ytaelhbnkmmbdlaa", sum := "a63b96ddaa5142ca69e50ba369c6c9671e6ba5611510bf4dc549e13f187f3867", func := "roadstead/roadkeep3.BoxFull", spec := "boxFull", recurses := true, loops := true, apart := false }
def BoxFullSaid : Prop := boxFullRow.holds Try.pinned (OpenSpec.ofChange boxFullSpec)

/-- ITS FALSE NEIGHBOUR: 'it returns false'. Refute it at one input. -/
def boxFullWrong : ChangeSpec := { name := "boxFull", fn := fun _ => fun
  | [d1, d2] => { results := [.lit (.bool false)], args := [d1, d2] }
  | _ => none }
def BoxFullWrongFalsely : Prop := boxFullRow.holds Try.pinned (OpenSpec.ofChange boxFullWrong)

/-- 'roadkeep3.TermValue': WHATEVER THE INPUT: true; the input reads as it did. -/
def termValueSpec : ChangeSpec := { name := "termValue", fn := fun _ => fun
  | [d1, d2] => { results := [.lit (.bool true)], args := [d1, d2] }
  | _ => none }
def termValueRow : OpenClaim := { program := "ytaelhbnkmmbdlaa", sum := "a63b96ddaa5142ca69e50ba369c6c9671e6ba5611510bf4dc549e13f187f3867", func := "roadstead/roadkeep3.TermValue", spec := "termValue", loops := true, apart := false }
def TermValueSaid : Prop := termValueRow.holds Try.pinned (OpenSpec.ofChange termValueSpec)

/-- ITS FALSE NEIGHBOUR: 'it returns false'. Refute it at one input. -/
def termValueWrong : ChangeSpec := { name := "termValue", fn := fun _ => fun
  | [d1, d2] => { results := [.lit (.bool false)], args := [d1, d2] }
  | _ => none }
def TermValueWrongFalsely : Prop := termValueRow.holds Try.pinned (OpenSpec.ofChange termValueWrong)

/-- 'roadkeep3.BoxOrder': WHATEVER THE INPUT: true; the input reads as it did. -/
def boxOrderSpec : ChangeSpec := { name := "boxOrder", fn := fun _ => fun
  | [d1, d2, d3] => { results := [.lit (.bool true)], args := [d1, d2, d3] }
  | _ => none }
def boxOrderRow : OpenClaim := { program := "ytaelhbnkmmbdlaa", sum := "a63b96ddaa5142ca69e50ba369c6c9671e6ba5611510bf4dc549e13f187f3867", func := "roadstead/roadkeep3.BoxOrder", spec := "boxOrder", unfollowed := true, recurses := true, loops := true, apart := false }
def BoxOrderSaid : Prop := boxOrderRow.holds Try.pinned (OpenSpec.ofChange boxOrderSpec)

/-- ITS FALSE NEIGHBOUR: 'it returns false'. Refute it at one input. -/
def boxOrderWrong : ChangeSpec := { name := "boxOrder", fn := fun _ => fun
  | [d1, d2, d3] => { results := [.lit (.bool false)], args := [d1, d2, d3] }
  | _ => none }
def BoxOrderWrongFalsely : Prop := boxOrderRow.holds Try.pinned (OpenSpec.ofChange boxOrderWrong)

/-- 'roadkeep3.BlobOnce': WHATEVER THE INPUT: true; the input reads as it did. -/
def blobOnceSpec : ChangeSpec := { name := "blobOnce", fn := fun _ => fun
  | [d1, d2] => { results := [.lit (.bool true)], args := [d1, d2] }
  | _ => none }
def blobOnceRow : OpenClaim := { program := "ytaelhbnkmmbdlaa", sum := "a63b96ddaa5142ca69e50ba369c6c9671e6ba5611510bf4dc549e13f187f3867", func := "roadstead/roadkeep3.BlobOnce", spec := "blobOnce", unfollowed := true, recurses := true, apart := false }
def BlobOnceSaid : Prop := blobOnceRow.holds Try.pinned (OpenSpec.ofChange blobOnceSpec)

/-- ITS FALSE NEIGHBOUR: 'it returns false'. Refute it at one input. -/
def blobOnceWrong : ChangeSpec := { name := "blobOnce", fn := fun _ => fun
  | [d1, d2] => { results := [.lit (.bool false)], args := [d1, d2] }
  | _ => none }
def BlobOnceWrongFalsely : Prop := blobOnceRow.holds Try.pinned (OpenSpec.ofChange blobOnceWrong)

/-- 'roadkeep3.BlobApart': WHATEVER THE INPUT: true; the input reads as it did. -/
def blobApartSpec : ChangeSpec := { name := "blobApart", fn := fun _ => fun
  | [d1, d2, d3, d4] => { results := [.lit (.bool true)], args := [d1, d2, d3, d4] }
  | _ => none }
def blobApartRow : OpenClaim := { program := "ytaelhbnkmmbdlaa", sum := "a63b96ddaa5142ca69e50ba369c6c9671e6ba5611510bf4dc549e13f187f3867", func := "roadstead/roadkeep3.BlobApart", spec := "blobApart", unfollowed := true, recurses := true, apart := false }
def BlobApartSaid : Prop := blobApartRow.holds Try.pinned (OpenSpec.ofChange blobApartSpec)

/-- ITS FALSE NEIGHBOUR: 'it returns false'. Refute it at one input. -/
def blobApartWrong : ChangeSpec := { name := "blobApart", fn := fun _ => fun
  | [d1, d2, d3, d4] => { results := [.lit (.bool false)], args := [d1, d2, d3, d4] }
  | _ => none }
def BlobApartWrongFalsely : Prop := blobApartRow.holds Try.pinned (OpenSpec.ofChange blobApartWrong)

/-- 'roadkeep3.BlobBack': WHATEVER THE INPUT: true; the input reads as it did. -/
def blobBackSpec : ChangeSpec := { name := "blobBack", fn := fun _ => fun
  | [d1, d2] => { results := [.lit (.bool true)], args := [d1, d2] }
  | _ => none }
def blobBackRow : OpenClaim := { program := "ytaelhbnkmmbdlaa", sum := "a63b96ddaa5142ca69e50ba369c6c9671e6ba5611510bf4dc549e13f187f3867", func := "roadstead/roadkeep3.BlobBack", spec := "blobBack", unfollowed := true, recurses := true, apart := false }
def BlobBackSaid : Prop := blobBackRow.holds Try.pinned (OpenSpec.ofChange blobBackSpec)

/-- ITS FALSE NEIGHBOUR: 'it returns false'. Refute it at one input. -/
def blobBackWrong : ChangeSpec := { name := "blobBack", fn := fun _ => fun
  | [d1, d2] => { results := [.lit (.bool false)], args := [d1, d2] }
  | _ => none }
def BlobBackWrongFalsely : Prop := blobBackRow.holds Try.pinned (OpenSpec.ofChange blobBackWrong)

/-- 'roadkeep3.LimitFull': WHATEVER THE INPUT: true; the input reads as it did. -/
def limitFullSpec : ChangeSpec := { name := "limitFull", fn := fun _ => fun
  | [d1, d2, d3, d4] => { results := [.lit (.bool true)], args := [d1, d2, d3, d4] }
  | _ => none }
def limitFullRow : OpenClaim := { program := "ytaelhbnkmmbdlaa", sum := "a63b96ddaa5142ca69e50ba369c6c9671e6ba5611510bf4dc549e13f187f3867", func := "roadstead/roadkeep3.LimitFull", spec := "limitFull", unfollowed := true, recurses := true, apart := false }
def LimitFullSaid : Prop := limitFullRow.holds Try.pinned (OpenSpec.ofChange limitFullSpec)

/-- ITS FALSE NEIGHBOUR: 'it returns false'. Refute it at one input. -/
def limitFullWrong : ChangeSpec := { name := "limitFull", fn := fun _ => fun
  | [d1, d2, d3, d4] => { results := [.lit (.bool false)], args := [d1, d2, d3, d4] }
  | _ => none }
def LimitFullWrongFalsely : Prop := limitFullRow.holds Try.pinned (OpenSpec.ofChange limitFullWrong)

/-- 'roadkeep3.TurnDone': WHATEVER THE INPUT: true; the input reads as it did. -/
def turnDoneSpec : ChangeSpec := { name := "turnDone", fn := fun _ => fun
  | [d1, d2] => { results := [.lit (.bool true)], args := [d1, d2] }
  | _ => none }
def turnDoneRow : OpenClaim := { program := "ytaelhbnkmmbdlaa", sum := "a63b96ddaa5142ca69e50ba369c6c9671e6ba5611510bf4dc549e13f187f3867", func := "roadstead/roadkeep3.TurnDone", spec := "turnDone", unfollowed := true, recurses := true, apart := false }
def TurnDoneSaid : Prop := turnDoneRow.holds Try.pinned (OpenSpec.ofChange turnDoneSpec)

/-- ITS FALSE NEIGHBOUR: 'it returns false'. Refute it at one input. -/
def turnDoneWrong : ChangeSpec := { name := "turnDone", fn := fun _ => fun
  | [d1, d2] => { results := [.lit (.bool false)], args := [d1, d2] }
  | _ => none }
def TurnDoneWrongFalsely : Prop := turnDoneRow.holds Try.pinned (OpenSpec.ofChange turnDoneWrong)

/-- 'roadkeep3.TurnLag': WHATEVER THE INPUT: true; the input reads as it did. -/
def turnLagSpec : ChangeSpec := { name := "turnLag", fn := fun _ => fun
  | [d1, d2] => { results := [.lit (.bool true)], args := [d1, d2] }
  | _ => none }
def turnLagRow : OpenClaim := { program := "ytaelhbnkmmbdlaa", sum := "a63b96ddaa5142ca69e50ba369c6c9671e6ba5611510bf4dc549e13f187f3867", func := "roadstead/roadkeep3.TurnLag", spec := "turnLag", unfollowed := true, recurses := true, apart := false }
def TurnLagSaid : Prop := turnLagRow.holds Try.pinned (OpenSpec.ofChange turnLagSpec)

/-- ITS FALSE NEIGHBOUR: 'it returns false'. Refute it at one input. -/
def turnLagWrong : ChangeSpec := { name := "turnLag", fn := fun _ => fun
  | [d1, d2] => { results := [.lit (.bool false)], args := [d1, d2] }
  | _ => none }
def TurnLagWrongFalsely : Prop := turnLagRow.holds Try.pinned (OpenSpec.ofChange turnLagWrong)

/-- 'roadkeep3.StealOwn': WHATEVER THE INPUT: true; the input reads as it did. -/
def stealOwnSpec : ChangeSpec := { name := "stealOwn", fn := fun _ => fun
  | [d1, d2, d3] => { results := [.lit (.bool true)], args := [d1, d2, d3] }
  | _ => none }
def stealOwnRow : OpenClaim := { program := "ytaelhbnkmmbdlaa", sum := "a63b96ddaa5142ca69e50ba369c6c9671e6ba5611510bf4dc549e13f187f3867", func := "roadstead/roadkeep3.StealOwn", spec := "stealOwn", apart := false }
def StealOwnSaid : Prop := stealOwnRow.holds Try.pinned (OpenSpec.ofChange stealOwnSpec)

/-- ITS FALSE NEIGHBOUR: 'it returns false'. Refute it at one input. -/
def stealOwnWrong : ChangeSpec := { name := "stealOwn", fn := fun _ => fun
  | [d1, d2, d3] => { results := [.lit (.bool false)], args := [d1, d2, d3] }
  | _ => none }
def StealOwnWrongFalsely : Prop := stealOwnRow.holds Try.pinned (OpenSpec.ofChange stealOwnWrong)

/- THE SECOND FORM. 'bulk': how many values and letters a reading holds, each counted each time it is reached (what is shared counts as often as it is met; a slice's spare places count too). A statement '..UptoSaid' is the law's where the arguments, and the package variables that the reading takes, are together of bulk at most 1048576: NARROWER than '..Said'. Prove '..Said' where nothing that the law and all that it calls make is longer than what came in: it says more and counts as full. Else prove '..UptoSaid'. A law counts once. -/
mutual
def uptoBulk {H : Type} : DataW H → Nat
  | .lit (.string bytes) => bytes.length + 1
  | .lit _ => 1
  | .nil => 1
  | .ptr d => uptoBulk d + 1
  | .slice elems spare => uptoBulkAll elems + uptoBulkAll spare + 1
  | .agg parts => uptoBulkAll parts + 1
  | .iface _ d => uptoBulk d + 1
  | .map entries => uptoBulkEntries entries + 1
  | .held _ => 1
def uptoBulkAll {H : Type} : List (DataW H) → Nat
  | [] => 0
  | d :: r => uptoBulk d + uptoBulkAll r
def uptoBulkEntries {H : Type} : List (Lit × DataW H) → Nat
  | [] => 0
  | x :: r => uptoBulkEntry x + uptoBulkEntries r
def uptoBulkEntry {H : Type} : Lit × DataW H → Nat
  | (.string bytes, d) => bytes.length + uptoBulk d + 1
  | (_, d) => uptoBulk d + 1
 end
def uptoSmall : (H : Type) → List (DataW H) → Bool := fun _ ds => decide (uptoBulkAll ds ≤ 1048576)
def OpenSpec.upto (s : _root_.Go.ChangeSpec) : _root_.Go.OpenSpec := { _root_.Go.OpenSpec.ofChange s with cond := some uptoSmall }

/-- 'roadkeep3.TermBack', WHERE WHAT IT READS IS OF BULK AT MOST 1048576: true; the input reads as it did. -/
def termBackUptoRow : OpenClaim := { program := "ytaelhbnkmmbdlaa", sum := "a63b96ddaa5142ca69e50ba369c6c9671e6ba5611510bf4dc549e13f187f3867", func := "roadstead/roadkeep3.TermBack", spec := "termBack", apart := false, narrowed := true }
def TermBackUptoSaid : Prop := termBackUptoRow.holds Try.pinned (OpenSpec.upto termBackSpec)

/-- 'roadkeep3.TermApart', WHERE WHAT IT READS IS OF BULK AT MOST 1048576: true; the input reads as it did. -/
def termApartUptoRow : OpenClaim := { program := "ytaelhbnkmmbdlaa", sum := "a63b96ddaa5142ca69e50ba369c6c9671e6ba5611510bf4dc549e13f187f3867", func := "roadstead/roadkeep3.TermApart", spec := "termApart", unfollowed := true, recurses := true, apart := false, narrowed := true }
def TermApartUptoSaid : Prop := termApartUptoRow.holds Try.pinned (OpenSpec.upto termApartSpec)

/-- 'roadkeep3.BoxFull', WHERE WHAT IT READS IS OF BULK AT MOST 1048576: true; the input reads as it did. -/
def boxFullUptoRow : OpenClaim := { program := "ytaelhbnkmmbdlaa", sum := "a63b96ddaa5142ca69e50ba369c6c9671e6ba5611510bf4dc549e13f187f3867", func := "roadstead/roadkeep3.BoxFull", spec := "boxFull", recurses := true, loops := true, apart := false, narrowed := true }
def BoxFullUptoSaid : Prop := boxFullUptoRow.holds Try.pinned (OpenSpec.upto boxFullSpec)

/-- 'roadkeep3.TermValue', WHERE WHAT IT READS IS OF BULK AT MOST 1048576: true; the input reads as it did. -/
def termValueUptoRow : OpenClaim := { program := "ytaelhbnkmmbdlaa", sum := "a63b96ddaa5142ca69e50ba369c6c9671e6ba5611510bf4dc549e13f187f3867", func := "roadstead/roadkeep3.TermValue", spec := "termValue", loops := true, apart := false, narrowed := true }
def TermValueUptoSaid : Prop := termValueUptoRow.holds Try.pinned (OpenSpec.upto termValueSpec)

/-- 'roadkeep3.BoxOrder', WHERE WHAT IT READS IS OF BULK AT MOST 1048576: true; the input reads as it did. -/
def boxOrderUptoRow : OpenClaim := { program := "ytaelhbnkmmbdlaa", sum := "a63b96ddaa5142ca69e50ba369c6c9671e6ba5611510bf4dc549e13f187f3867", func := "roadstead/roadkeep3.BoxOrder", spec := "boxOrder", unfollowed := true, recurses := true, loops := true, apart := false, narrowed := true }
def BoxOrderUptoSaid : Prop := boxOrderUptoRow.holds Try.pinned (OpenSpec.upto boxOrderSpec)

/-- 'roadkeep3.BlobOnce', WHERE WHAT IT READS IS OF BULK AT MOST 1048576: true; the input reads as it did. -/
def blobOnceUptoRow : OpenClaim := { program := "ytaelhbnkmmbdlaa", sum := "a63b96ddaa5142ca69e50ba369c6c9671e6ba5611510bf4dc549e13f187f3867", func := "roadstead/roadkeep3.BlobOnce", spec := "blobOnce", unfollowed := true, recurses := true, apart := false, narrowed := true }
def BlobOnceUptoSaid : Prop := blobOnceUptoRow.holds Try.pinned (OpenSpec.upto blobOnceSpec)

/-- 'roadkeep3.BlobApart', WHERE WHAT IT READS IS OF BULK AT MOST 1048576: true; the input reads as it did. -/
def blobApartUptoRow : OpenClaim := { program := "ytaelhbnkmmbdlaa", sum := "a63b96ddaa5142ca69e50ba369c6c9671e6ba5611510bf4dc549e13f187f3867", func := "roadstead/roadkeep3.BlobApart", spec := "blobApart", unfollowed := true, recurses := true, apart := false, narrowed := true }
def BlobApartUptoSaid : Prop := blobApartUptoRow.holds Try.pinned (OpenSpec.upto blobApartSpec)

/-- 'roadkeep3.BlobBack', WHERE WHAT IT READS IS OF BULK AT MOST 1048576: true; the input reads as it did. -/
def blobBackUptoRow : OpenClaim := { program := "ytaelhbnkmmbdlaa", sum := "a63b96ddaa5142ca69e50ba369c6c9671e6ba5611510bf4dc549e13f187f3867", func := "roadstead/roadkeep3.BlobBack", spec := "blobBack", unfollowed := true, recurses := true, apart := false, narrowed := true }
def BlobBackUptoSaid : Prop := blobBackUptoRow.holds Try.pinned (OpenSpec.upto blobBackSpec)

/-- 'roadkeep3.LimitFull', WHERE WHAT IT READS IS OF BULK AT MOST 1048576: true; the input reads as it did. -/
def limitFullUptoRow : OpenClaim := { program := "ytaelhbnkmmbdlaa", sum := "a63b96ddaa5142ca69e50ba369c6c9671e6ba5611510bf4dc549e13f187f3867", func := "roadstead/roadkeep3.LimitFull", spec := "limitFull", unfollowed := true, recurses := true, apart := false, narrowed := true }
def LimitFullUptoSaid : Prop := limitFullUptoRow.holds Try.pinned (OpenSpec.upto limitFullSpec)

/-- 'roadkeep3.TurnDone', WHERE WHAT IT READS IS OF BULK AT MOST 1048576: true; the input reads as it did. -/
def turnDoneUptoRow : OpenClaim := { program := "ytaelhbnkmmbdlaa", sum := "a63b96ddaa5142ca69e50ba369c6c9671e6ba5611510bf4dc549e13f187f3867", func := "roadstead/roadkeep3.TurnDone", spec := "turnDone", unfollowed := true, recurses := true, apart := false, narrowed := true }
def TurnDoneUptoSaid : Prop := turnDoneUptoRow.holds Try.pinned (OpenSpec.upto turnDoneSpec)

/-- 'roadkeep3.TurnLag', WHERE WHAT IT READS IS OF BULK AT MOST 1048576: true; the input reads as it did. -/
def turnLagUptoRow : OpenClaim := { program := "ytaelhbnkmmbdlaa", sum := "a63b96ddaa5142ca69e50ba369c6c9671e6ba5611510bf4dc549e13f187f3867", func := "roadstead/roadkeep3.TurnLag", spec := "turnLag", unfollowed := true, recurses := true, apart := false, narrowed := true }
def TurnLagUptoSaid : Prop := turnLagUptoRow.holds Try.pinned (OpenSpec.upto turnLagSpec)

/-- 'roadkeep3.StealOwn', WHERE WHAT IT READS IS OF BULK AT MOST 1048576: true; the input reads as it did. -/
def stealOwnUptoRow : OpenClaim := { program := "ytaelhbnkmmbdlaa", sum := "a63b96ddaa5142ca69e50ba369c6c9671e6ba5611510bf4dc549e13f187f3867", func := "roadstead/roadkeep3.StealOwn", spec := "stealOwn", apart := false, narrowed := true }
def StealOwnUptoSaid : Prop := stealOwnUptoRow.holds Try.pinned (OpenSpec.upto stealOwnSpec)

end Rows
end Go.Proofs.Ytaelhbnkmmbdlaa
