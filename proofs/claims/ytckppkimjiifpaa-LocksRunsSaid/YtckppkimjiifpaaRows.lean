/-
  No cell of these rows narrows 'for every input' (looked for: loops, veiled, ifaces, maps, wideKeys, modest, calm, conditions, laid).
  DERIVED. THE GIVEN ROWS OF THIS SEAT. 5 by the template 'for every input the law returns true; each argument reads behind the call as it read before'; 0 by the template 'total and deterministic' (their statements: YtckppkimjiifpaaTotals.lean).
  GIVEN WITH THE SEED: the statements are not yours to turn. If you find one false, say at which input.
  Laid BY PROGRAM, IN A SANDBOX (cutbox-rows.mjs): the forced cells as the released guide's own fill.sh prints them over the translation b793a61a8e875c26… (all of the seat's roots in one cut). By AI agents, Wed Nov 11 2026. No macro, syntax, notation, axiom, sorry.
-/
import Derived.Test.YtckppkimjiifpaaChecked
import GoSem.Claim
import GoSem.ClaimJoined
import GoSem.ClaimMapViews
import Derived.JoinedTies
import Derived.KernelRfl
namespace Go.Proofs.Ytckppkimjiifpaa
/- THE CELL 'sum', in the pinned program and in every row, IS THE sha256 OF THE DUMP (.gsa) THAT YtckppkimjiifpaaProg.lean LOADS. Nothing in Lean hashes anything: it is a label: what it is worth is what the hold of that sum in a sandbox is worth. -/
noncomputable def Try.pinned : Pinned := { name := "ytckppkimjiifpaa", sum := "b793a61a8e875c26b9f04a6a8873d03b49082be96698cfe867a7f83503bbada5", checked := Try.checked }
namespace Rows
def none {H : Type} : Left H := { results := [], args := [] }

/-- 'conciergelaw21.LocksTurn': WHATEVER THE INPUT: true; the input reads as it did. -/
def locksTurnSpec : ChangeSpec := { name := "locksTurn", fn := fun _ => fun
  | [d] => { results := [.lit (.bool true)], args := [d] }
  | _ => none }
def locksTurnRow : OpenClaim := { program := "ytckppkimjiifpaa", sum := "b793a61a8e875c26b9f04a6a8873d03b49082be96698cfe867a7f83503bbada5", func := "concierge/conciergelaw21.LocksTurn", spec := "locksTurn", unfollowed := true, recurses := true, apart := false }
def LocksTurnSaid : Prop := locksTurnRow.holds Try.pinned (OpenSpec.ofChange locksTurnSpec)

/-- ITS FALSE NEIGHBOUR: 'it returns false'. Refute it at one input. -/
def locksTurnWrong : ChangeSpec := { name := "locksTurn", fn := fun _ => fun
  | [d] => { results := [.lit (.bool false)], args := [d] }
  | _ => none }
def LocksTurnWrongFalsely : Prop := locksTurnRow.holds Try.pinned (OpenSpec.ofChange locksTurnWrong)

/-- 'conciergelaw21.LocksApart': WHATEVER THE INPUT: true; the input reads as it did. -/
def locksApartSpec : ChangeSpec := { name := "locksApart", fn := fun _ => fun
  | [d] => { results := [.lit (.bool true)], args := [d] }
  | _ => none }
def locksApartRow : OpenClaim := { program := "ytckppkimjiifpaa", sum := "b793a61a8e875c26b9f04a6a8873d03b49082be96698cfe867a7f83503bbada5", func := "concierge/conciergelaw21.LocksApart", spec := "locksApart", unfollowed := true, recurses := true, apart := false }
def LocksApartSaid : Prop := locksApartRow.holds Try.pinned (OpenSpec.ofChange locksApartSpec)

/-- ITS FALSE NEIGHBOUR: 'it returns false'. Refute it at one input. -/
def locksApartWrong : ChangeSpec := { name := "locksApart", fn := fun _ => fun
  | [d] => { results := [.lit (.bool false)], args := [d] }
  | _ => none }
def LocksApartWrongFalsely : Prop := locksApartRow.holds Try.pinned (OpenSpec.ofChange locksApartWrong)

/-- 'conciergelaw21.LocksRing': WHATEVER THE INPUT: true; the input reads as it did. -/
def locksRingSpec : ChangeSpec := { name := "locksRing", fn := fun _ => fun
  | [d] => { results := [.lit (.bool true)], args := [d] }
  | _ => none }
def locksRingRow : OpenClaim := { program := "ytckppkimjiifpaa", sum := "b793a61a8e875c26b9f04a6a8873d03b49082be96698cfe867a7f83503bbada5", func := "concierge/conciergelaw21.LocksRing", spec := "locksRing", unfollowed := true, recurses := true, apart := false }
def LocksRingSaid : Prop := locksRingRow.holds Try.pinned (OpenSpec.ofChange locksRingSpec)

/-- ITS FALSE NEIGHBOUR: 'it returns false'. Refute it at one input. -/
def locksRingWrong : ChangeSpec := { name := "locksRing", fn := fun _ => fun
  | [d] => { results := [.lit (.bool false)], args := [d] }
  | _ => none }
def LocksRingWrongFalsely : Prop := locksRingRow.holds Try.pinned (OpenSpec.ofChange locksRingWrong)

/-- 'conciergelaw21.LocksRuns': WHATEVER THE INPUT: true; the input reads as it did. -/
def locksRunsSpec : ChangeSpec := { name := "locksRuns", fn := fun _ => fun
  | [d1, d2] => { results := [.lit (.bool true)], args := [d1, d2] }
  | _ => none }
def locksRunsRow : OpenClaim := { program := "ytckppkimjiifpaa", sum := "b793a61a8e875c26b9f04a6a8873d03b49082be96698cfe867a7f83503bbada5", func := "concierge/conciergelaw21.LocksRuns", spec := "locksRuns", unfollowed := true, recurses := true, apart := false }
def LocksRunsSaid : Prop := locksRunsRow.holds Try.pinned (OpenSpec.ofChange locksRunsSpec)

/-- ITS FALSE NEIGHBOUR: 'it returns false'. Refute it at one input. -/
def locksRunsWrong : ChangeSpec := { name := "locksRuns", fn := fun _ => fun
  | [d1, d2] => { results := [.lit (.bool false)], args := [d1, d2] }
  | _ => none }
def LocksRunsWrongFalsely : Prop := locksRunsRow.holds Try.pinned (OpenSpec.ofChange locksRunsWrong)

/-- 'conciergelaw21.LocksNobody': WHATEVER THE INPUT: true; the input reads as it did. -/
def locksNobodySpec : ChangeSpec := { name := "locksNobody", fn := fun _ => fun
  | [d] => { results := [.lit (.bool true)], args := [d] }
  | _ => none }
def locksNobodyRow : OpenClaim := { program := "ytckppkimjiifpaa", sum := "b793a61a8e875c26b9f04a6a8873d03b49082be96698cfe867a7f83503bbada5", func := "concierge/conciergelaw21.LocksNobody", spec := "locksNobody", unfollowed := true, recurses := true, apart := false }
def LocksNobodySaid : Prop := locksNobodyRow.holds Try.pinned (OpenSpec.ofChange locksNobodySpec)

/-- ITS FALSE NEIGHBOUR: 'it returns false'. Refute it at one input. -/
def locksNobodyWrong : ChangeSpec := { name := "locksNobody", fn := fun _ => fun
  | [d] => { results := [.lit (.bool false)], args := [d] }
  | _ => none }
def LocksNobodyWrongFalsely : Prop := locksNobodyRow.holds Try.pinned (OpenSpec.ofChange locksNobodyWrong)

/- THE SECOND FORM. 'bulk': how many values and letters a reading holds, each counted each time it is reached (what is shared counts as often as it is met; a slice's spare places count too). A statement '..UptoSaid' is the law's where the arguments, and the package variables that the reading takes, are together of bulk at most 1048576: NARROWER than '..Said'. Prove '..Said' where nothing that the law and all that it calls make is longer than what came in: it says more and counts as full. Else prove '..UptoSaid'. A law counts once. -/
mutual
def uptoBulk {H : Type} : DataW H → Nat
  | .lit (.string bytes) => bytes.length + 1
  | .lit _ => 1
  | .nil => 1
  | .ptr d => uptoBulk d + 1
  | .slice elems spare => uptoBulkAll elems + uptoBulkAll spare + 1
  | .agg parts => uptoBulkAll parts + 1
  | .iface _ d => uptoBulk d + 1
  | .map entries => uptoBulkEntries entries + 1
  | .held _ => 1
def uptoBulkAll {H : Type} : List (DataW H) → Nat
  | [] => 0
  | d :: r => uptoBulk d + uptoBulkAll r
def uptoBulkEntries {H : Type} : List (Lit × DataW H) → Nat
  | [] => 0
  | x :: r => uptoBulkEntry x + uptoBulkEntries r
def uptoBulkEntry {H : Type} : Lit × DataW H → Nat
  | (.string bytes, d) => bytes.length + uptoBulk d + 1
  | (_, d) => uptoBulk d + 1
 end
def uptoSmall : (H : Type) → List (DataW H) → Bool := fun _ ds => decide (uptoBulkAll ds ≤ 1048576)
def OpenSpec.upto (s : _root_.Go.ChangeSpec) : _root_.Go.OpenSpec := { _root_.Go.OpenSpec.ofChange s with cond := some uptoSmall }

/-- 'conciergelaw21.LocksTurn', WHERE WHAT IT READS IS OF BULK AT MOST 1048576: true; the input reads as it did. -/
def locksTurnUptoRow : OpenClaim := { program := "ytckppkimjiifpaa", sum := "b793a61a8e875c26b9f04a6a8873d03b49082be96698cfe867a7f83503bbada5", func := "concierge/conciergelaw21.LocksTurn", spec := "locksTurn", unfollowed := true, recurses := true, apart := false, narrowed := true }
def LocksTurnUptoSaid : Prop := locksTurnUptoRow.holds Try.pinned (OpenSpec.upto locksTurnSpec)

/-- 'conciergelaw21.LocksApart', WHERE WHAT IT READS IS OF BULK AT MOST 1048576: true; the input reads as it did. -/
def locksApartUptoRow : OpenClaim := { program := "ytckppkimjiifpaa", sum := "b793a61a8e875c26b9f04a6a8873d03b49082be96698cfe867a7f83503bbada5", func := "concierge/conciergelaw21.LocksApart", spec := "locksApart", unfollowed := true, recurses := true, apart := false, narrowed := true }
def LocksApartUptoSaid : Prop := locksApartUptoRow.holds Try.pinned (OpenSpec.upto locksApartSpec)

/-- 'conciergelaw21.LocksRing', WHERE WHAT IT READS IS OF BULK AT MOST 1048576: true; the input reads as it did. -/
def locksRingUptoRow : OpenClaim := { program := "ytckppkimjiifpaa", sum := "b793a61a8e875c26b9f04a6a8873d03b49082be96698cfe867a7f83503bbada5", func := "concierge/conciergelaw21.LocksRing", spec := "locksRing", unfollowed := true, recurses := true, apart := false, narrowed := true }
def LocksRingUptoSaid : Prop := locksRingUptoRow.holds Try.pinned (OpenSpec.upto locksRingSpec)

/-- 'conciergelaw21.LocksRuns', WHERE WHAT IT READS IS OF BULK AT MOST 1048576: true; the input reads as it did. -/
def locksRunsUptoRow : OpenClaim := { program := "ytckppkimjiifpaa", sum := "b793a61a8e875c26b9f04a6a8873d03b49082be96698cfe867a7f83503bbada5", func := "concierge/conciergelaw21.LocksRuns", spec := "locksRuns", unfollowed := true, recurses := true, apart := false, narrowed := true }
def LocksRunsUptoSaid : Prop := locksRunsUptoRow.holds Try.pinned (OpenSpec.upto locksRunsSpec)

/-- 'conciergelaw21.LocksNobody', WHERE WHAT IT READS IS OF BULK AT MOST 1048576: true; the input reads as it did. -/
def locksNobodyUptoRow : OpenClaim := { program := "ytckppkimjiifpaa", sum := "b793a61a8e875c26b9f04a6a8873d03b49082be96698cfe867a7f83503bbada5", func := "concierge/conciergelaw21.LocksNobody", spec := "locksNobody", unfollowed := true, recurses := true, apart := false, narrowed := true }
def LocksNobodyUptoSaid : Prop := locksNobodyUptoRow.holds Try.pinned (OpenSpec.upto locksNobodySpec)

end Rows
end Go.Proofs.Ytckppkimjiifpaa
