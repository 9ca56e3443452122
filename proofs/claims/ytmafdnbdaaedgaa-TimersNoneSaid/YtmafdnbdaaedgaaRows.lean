/-
  No cell of these rows narrows 'for every input' (looked for: loops, veiled, ifaces, maps, wideKeys, modest, calm, conditions, laid).
  DERIVED. THE GIVEN ROWS OF THIS SEAT. 3 by the template 'for every input the law returns true; each argument reads behind the call as it read before'; 0 by the template 'total and deterministic' (their statements: YtmafdnbdaaedgaaTotals.lean).
  GIVEN WITH THE SEED: the statements are not yours to turn. If you find one false, say at which input.
  Laid BY PROGRAM, IN A SANDBOX (cutbox-rows.mjs): the forced cells as the released guide's own fill.sh prints them over the translation 29d8fc2ee2f4a763… (all of the seat's roots in one cut). By AI agents, Wed Nov 11 2026. No macro, syntax, notation, axiom, sorry.
-/
import Derived.Test.YtmafdnbdaaedgaaChecked
import GoSem.Claim
import GoSem.ClaimJoined
import GoSem.ClaimMapViews
import Derived.JoinedTies
import Derived.KernelRfl
namespace Go.Proofs.Ytmafdnbdaaedgaa
/- THE CELL 'sum', in the pinned program and in every row, IS THE sha256 OF THE DUMP (.gsa) THAT YtmafdnbdaaedgaaProg.lean LOADS. Nothing in Lean hashes anything: it is a label: what it is worth is what the hold of that sum in a sandbox is worth. -/
noncomputable def Try.pinned : Pinned := { name := "ytmafdnbdaaedgaa", sum := "29d8fc2ee2f4a763d0e9fbd9f8e1db77fca55d9e1f517e21935852e408fd84c8", checked := Try.checked }
namespace Rows
def none {H : Type} : Left H := { results := [], args := [] }

/-- 'conciergelaw13.TimersNone': WHATEVER THE INPUT: true; the input reads as it did. -/
def timersNoneSpec : ChangeSpec := { name := "timersNone", fn := fun _ => fun
  | [d1, d2] => { results := [.lit (.bool true)], args := [d1, d2] }
  | _ => none }
def timersNoneRow : OpenClaim := { program := "ytmafdnbdaaedgaa", sum := "29d8fc2ee2f4a763d0e9fbd9f8e1db77fca55d9e1f517e21935852e408fd84c8", func := "concierge/conciergelaw13.TimersNone", spec := "timersNone", unfollowed := true, recurses := true, apart := false }
def TimersNoneSaid : Prop := timersNoneRow.holds Try.pinned (OpenSpec.ofChange timersNoneSpec)

/-- ITS FALSE NEIGHBOUR: 'it returns false'. Refute it at one input. -/
def timersNoneWrong : ChangeSpec := { name := "timersNone", fn := fun _ => fun
  | [d1, d2] => { results := [.lit (.bool false)], args := [d1, d2] }
  | _ => none }
def TimersNoneWrongFalsely : Prop := timersNoneRow.holds Try.pinned (OpenSpec.ofChange timersNoneWrong)

/-- 'conciergelaw13.TimersRuns': WHATEVER THE INPUT: true; the input reads as it did. -/
def timersRunsSpec : ChangeSpec := { name := "timersRuns", fn := fun _ => fun
  | [d] => { results := [.lit (.bool true)], args := [d] }
  | _ => none }
def timersRunsRow : OpenClaim := { program := "ytmafdnbdaaedgaa", sum := "29d8fc2ee2f4a763d0e9fbd9f8e1db77fca55d9e1f517e21935852e408fd84c8", func := "concierge/conciergelaw13.TimersRuns", spec := "timersRuns", unfollowed := true, recurses := true, apart := false }
def TimersRunsSaid : Prop := timersRunsRow.holds Try.pinned (OpenSpec.ofChange timersRunsSpec)

/-- ITS FALSE NEIGHBOUR: 'it returns false'. Refute it at one input. -/
def timersRunsWrong : ChangeSpec := { name := "timersRuns", fn := fun _ => fun
  | [d] => { results := [.lit (.bool false)], args := [d] }
  | _ => none }
def TimersRunsWrongFalsely : Prop := timersRunsRow.holds Try.pinned (OpenSpec.ofChange timersRunsWrong)

/-- 'conciergelaw13.TimersNobody': WHATEVER THE INPUT: true; the input reads as it did. -/
def timersNobodySpec : ChangeSpec := { name := "timersNobody", fn := fun _ => fun
  | [d] => { results := [.lit (.bool true)], args := [d] }
  | _ => none }
def timersNobodyRow : OpenClaim := { program := "ytmafdnbdaaedgaa", sum := "29d8fc2ee2f4a763d0e9fbd9f8e1db77fca55d9e1f517e21935852e408fd84c8", func := "concierge/conciergelaw13.TimersNobody", spec := "timersNobody", unfollowed := true, recurses := true, apart := false }
def TimersNobodySaid : Prop := timersNobodyRow.holds Try.pinned (OpenSpec.ofChange timersNobodySpec)

/-- ITS FALSE NEIGHBOUR: 'it returns false'. Refute it at one input. -/
def timersNobodyWrong : ChangeSpec := { name := "timersNobody", fn := fun _ => fun
  | [d] => { results := [.lit (.bool false)], args := [d] }
  | _ => none }
def TimersNobodyWrongFalsely : Prop := timersNobodyRow.holds Try.pinned (OpenSpec.ofChange timersNobodyWrong)

/- THE SECOND FORM. 'bulk': how many values and letters a reading holds, each counted each time it is reached (what is shared counts as often as it is met; a slice's spare places count too). A statement '..UptoSaid' is the law's where the arguments, and the package variables that the reading takes, are together of bulk at most 1048576: NARROWER than '..Said'. Prove '..Said' where nothing that the law and all that it calls make is longer than what came in: it says more and counts as full. Else prove '..UptoSaid'. A law counts once. -/
mutual
def uptoBulk {H : Type} : DataW H → Nat
  | .lit (.string bytes) => bytes.length + 1
  | .lit _ => 1
  | .nil => 1
  | .ptr d => uptoBulk d + 1
  | .slice elems spare => uptoBulkAll elems + uptoBulkAll spare + 1
  | .agg parts => uptoBulkAll parts + 1
  | .iface _ d => uptoBulk d + 1
  | .map entries => uptoBulkEntries entries + 1
  | .held _ => 1
def uptoBulkAll {H : Type} : List (DataW H) → Nat
  | [] => 0
  | d :: r => uptoBulk d + uptoBulkAll r
def uptoBulkEntries {H : Type} : List (Lit × DataW H) → Nat
  | [] => 0
  | x :: r => uptoBulkEntry x + uptoBulkEntries r
def uptoBulkEntry {H : Type} : Lit × DataW H → Nat
  | (.string bytes, d) => bytes.length + uptoBulk d + 1
  | (_, d) => uptoBulk d + 1
 end
def uptoSmall : (H : Type) → List (DataW H) → Bool := fun _ ds => decide (uptoBulkAll ds ≤ 1048576)
def OpenSpec.upto (s : _root_.Go.ChangeSpec) : _root_.Go.OpenSpec := { _root_.Go.OpenSpec.ofChange s with cond := some uptoSmall }

/-- 'conciergelaw13.TimersNone', WHERE WHAT IT READS IS OF BULK AT MOST 1048576: true; the input reads as it did. -/
def timersNoneUptoRow : OpenClaim := { program := "ytmafdnbdaaedgaa", sum := "29d8fc2ee2f4a763d0e9fbd9f8e1db77fca55d9e1f517e21935852e408fd84c8", func := "concierge/conciergelaw13.TimersNone", spec := "timersNone", unfollowed := true, recurses := true, apart := false, narrowed := true }
def TimersNoneUptoSaid : Prop := timersNoneUptoRow.holds Try.pinned (OpenSpec.upto timersNoneSpec)

/-- 'conciergelaw13.TimersRuns', WHERE WHAT IT READS IS OF BULK AT MOST 1048576: true; the input reads as it did. -/
def timersRunsUptoRow : OpenClaim := { program := "ytmafdnbdaaedgaa", sum := "29d8fc2ee2f4a763d0e9fbd9f8e1db77fca55d9e1f517e21935852e408fd84c8", func := "concierge/conciergelaw13.TimersRuns", spec := "timersRuns", unfollowed := true, recurses := true, apart := false, narrowed := true }
def TimersRunsUptoSaid : Prop := timersRunsUptoRow.holds Try.pinned (OpenSpec.upto timersRunsSpec)

/-- 'conciergelaw13.TimersNobody', WHERE WHAT IT READS IS OF BULK AT MOST 1048576: true; the input reads as it did. -/
def timersNobodyUptoRow : OpenClaim := { program := "ytmafdnbdaaedgaa", sum := "29d8fc2ee2f4a763d0e9fbd9f8e1db77fca55d9e1f517e21935852e408fd84c8", func := "concierge/conciergelaw13.TimersNobody", spec := "timersNobody", unfollowed := true, recurses := true, apart := false, narrowed := true }
def TimersNobodyUptoSaid : Prop := timersNobodyUptoRow.holds Try.pinned (OpenSpec.upto timersNobodySpec)

end Rows
end Go.Proofs.Ytmafdnbdaaedgaa
