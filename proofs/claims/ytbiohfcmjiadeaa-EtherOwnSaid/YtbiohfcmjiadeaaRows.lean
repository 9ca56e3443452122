/-
  No cell of these rows narrows 'for every input' (looked for: loops, veiled, ifaces, maps, wideKeys, modest, calm, conditions, laid).
  DERIVED. THE GIVEN ROWS OF THIS SEAT. 6 by the template 'for every input the law returns true; each argument reads behind the call as it read before'; 0 by the template 'total and deterministic' (their statements: YtbiohfcmjiadeaaTotals.lean).
  GIVEN WITH THE SEED: the statements are not yours to turn. If you find one false, say at which input.
  Laid BY PROGRAM, IN A SANDBOX (cutbox-rows.mjs): the forced cells as the released guide's own fill.sh prints them over the translation 31417a6619f0aa7f… (all of the seat's roots in one cut). By AI agents, Wed Nov 11 2026. No macro, syntax, notation, axiom, sorry.
-/
import Derived.Test.YtbiohfcmjiadeaaChecked
import GoSem.Claim
import GoSem.ClaimJoined
import GoSem.ClaimMapViews
import Derived.JoinedTies
import Derived.KernelRfl
namespace Go.Proofs.Ytbiohfcmjiadeaa
/- THE CELL 'sum', in the pinned program and in every row, IS THE sha256 OF THE DUMP (.gsa) THAT YtbiohfcmjiadeaaProg.lean LOADS. Nothing in Lean hashes anything: it is a label: what it is worth is what the hold of that sum in a sandbox is worth. -/
noncomputable def Try.pinned : Pinned := { name := "ytbiohfcmjiadeaa", sum := "31417a6619f0aa7f1f00d280b7dc4dc86b992e714fb1e9091cb12a976970a8e5", checked := Try.checked }
namespace Rows
def none {H : Type} : Left H := { results := [], args := [] }

/-- 'conciergelaw04.EtherEncodes': WHATEVER THE INPUT: true; the input reads as it did. -/
def etherEncodesSpec : ChangeSpec := { name := "etherEncodes", fn := fun _ => fun
  | [d] => { results := [.lit (.bool true)], args := [d] }
  | _ => none }
def etherEncodesRow : OpenClaim := { program := "ytbiohfcmjiadeaa", sum := "31417a6619f0aa7f1f00d280b7dc4dc86b992e714fb1e9091cb12a976970a8e5", func := "concierge/conciergelaw04.EtherEncodes", spec := "etherEncodes", apart := false }
def EtherEncodesSaid : Prop := etherEncodesRow.holds Try.pinned (OpenSpec.ofChange etherEncodesSpec)

/-- ITS FALSE NEIGHBOUR: 'it returns false'. Refute it at one input. -/
def etherEncodesWrong : ChangeSpec := { name := "etherEncodes", fn := fun _ => fun
  | [d] => { results := [.lit (.bool false)], args := [d] }
  | _ => none }
def EtherEncodesWrongFalsely : Prop := etherEncodesRow.holds Try.pinned (OpenSpec.ofChange etherEncodesWrong)

/-- 'conciergelaw04.EtherDecodes': WHATEVER THE INPUT: true; the input reads as it did. -/
def etherDecodesSpec : ChangeSpec := { name := "etherDecodes", fn := fun _ => fun
  | [d] => { results := [.lit (.bool true)], args := [d] }
  | _ => none }
def etherDecodesRow : OpenClaim := { program := "ytbiohfcmjiadeaa", sum := "31417a6619f0aa7f1f00d280b7dc4dc86b992e714fb1e9091cb12a976970a8e5", func := "concierge/conciergelaw04.EtherDecodes", spec := "etherDecodes", apart := false }
def EtherDecodesSaid : Prop := etherDecodesRow.holds Try.pinned (OpenSpec.ofChange etherDecodesSpec)

/-- ITS FALSE NEIGHBOUR: 'it returns false'. Refute it at one input. -/
def etherDecodesWrong : ChangeSpec := { name := "etherDecodes", fn := fun _ => fun
  | [d] => { results := [.lit (.bool false)], args := [d] }
  | _ => none }
def EtherDecodesWrongFalsely : Prop := etherDecodesRow.holds Try.pinned (OpenSpec.ofChange etherDecodesWrong)

/-- 'conciergelaw04.EtherBack': WHATEVER THE INPUT: true; the input reads as it did. -/
def etherBackSpec : ChangeSpec := { name := "etherBack", fn := fun _ => fun
  | [d1, d2] => { results := [.lit (.bool true)], args := [d1, d2] }
  | _ => none }
def etherBackRow : OpenClaim := { program := "ytbiohfcmjiadeaa", sum := "31417a6619f0aa7f1f00d280b7dc4dc86b992e714fb1e9091cb12a976970a8e5", func := "concierge/conciergelaw04.EtherBack", spec := "etherBack", apart := false }
def EtherBackSaid : Prop := etherBackRow.holds Try.pinned (OpenSpec.ofChange etherBackSpec)

/-- ITS FALSE NEIGHBOUR: 'it returns false'. Refute it at one input. -/
def etherBackWrong : ChangeSpec := { name := "etherBack", fn := fun _ => fun
  | [d1, d2] => { results := [.lit (.bool false)], args := [d1, d2] }
  | _ => none }
def EtherBackWrongFalsely : Prop := etherBackRow.holds Try.pinned (OpenSpec.ofChange etherBackWrong)

/-- 'conciergelaw04.EtherEnds': WHATEVER THE INPUT: true; the input reads as it did. -/
def etherEndsSpec : ChangeSpec := { name := "etherEnds", fn := fun _ => fun
  | [d] => { results := [.lit (.bool true)], args := [d] }
  | _ => none }
def etherEndsRow : OpenClaim := { program := "ytbiohfcmjiadeaa", sum := "31417a6619f0aa7f1f00d280b7dc4dc86b992e714fb1e9091cb12a976970a8e5", func := "concierge/conciergelaw04.EtherEnds", spec := "etherEnds", apart := false }
def EtherEndsSaid : Prop := etherEndsRow.holds Try.pinned (OpenSpec.ofChange etherEndsSpec)

/-- ITS FALSE NEIGHBOUR: 'it returns false'. Refute it at one input. -/
def etherEndsWrong : ChangeSpec := { name := "etherEnds", fn := fun _ => fun
  | [d] => { results := [.lit (.bool false)], args := [d] }
  | _ => none }
def EtherEndsWrongFalsely : Prop := etherEndsRow.holds Try.pinned (OpenSpec.ofChange etherEndsWrong)

/-- 'conciergelaw04.EtherPads': WHATEVER THE INPUT: true; the input reads as it did. -/
def etherPadsSpec : ChangeSpec := { name := "etherPads", fn := fun _ => fun
  | [d1, d2, d3] => { results := [.lit (.bool true)], args := [d1, d2, d3] }
  | _ => none }
def etherPadsRow : OpenClaim := { program := "ytbiohfcmjiadeaa", sum := "31417a6619f0aa7f1f00d280b7dc4dc86b992e714fb1e9091cb12a976970a8e5", func := "concierge/conciergelaw04.EtherPads", spec := "etherPads", apart := false }
def EtherPadsSaid : Prop := etherPadsRow.holds Try.pinned (OpenSpec.ofChange etherPadsSpec)

/-- ITS FALSE NEIGHBOUR: 'it returns false'. Refute it at one input. -/
def etherPadsWrong : ChangeSpec := { name := "etherPads", fn := fun _ => fun
  | [d1, d2, d3] => { results := [.lit (.bool false)], args := [d1, d2, d3] }
  | _ => none }
def EtherPadsWrongFalsely : Prop := etherPadsRow.holds Try.pinned (OpenSpec.ofChange etherPadsWrong)

/-- 'conciergelaw04.EtherOwn': WHATEVER THE INPUT: true; the input reads as it did. -/
def etherOwnSpec : ChangeSpec := { name := "etherOwn", fn := fun _ => fun
  | [d1, d2] => { results := [.lit (.bool true)], args := [d1, d2] }
  | _ => none }
def etherOwnRow : OpenClaim := { program := "ytbiohfcmjiadeaa", sum := "31417a6619f0aa7f1f00d280b7dc4dc86b992e714fb1e9091cb12a976970a8e5", func := "concierge/conciergelaw04.EtherOwn", spec := "etherOwn", apart := false }
def EtherOwnSaid : Prop := etherOwnRow.holds Try.pinned (OpenSpec.ofChange etherOwnSpec)

/-- ITS FALSE NEIGHBOUR: 'it returns false'. Refute it at one input. -/
def etherOwnWrong : ChangeSpec := { name := "etherOwn", fn := fun _ => fun
  | [d1, d2] => { results := [.lit (.bool false)], args := [d1, d2] }
  | _ => none }
def EtherOwnWrongFalsely : Prop := etherOwnRow.holds Try.pinned (OpenSpec.ofChange etherOwnWrong)

/- THE SECOND FORM. 'bulk': how many values and letters a reading holds, each counted each time it is reached (what is shared counts as often as it is met; a slice's spare places count too). A statement '..UptoSaid' is the law's where the arguments, and the package variables that the reading takes, are together of bulk at most 1048576: NARROWER than '..Said'. Prove '..Said' where nothing that the law and all that it calls make is longer than what came in: it says more and counts as full. Else prove '..UptoSaid'. A law counts once. -/
mutual
def uptoBulk {H : Type} : DataW H → Nat
  | .lit (.string bytes) => bytes.length + 1
  | .lit _ => 1
  | .nil => 1
  | .ptr d => uptoBulk d + 1
  | .slice elems spare => uptoBulkAll elems + uptoBulkAll spare + 1
  | .agg parts => uptoBulkAll parts + 1
  | .iface _ d => uptoBulk d + 1
  | .map entries => uptoBulkEntries entries + 1
  | .held _ => 1
def uptoBulkAll {H : Type} : List (DataW H) → Nat
  | [] => 0
  | d :: r => uptoBulk d + uptoBulkAll r
def uptoBulkEntries {H : Type} : List (Lit × DataW H) → Nat
  | [] => 0
  | x :: r => uptoBulkEntry x + uptoBulkEntries r
def uptoBulkEntry {H : Type} : Lit × DataW H → Nat
  | (.string bytes, d) => bytes.length + uptoBulk d + 1
  | (_, d) => uptoBulk d + 1
 end
def uptoSmall : (H : Type) → List (DataW H) → Bool := fun _ ds => decide (uptoBulkAll ds ≤ 1048576)
def OpenSpec.upto (s : _root_.Go.ChangeSpec) : _root_.Go.OpenSpec := { _root_.Go.OpenSpec.ofChange s with cond := some uptoSmall }

/-- 'conciergelaw04.EtherEncodes', WHERE WHAT IT READS IS OF BULK AT MOST 1048576: true; the input reads as it did. -/
def etherEncodesUptoRow : OpenClaim := { program := "ytbiohfcmjiadeaa", sum := "31417a6619f0aa7f1f00d280b7dc4dc86b992e714fb1e9091cb12a976970a8e5", func := "concierge/conciergelaw04.EtherEncodes", spec := "etherEncodes", apart := false, narrowed := true }
def EtherEncodesUptoSaid : Prop := etherEncodesUptoRow.holds Try.pinned (OpenSpec.upto etherEncodesSpec)

/-- 'conciergelaw04.EtherDecodes', WHERE WHAT IT READS IS OF BULK AT MOST 1048576: true; the input reads as it did. -/
def etherDecodesUptoRow : OpenClaim := { program := "ytbiohfcmjiadeaa", sum := "31417a6619f0aa7f1f00d280b7dc4dc86b992e714fb1e9091cb12a976970a8e5", func := "concierge/conciergelaw04.EtherDecodes", spec := "etherDecodes", apart := false, narrowed := true }
def EtherDecodesUptoSaid : Prop := etherDecodesUptoRow.holds Try.pinned (OpenSpec.upto etherDecodesSpec)

/-- 'conciergelaw04.EtherBack', WHERE WHAT IT READS IS OF BULK AT MOST 1048576: true; the input reads as it did. -/
def etherBackUptoRow : OpenClaim := { program := "ytbiohfcmjiadeaa", sum := "31417a6619f0aa7f1f00d280b7dc4dc86b992e714fb1e9091cb12a976970a8e5", func := "concierge/conciergelaw04.EtherBack", spec := "etherBack", apart := false, narrowed := true }
def EtherBackUptoSaid : Prop := etherBackUptoRow.holds Try.pinned (OpenSpec.upto etherBackSpec)

/-- 'conciergelaw04.EtherEnds', WHERE WHAT IT READS IS OF BULK AT MOST 1048576: true; the input reads as it did. -/
def etherEndsUptoRow : OpenClaim := { program := "ytbiohfcmjiadeaa", sum := "31417a6619f0aa7f1f00d280b7dc4dc86b992e714fb1e9091cb12a976970a8e5", func := "concierge/conciergelaw04.EtherEnds", spec := "etherEnds", apart := false, narrowed := true }
def EtherEndsUptoSaid : Prop := etherEndsUptoRow.holds Try.pinned (OpenSpec.upto etherEndsSpec)

/-- 'conciergelaw04.EtherPads', WHERE WHAT IT READS IS OF BULK AT MOST 1048576: true; the input reads as it did. -/
def etherPadsUptoRow : OpenClaim := { program := "ytbiohfcmjiadeaa", sum := "31417a6619f0aa7f1f00d280b7dc4dc86b992e714fb1e9091cb12a976970a8e5", func := "concierge/conciergelaw04.EtherPads", spec := "etherPads", apart := false, narrowed := true }
def EtherPadsUptoSaid : Prop := etherPadsUptoRow.holds Try.pinned (OpenSpec.upto etherPadsSpec)

/-- 'conciergelaw04.EtherOwn', WHERE WHAT IT READS IS OF BULK AT MOST 1048576: true; the input reads as it did. -/
def etherOwnUptoRow : OpenClaim := { program := "ytbiohfcmjiadeaa", sum := "31417a6619f0aa7f1f00d280b7dc4dc86b992e714fb1e9091cb12a976970a8e5", func := "concierge/conciergelaw04.EtherOwn", spec := "etherOwn", apart := false, narrowed := true }
def EtherOwnUptoSaid : Prop := etherOwnUptoRow.holds Try.pinned (OpenSpec.upto etherOwnSpec)

end Rows
end Go.Proofs.Ytbiohfcmjiadeaa
