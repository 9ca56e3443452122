/-
  No cell of these rows narrows 'for every input' (looked for: loops, veiled, ifaces, maps, wideKeys, modest, calm, conditions, laid).
  DERIVED. THE GIVEN ROWS OF THIS SEAT. 4 by the template 'for every input the law returns true; each argument reads behind the call as it read before'; 0 by the template 'total and deterministic' (their statements: YtheingjfcbofcaaTotals.lean).
  GIVEN WITH THE SEED: the statements are not yours to turn. If you find one false, say at which input.
  Laid BY PROGRAM, IN A SANDBOX (cutbox-rows.mjs): the forced cells as the released guide's own fill.sh prints them over the translation 97ec9dacc5479143… (all of the seat's roots in one cut). By AI agents, Wed Nov 11 2026. No macro, syntax, notation, axiom, sorry.
-/
import Derived.Test.YtheingjfcbofcaaChecked
import GoSem.Claim
import GoSem.ClaimJoined
import GoSem.ClaimMapViews
import Derived.JoinedTies
import Derived.KernelRfl
namespace Go.Proofs.Ytheingjfcbofcaa
/- THE CELL 'sum', in the pinned program and in every row, IS THE sha256 OF THE DUMP (.gsa) THAT YtheingjfcbofcaaProg.lean LOADS. Nothing in Lean hashes anything: it is a label: what it is worth is what the hold of that sum in a sandbox is worth. -/
noncomputable def Try.pinned : Pinned := { name := "ytheingjfcbofcaa", sum := "97ec9dacc5479143961bb075b5312c392e11a92f83a444a1512584477ba52f07", checked := Try.checked }
namespace Rows
def none {H : Type} : Left H := { results := [], args := [] }

/-- 'conciergelaw22.InboxOrder': WHATEVER THE INPUT: true; the input reads as it did. -/
def inboxOrderSpec : ChangeSpec := { name := "inboxOrder", fn := fun _ => fun
  | [d1, d2, d3] => { results := [.lit (.bool true)], args := [d1, d2, d3] }
  | _ => none }
def inboxOrderRow : OpenClaim := { program := "ytheingjfcbofcaa", sum := "97ec9dacc5479143961bb075b5312c392e11a92f83a444a1512584477ba52f07", func := "concierge/conciergelaw22.InboxOrder", spec := "inboxOrder", apart := false }
def InboxOrderSaid : Prop := inboxOrderRow.holds Try.pinned (OpenSpec.ofChange inboxOrderSpec)

/-- ITS FALSE NEIGHBOUR: 'it returns false'. Refute it at one input. -/
def inboxOrderWrong : ChangeSpec := { name := "inboxOrder", fn := fun _ => fun
  | [d1, d2, d3] => { results := [.lit (.bool false)], args := [d1, d2, d3] }
  | _ => none }
def InboxOrderWrongFalsely : Prop := inboxOrderRow.holds Try.pinned (OpenSpec.ofChange inboxOrderWrong)

/-- 'conciergelaw22.InboxOwn': WHATEVER THE INPUT: true; the input reads as it did. -/
def inboxOwnSpec : ChangeSpec := { name := "inboxOwn", fn := fun _ => fun
  | [d1, d2] => { results := [.lit (.bool true)], args := [d1, d2] }
  | _ => none }
def inboxOwnRow : OpenClaim := { program := "ytheingjfcbofcaa", sum := "97ec9dacc5479143961bb075b5312c392e11a92f83a444a1512584477ba52f07", func := "concierge/conciergelaw22.InboxOwn", spec := "inboxOwn", apart := false }
def InboxOwnSaid : Prop := inboxOwnRow.holds Try.pinned (OpenSpec.ofChange inboxOwnSpec)

/-- ITS FALSE NEIGHBOUR: 'it returns false'. Refute it at one input. -/
def inboxOwnWrong : ChangeSpec := { name := "inboxOwn", fn := fun _ => fun
  | [d1, d2] => { results := [.lit (.bool false)], args := [d1, d2] }
  | _ => none }
def InboxOwnWrongFalsely : Prop := inboxOwnRow.holds Try.pinned (OpenSpec.ofChange inboxOwnWrong)

/-- 'conciergelaw22.InboxRuns': WHATEVER THE INPUT: true; the input reads as it did. -/
def inboxRunsSpec : ChangeSpec := { name := "inboxRuns", fn := fun _ => fun
  | [d1, d2] => { results := [.lit (.bool true)], args := [d1, d2] }
  | _ => none }
def inboxRunsRow : OpenClaim := { program := "ytheingjfcbofcaa", sum := "97ec9dacc5479143961bb075b5312c392e11a92f83a444a1512584477ba52f07", func := "concierge/conciergelaw22.InboxRuns", spec := "inboxRuns", apart := false }
def InboxRunsSaid : Prop := inboxRunsRow.holds Try.pinned (OpenSpec.ofChange inboxRunsSpec)

/-- ITS FALSE NEIGHBOUR: 'it returns false'. Refute it at one input. -/
def inboxRunsWrong : ChangeSpec := { name := "inboxRuns", fn := fun _ => fun
  | [d1, d2] => { results := [.lit (.bool false)], args := [d1, d2] }
  | _ => none }
def InboxRunsWrongFalsely : Prop := inboxRunsRow.holds Try.pinned (OpenSpec.ofChange inboxRunsWrong)

/-- 'conciergelaw22.InboxNobody': WHATEVER THE INPUT: true; the input reads as it did. -/
def inboxNobodySpec : ChangeSpec := { name := "inboxNobody", fn := fun _ => fun
  | [d1, d2] => { results := [.lit (.bool true)], args := [d1, d2] }
  | _ => none }
def inboxNobodyRow : OpenClaim := { program := "ytheingjfcbofcaa", sum := "97ec9dacc5479143961bb075b5312c392e11a92f83a444a1512584477ba52f07", func := "concierge/conciergelaw22.InboxNobody", spec := "inboxNobody", apart := false }
def InboxNobodySaid : Prop := inboxNobodyRow.holds Try.pinned (OpenSpec.ofChange inboxNobodySpec)

/-- ITS FALSE NEIGHBOUR: 'it returns false'. Refute it at one input. -/
def inboxNobodyWrong : ChangeSpec := { name := "inboxNobody", fn := fun _ => fun
  | [d1, d2] => { results := [.lit (.bool false)], args := [d1, d2] }
  | _ => none }
def InboxNobodyWrongFalsely : Prop := inboxNobodyRow.holds Try.pinned (OpenSpec.ofChange inboxNobodyWrong)

/- THE SECOND FORM. 'bulk': how many values and letters a reading holds, each counted each time it is reached (what is shared counts as often as it is met; a slice's spare places count too). A statement '..UptoSaid' is the law's where the arguments, and the package variables that the reading takes, are together of bulk at most 1048576: NARROWER than '..Said'. Prove '..Said' where nothing that the law and all that it calls make is longer than what came in: it says more and counts as full. Else prove '..UptoSaid'. A law counts once. -/
mutual
def uptoBulk {H : Type} : DataW H → Nat
  | .lit (.string bytes) => bytes.length + 1
  | .lit _ => 1
  | .nil => 1
  | .ptr d => uptoBulk d + 1
  | .slice elems spare => uptoBulkAll elems + uptoBulkAll spare + 1
  | .agg parts => uptoBulkAll parts + 1
  | .iface _ d => uptoBulk d + 1
  | .map entries => uptoBulkEntries entries + 1
  | .held _ => 1
def uptoBulkAll {H : Type} : List (DataW H) → Nat
  | [] => 0
  | d :: r => uptoBulk d + uptoBulkAll r
def uptoBulkEntries {H : Type} : List (Lit × DataW H) → Nat
  | [] => 0
  | x :: r => uptoBulkEntry x + uptoBulkEntries r
def uptoBulkEntry {H : Type} : Lit × DataW H → Nat
  | (.string bytes, d) => bytes.length + uptoBulk d + 1
  | (_, d) => uptoBulk d + 1
 end
def uptoSmall : (H : Type) → List (DataW H) → Bool := fun _ ds => decide (uptoBulkAll ds ≤ 1048576)
def OpenSpec.upto (s : _root_.Go.ChangeSpec) : _root_.Go.OpenSpec := { _root_.Go.OpenSpec.ofChange s with cond := some uptoSmall }

/-- 'conciergelaw22.InboxOrder', WHERE WHAT IT READS IS OF BULK AT MOST 1048576: true; the input reads as it did. -/
def inboxOrderUptoRow : OpenClaim := { program := "ytheingjfcbofcaa", sum := "97ec9dacc5479143961bb075b5312c392e11a92f83a444a1512584477ba52f07", func := "concierge/conciergelaw22.InboxOrder", spec := "inboxOrder", apart := false, narrowed := true }
def InboxOrderUptoSaid : Prop := inboxOrderUptoRow.holds Try.pinned (OpenSpec.upto inboxOrderSpec)

/-- 'conciergelaw22.InboxOwn', WHERE WHAT IT READS IS OF BULK AT MOST 1048576: true; the input reads as it did. -/
def inboxOwnUptoRow : OpenClaim := { program := "ytheingjfcbofcaa", sum := "97ec9dacc5479143961bb075b5312c392e11a92f83a444a1512584477ba52f07", func := "concierge/conciergelaw22.InboxOwn", spec := "inboxOwn", apart := false, narrowed := true }
def InboxOwnUptoSaid : Prop := inboxOwnUptoRow.holds Try.pinned (OpenSpec.upto inboxOwnSpec)

/-- 'conciergelaw22.InboxRuns', WHERE WHAT IT READS IS OF BULK AT MOST 1048576: true; the input reads as it did. -/
def inboxRunsUptoRow : OpenClaim := { program := "ytheingjfcbofcaa", sum := "97ec9dacc5479143961bb075b5312c392e11a92f83a444a1512584477ba52f07", func := "concierge/conciergelaw22.InboxRuns", spec := "inboxRuns", apart := false, narrowed := true }
def InboxRunsUptoSaid : Prop := inboxRunsUptoRow.holds Try.pinned (OpenSpec.upto inboxRunsSpec)

/-- 'conciergelaw22.InboxNobody', WHERE WHAT IT READS IS OF BULK AT MOST 1048576: true; the input reads as it did. -/
def inboxNobodyUptoRow : OpenClaim := { program := "ytheingjfcbofcaa", sum := "97ec9dacc5479143961bb075b5312c392e11a92f83a444a1512584477ba52f07", func := "concierge/conciergelaw22.InboxNobody", spec := "inboxNobody", apart := false, narrowed := true }
def InboxNobodyUptoSaid : Prop := inboxNobodyUptoRow.holds Try.pinned (OpenSpec.upto inboxNobodySpec)

end Rows
end Go.Proofs.Ytheingjfcbofcaa
