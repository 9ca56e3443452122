/-
  No cell of these rows narrows 'for every input' (looked for: loops, veiled, ifaces, maps, wideKeys, modest, calm, conditions, laid).
  DERIVED. THE GIVEN ROWS OF THIS SEAT. 6 by the template 'for every input the law returns true; each argument reads behind the call as it read before'; 0 by the template 'total and deterministic' (their statements: YtminoakdilbokaaTotals.lean).
  GIVEN WITH THE SEED: the statements are not yours to turn. If you find one false, say at which input.
  Laid BY PROGRAM, IN A SANDBOX (cutbox-rows.mjs): the forced cells as the released guide's own fill.sh prints them over the translation 84eb7e79059b2f6d… (all of the seat's roots in one cut). By AI agents, Wed Nov 11 2026. No macro, syntax, notation, axiom, sorry.
-/
import Derived.Test.YtminoakdilbokaaChecked
import GoSem.Claim
import GoSem.ClaimJoined
import GoSem.ClaimMapViews
import Derived.JoinedTies
import Derived.KernelRfl
namespace Go.Proofs.Ytminoakdilbokaa
/- THE CELL 'sum', in the pinned program and in every row, IS THE sha256 OF THE DUMP (.gsa) THAT YtminoakdilbokaaProg.lean LOADS. Nothing in Lean hashes anything: it is a label: what it is worth is what the hold of that sum in a sandbox is worth. -/
noncomputable def Try.pinned : Pinned := { name := "ytminoakdilbokaa", sum := "84eb7e79059b2f6dbc836b7e282911bc2961730c860cf1cd1d4062474097fbc1", checked := Try.checked }
namespace Rows
def none {H : Type} : Left H := { results := [], args := [] }

/-- 'conciergelaw05.TagsEncodes': WHATEVER THE INPUT: true; the input reads as it did. -/
def tagsEncodesSpec : ChangeSpec := { name := "tagsEncodes", fn := fun _ => fun
  | [d] => { results := [.lit (.bool true)], args := [d] }
  | _ => none }
def tagsEncodesRow : OpenClaim := { program := "ytminoakdilbokaa", sum := "84eb7e79059b2f6dbc836b7e282911bc2961730c860cf1cd1d4062474097fbc1", func := "concierge/conciergelaw05.TagsEncodes", spec := "tagsEncodes", apart := false }
def TagsEncodesSaid : Prop := tagsEncodesRow.holds Try.pinned (OpenSpec.ofChange tagsEncodesSpec)

/-- ITS FALSE NEIGHBOUR: 'it returns false'. Refute it at one input. -/
def tagsEncodesWrong : ChangeSpec := { name := "tagsEncodes", fn := fun _ => fun
  | [d] => { results := [.lit (.bool false)], args := [d] }
  | _ => none }
def TagsEncodesWrongFalsely : Prop := tagsEncodesRow.holds Try.pinned (OpenSpec.ofChange tagsEncodesWrong)

/-- 'conciergelaw05.TagsLong': WHATEVER THE INPUT: true; the input reads as it did. -/
def tagsLongSpec : ChangeSpec := { name := "tagsLong", fn := fun _ => fun
  | [d1, d2] => { results := [.lit (.bool true)], args := [d1, d2] }
  | _ => none }
def tagsLongRow : OpenClaim := { program := "ytminoakdilbokaa", sum := "84eb7e79059b2f6dbc836b7e282911bc2961730c860cf1cd1d4062474097fbc1", func := "concierge/conciergelaw05.TagsLong", spec := "tagsLong", apart := false }
def TagsLongSaid : Prop := tagsLongRow.holds Try.pinned (OpenSpec.ofChange tagsLongSpec)

/-- ITS FALSE NEIGHBOUR: 'it returns false'. Refute it at one input. -/
def tagsLongWrong : ChangeSpec := { name := "tagsLong", fn := fun _ => fun
  | [d1, d2] => { results := [.lit (.bool false)], args := [d1, d2] }
  | _ => none }
def TagsLongWrongFalsely : Prop := tagsLongRow.holds Try.pinned (OpenSpec.ofChange tagsLongWrong)

/-- 'conciergelaw05.TagsDecodes': WHATEVER THE INPUT: true; the input reads as it did. -/
def tagsDecodesSpec : ChangeSpec := { name := "tagsDecodes", fn := fun _ => fun
  | [d] => { results := [.lit (.bool true)], args := [d] }
  | _ => none }
def tagsDecodesRow : OpenClaim := { program := "ytminoakdilbokaa", sum := "84eb7e79059b2f6dbc836b7e282911bc2961730c860cf1cd1d4062474097fbc1", func := "concierge/conciergelaw05.TagsDecodes", spec := "tagsDecodes", apart := false }
def TagsDecodesSaid : Prop := tagsDecodesRow.holds Try.pinned (OpenSpec.ofChange tagsDecodesSpec)

/-- ITS FALSE NEIGHBOUR: 'it returns false'. Refute it at one input. -/
def tagsDecodesWrong : ChangeSpec := { name := "tagsDecodes", fn := fun _ => fun
  | [d] => { results := [.lit (.bool false)], args := [d] }
  | _ => none }
def TagsDecodesWrongFalsely : Prop := tagsDecodesRow.holds Try.pinned (OpenSpec.ofChange tagsDecodesWrong)

/-- 'conciergelaw05.TagsBack': WHATEVER THE INPUT: true; the input reads as it did. -/
def tagsBackSpec : ChangeSpec := { name := "tagsBack", fn := fun _ => fun
  | [d1, d2, d3] => { results := [.lit (.bool true)], args := [d1, d2, d3] }
  | _ => none }
def tagsBackRow : OpenClaim := { program := "ytminoakdilbokaa", sum := "84eb7e79059b2f6dbc836b7e282911bc2961730c860cf1cd1d4062474097fbc1", func := "concierge/conciergelaw05.TagsBack", spec := "tagsBack", apart := false }
def TagsBackSaid : Prop := tagsBackRow.holds Try.pinned (OpenSpec.ofChange tagsBackSpec)

/-- ITS FALSE NEIGHBOUR: 'it returns false'. Refute it at one input. -/
def tagsBackWrong : ChangeSpec := { name := "tagsBack", fn := fun _ => fun
  | [d1, d2, d3] => { results := [.lit (.bool false)], args := [d1, d2, d3] }
  | _ => none }
def TagsBackWrongFalsely : Prop := tagsBackRow.holds Try.pinned (OpenSpec.ofChange tagsBackWrong)

/-- 'conciergelaw05.TagsParts': WHATEVER THE INPUT: true; the input reads as it did. -/
def tagsPartsSpec : ChangeSpec := { name := "tagsParts", fn := fun _ => fun
  | [d1, d2] => { results := [.lit (.bool true)], args := [d1, d2] }
  | _ => none }
def tagsPartsRow : OpenClaim := { program := "ytminoakdilbokaa", sum := "84eb7e79059b2f6dbc836b7e282911bc2961730c860cf1cd1d4062474097fbc1", func := "concierge/conciergelaw05.TagsParts", spec := "tagsParts", apart := false }
def TagsPartsSaid : Prop := tagsPartsRow.holds Try.pinned (OpenSpec.ofChange tagsPartsSpec)

/-- ITS FALSE NEIGHBOUR: 'it returns false'. Refute it at one input. -/
def tagsPartsWrong : ChangeSpec := { name := "tagsParts", fn := fun _ => fun
  | [d1, d2] => { results := [.lit (.bool false)], args := [d1, d2] }
  | _ => none }
def TagsPartsWrongFalsely : Prop := tagsPartsRow.holds Try.pinned (OpenSpec.ofChange tagsPartsWrong)

/-- 'conciergelaw05.TagsFind': WHATEVER THE INPUT: true; the input reads as it did. -/
def tagsFindSpec : ChangeSpec := { name := "tagsFind", fn := fun _ => fun
  | [d1, d2] => { results := [.lit (.bool true)], args := [d1, d2] }
  | _ => none }
def tagsFindRow : OpenClaim := { program := "ytminoakdilbokaa", sum := "84eb7e79059b2f6dbc836b7e282911bc2961730c860cf1cd1d4062474097fbc1", func := "concierge/conciergelaw05.TagsFind", spec := "tagsFind", apart := false }
def TagsFindSaid : Prop := tagsFindRow.holds Try.pinned (OpenSpec.ofChange tagsFindSpec)

/-- ITS FALSE NEIGHBOUR: 'it returns false'. Refute it at one input. -/
def tagsFindWrong : ChangeSpec := { name := "tagsFind", fn := fun _ => fun
  | [d1, d2] => { results := [.lit (.bool false)], args := [d1, d2] }
  | _ => none }
def TagsFindWrongFalsely : Prop := tagsFindRow.holds Try.pinned (OpenSpec.ofChange tagsFindWrong)

/- THE SECOND FORM. 'bulk': how many values and letters a reading holds, each counted each time it is reached (what is shared counts as often as it is met; a slice's spare places count too). A statement '..UptoSaid' is the law's where the arguments, and the package variables that the reading takes, are together of bulk at most 1048576: NARROWER than '..Said'. Prove '..Said' where nothing that the law and all that it calls make is longer than what came in: it says more and counts as full. Else prove '..UptoSaid'. A law counts once. -/
mutual
def uptoBulk {H : Type} : DataW H → Nat
  | .lit (.string bytes) => bytes.length + 1
  | .lit _ => 1
  | .nil => 1
  | .ptr d => uptoBulk d + 1
  | .slice elems spare => uptoBulkAll elems + uptoBulkAll spare + 1
  | .agg parts => uptoBulkAll parts + 1
  | .iface _ d => uptoBulk d + 1
  | .map entries => uptoBulkEntries entries + 1
  | .held _ => 1
def uptoBulkAll {H : Type} : List (DataW H) → Nat
  | [] => 0
  | d :: r => uptoBulk d + uptoBulkAll r
def uptoBulkEntries {H : Type} : List (Lit × DataW H) → Nat
  | [] => 0
  | x :: r => uptoBulkEntry x + uptoBulkEntries r
def uptoBulkEntry {H : Type} : Lit × DataW H → Nat
  | (.string bytes, d) => bytes.length + uptoBulk d + 1
  | (_, d) => uptoBulk d + 1
 end
def uptoSmall : (H : Type) → List (DataW H) → Bool := fun _ ds => decide (uptoBulkAll ds ≤ 1048576)
def OpenSpec.upto (s : _root_.Go.ChangeSpec) : _root_.Go.OpenSpec := { _root_.Go.OpenSpec.ofChange s with cond := some uptoSmall }

/-- 'conciergelaw05.TagsEncodes', WHERE WHAT IT READS IS OF BULK AT MOST 1048576: true; the input reads as it did. -/
def tagsEncodesUptoRow : OpenClaim := { program := "ytminoakdilbokaa", sum := "84eb7e79059b2f6dbc836b7e282911bc2961730c860cf1cd1d4062474097fbc1", func := "concierge/conciergelaw05.TagsEncodes", spec := "tagsEncodes", apart := false, narrowed := true }
def TagsEncodesUptoSaid : Prop := tagsEncodesUptoRow.holds Try.pinned (OpenSpec.upto tagsEncodesSpec)

/-- 'conciergelaw05.TagsLong', WHERE WHAT IT READS IS OF BULK AT MOST 1048576: true; the input reads as it did. -/
def tagsLongUptoRow : OpenClaim := { program := "ytminoakdilbokaa", sum := "84eb7e79059b2f6dbc836b7e282911bc2961730c860cf1cd1d4062474097fbc1", func := "concierge/conciergelaw05.TagsLong", spec := "tagsLong", apart := false, narrowed := true }
def TagsLongUptoSaid : Prop := tagsLongUptoRow.holds Try.pinned (OpenSpec.upto tagsLongSpec)

/-- 'conciergelaw05.TagsDecodes', WHERE WHAT IT READS IS OF BULK AT MOST 1048576: true; the input reads as it did. -/
def tagsDecodesUptoRow : OpenClaim := { program := "ytminoakdilbokaa", sum := "84eb7e79059b2f6dbc836b7e282911bc2961730c860cf1cd1d4062474097fbc1", func := "concierge/conciergelaw05.TagsDecodes", spec := "tagsDecodes", apart := false, narrowed := true }
def TagsDecodesUptoSaid : Prop := tagsDecodesUptoRow.holds Try.pinned (OpenSpec.upto tagsDecodesSpec)

/-- 'conciergelaw05.TagsBack', WHERE WHAT IT READS IS OF BULK AT MOST 1048576: true; the input reads as it did. -/
def tagsBackUptoRow : OpenClaim := { program := "ytminoakdilbokaa", sum := "84eb7e79059b2f6dbc836b7e282911bc2961730c860cf1cd1d4062474097fbc1", func := "concierge/conciergelaw05.TagsBack", spec := "tagsBack", apart := false, narrowed := true }
def TagsBackUptoSaid : Prop := tagsBackUptoRow.holds Try.pinned (OpenSpec.upto tagsBackSpec)

/-- 'conciergelaw05.TagsParts', WHERE WHAT IT READS IS OF BULK AT MOST 1048576: true; the input reads as it did. -/
def tagsPartsUptoRow : OpenClaim := { program := "ytminoakdilbokaa", sum := "84eb7e79059b2f6dbc836b7e282911bc2961730c860cf1cd1d4062474097fbc1", func := "concierge/conciergelaw05.TagsParts", spec := "tagsParts", apart := false, narrowed := true }
def TagsPartsUptoSaid : Prop := tagsPartsUptoRow.holds Try.pinned (OpenSpec.upto tagsPartsSpec)

/-- 'conciergelaw05.TagsFind', WHERE WHAT IT READS IS OF BULK AT MOST 1048576: true; the input reads as it did. -/
def tagsFindUptoRow : OpenClaim := { program := "ytminoakdilbokaa", sum := "84eb7e79059b2f6dbc836b7e282911bc2961730c860cf1cd1d4062474097fbc1", func := "concierge/conciergelaw05.TagsFind", spec := "tagsFind", apart := false, narrowed := true }
def TagsFindUptoSaid : Prop := tagsFindUptoRow.holds Try.pinned (OpenSpec.upto tagsFindSpec)

end Rows
end Go.Proofs.Ytminoakdilbokaa
