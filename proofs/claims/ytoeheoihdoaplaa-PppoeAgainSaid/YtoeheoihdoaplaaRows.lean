/-
  No cell of these rows narrows 'for every input' (looked for: loops, veiled, ifaces, maps, wideKeys, modest, calm, conditions, laid).
  DERIVED. THE GIVEN ROWS OF THIS SEAT. 6 by the template 'for every input the law returns true; each argument reads behind the call as it read before'; 0 by the template 'total and deterministic' (their statements: YtoeheoihdoaplaaTotals.lean).
  GIVEN WITH THE SEED: the statements are not yours to turn. If you find one false, say at which input.
  Laid BY PROGRAM, IN A SANDBOX (cutbox-rows.mjs): the forced cells as the released guide's own fill.sh prints them over the translation 6c89d0369c95f57d… (all of the seat's roots in one cut). By AI agents, Wed Nov 11 2026. No macro, syntax, notation, axiom, sorry.
-/
import Derived.Test.YtoeheoihdoaplaaChecked
import GoSem.Claim
import GoSem.ClaimJoined
import GoSem.ClaimMapViews
import Derived.JoinedTies
import Derived.KernelRfl
namespace Go.Proofs.Ytoeheoihdoaplaa
/- THE CELL 'sum', in the pinned program and in every row, IS THE sha256 OF THE DUMP (.gsa) THAT YtoeheoihdoaplaaProg.lean LOADS. Nothing in Lean hashes anything: it is a label: what it is worth is what the hold of that sum in a sandbox is worth. -/
noncomputable def Try.pinned : Pinned := { name := "ytoeheoihdoaplaa", sum := "6c89d0369c95f57d2b8ef3848f2391e544fa728bfeb2a1dfbeff3b503ced67ed", checked := Try.checked }
namespace Rows
def none {H : Type} : Left H := { results := [], args := [] }

/-- 'conciergelaw06.PppoeCodes': WHATEVER THE INPUT: true; the input reads as it did. -/
def pppoeCodesSpec : ChangeSpec := { name := "pppoeCodes", fn := fun _ => fun
  | [d1, d2] => { results := [.lit (.bool true)], args := [d1, d2] }
  | _ => none }
def pppoeCodesRow : OpenClaim := { program := "ytoeheoihdoaplaa", sum := "6c89d0369c95f57d2b8ef3848f2391e544fa728bfeb2a1dfbeff3b503ced67ed", func := "concierge/conciergelaw06.PppoeCodes", spec := "pppoeCodes", apart := false }
def PppoeCodesSaid : Prop := pppoeCodesRow.holds Try.pinned (OpenSpec.ofChange pppoeCodesSpec)

/-- ITS FALSE NEIGHBOUR: 'it returns false'. Refute it at one input. -/
def pppoeCodesWrong : ChangeSpec := { name := "pppoeCodes", fn := fun _ => fun
  | [d1, d2] => { results := [.lit (.bool false)], args := [d1, d2] }
  | _ => none }
def PppoeCodesWrongFalsely : Prop := pppoeCodesRow.holds Try.pinned (OpenSpec.ofChange pppoeCodesWrong)

/-- 'conciergelaw06.PppoeBack': WHATEVER THE INPUT: true; the input reads as it did. -/
def pppoeBackSpec : ChangeSpec := { name := "pppoeBack", fn := fun _ => fun
  | [d1, d2, d3] => { results := [.lit (.bool true)], args := [d1, d2, d3] }
  | _ => none }
def pppoeBackRow : OpenClaim := { program := "ytoeheoihdoaplaa", sum := "6c89d0369c95f57d2b8ef3848f2391e544fa728bfeb2a1dfbeff3b503ced67ed", func := "concierge/conciergelaw06.PppoeBack", spec := "pppoeBack", apart := false }
def PppoeBackSaid : Prop := pppoeBackRow.holds Try.pinned (OpenSpec.ofChange pppoeBackSpec)

/-- ITS FALSE NEIGHBOUR: 'it returns false'. Refute it at one input. -/
def pppoeBackWrong : ChangeSpec := { name := "pppoeBack", fn := fun _ => fun
  | [d1, d2, d3] => { results := [.lit (.bool false)], args := [d1, d2, d3] }
  | _ => none }
def PppoeBackWrongFalsely : Prop := pppoeBackRow.holds Try.pinned (OpenSpec.ofChange pppoeBackWrong)

/-- 'conciergelaw06.PppoeOwn': WHATEVER THE INPUT: true; the input reads as it did. -/
def pppoeOwnSpec : ChangeSpec := { name := "pppoeOwn", fn := fun _ => fun
  | [d1, d2] => { results := [.lit (.bool true)], args := [d1, d2] }
  | _ => none }
def pppoeOwnRow : OpenClaim := { program := "ytoeheoihdoaplaa", sum := "6c89d0369c95f57d2b8ef3848f2391e544fa728bfeb2a1dfbeff3b503ced67ed", func := "concierge/conciergelaw06.PppoeOwn", spec := "pppoeOwn", apart := false }
def PppoeOwnSaid : Prop := pppoeOwnRow.holds Try.pinned (OpenSpec.ofChange pppoeOwnSpec)

/-- ITS FALSE NEIGHBOUR: 'it returns false'. Refute it at one input. -/
def pppoeOwnWrong : ChangeSpec := { name := "pppoeOwn", fn := fun _ => fun
  | [d1, d2] => { results := [.lit (.bool false)], args := [d1, d2] }
  | _ => none }
def PppoeOwnWrongFalsely : Prop := pppoeOwnRow.holds Try.pinned (OpenSpec.ofChange pppoeOwnWrong)

/-- 'conciergelaw06.PppoeOffers': WHATEVER THE INPUT: true; the input reads as it did. -/
def pppoeOffersSpec : ChangeSpec := { name := "pppoeOffers", fn := fun _ => fun
  | [d1, d2, d3, d4] => { results := [.lit (.bool true)], args := [d1, d2, d3, d4] }
  | _ => none }
def pppoeOffersRow : OpenClaim := { program := "ytoeheoihdoaplaa", sum := "6c89d0369c95f57d2b8ef3848f2391e544fa728bfeb2a1dfbeff3b503ced67ed", func := "concierge/conciergelaw06.PppoeOffers", spec := "pppoeOffers", unfollowed := true, recurses := true, apart := false }
def PppoeOffersSaid : Prop := pppoeOffersRow.holds Try.pinned (OpenSpec.ofChange pppoeOffersSpec)

/-- ITS FALSE NEIGHBOUR: 'it returns false'. Refute it at one input. -/
def pppoeOffersWrong : ChangeSpec := { name := "pppoeOffers", fn := fun _ => fun
  | [d1, d2, d3, d4] => { results := [.lit (.bool false)], args := [d1, d2, d3, d4] }
  | _ => none }
def PppoeOffersWrongFalsely : Prop := pppoeOffersRow.holds Try.pinned (OpenSpec.ofChange pppoeOffersWrong)

/-- 'conciergelaw06.PppoeAnswers': WHATEVER THE INPUT: true; the input reads as it did. -/
def pppoeAnswersSpec : ChangeSpec := { name := "pppoeAnswers", fn := fun _ => fun
  | [d1, d2, d3, d4] => { results := [.lit (.bool true)], args := [d1, d2, d3, d4] }
  | _ => none }
def pppoeAnswersRow : OpenClaim := { program := "ytoeheoihdoaplaa", sum := "6c89d0369c95f57d2b8ef3848f2391e544fa728bfeb2a1dfbeff3b503ced67ed", func := "concierge/conciergelaw06.PppoeAnswers", spec := "pppoeAnswers", unfollowed := true, recurses := true, apart := false }
def PppoeAnswersSaid : Prop := pppoeAnswersRow.holds Try.pinned (OpenSpec.ofChange pppoeAnswersSpec)

/-- ITS FALSE NEIGHBOUR: 'it returns false'. Refute it at one input. -/
def pppoeAnswersWrong : ChangeSpec := { name := "pppoeAnswers", fn := fun _ => fun
  | [d1, d2, d3, d4] => { results := [.lit (.bool false)], args := [d1, d2, d3, d4] }
  | _ => none }
def PppoeAnswersWrongFalsely : Prop := pppoeAnswersRow.holds Try.pinned (OpenSpec.ofChange pppoeAnswersWrong)

/-- 'conciergelaw06.PppoeAgain': WHATEVER THE INPUT: true; the input reads as it did. -/
def pppoeAgainSpec : ChangeSpec := { name := "pppoeAgain", fn := fun _ => fun
  | [d1, d2, d3, d4] => { results := [.lit (.bool true)], args := [d1, d2, d3, d4] }
  | _ => none }
def pppoeAgainRow : OpenClaim := { program := "ytoeheoihdoaplaa", sum := "6c89d0369c95f57d2b8ef3848f2391e544fa728bfeb2a1dfbeff3b503ced67ed", func := "concierge/conciergelaw06.PppoeAgain", spec := "pppoeAgain", unfollowed := true, recurses := true, apart := false }
def PppoeAgainSaid : Prop := pppoeAgainRow.holds Try.pinned (OpenSpec.ofChange pppoeAgainSpec)

/-- ITS FALSE NEIGHBOUR: 'it returns false'. Refute it at one input. -/
def pppoeAgainWrong : ChangeSpec := { name := "pppoeAgain", fn := fun _ => fun
  | [d1, d2, d3, d4] => { results := [.lit (.bool false)], args := [d1, d2, d3, d4] }
  | _ => none }
def PppoeAgainWrongFalsely : Prop := pppoeAgainRow.holds Try.pinned (OpenSpec.ofChange pppoeAgainWrong)

/- THE SECOND FORM. 'bulk': how many values and letters a reading holds, each counted each time it is reached (what is shared counts as often as it is met; a slice's spare places count too). A statement '..UptoSaid' is the law's where the arguments, and the package variables that the reading takes, are together of bulk at most 1048576: NARROWER than '..Said'. Prove '..Said' where nothing that the law and all that it calls make is longer than what came in: it says more and counts as full. Else prove '..UptoSaid'. A law counts once. -/
mutual
def uptoBulk {H : Type} : DataW H → Nat
  | .lit (.string bytes) => bytes.length + 1
  | .lit _ => 1
  | .nil => 1
  | .ptr d => uptoBulk d + 1
  | .slice elems spare => uptoBulkAll elems + uptoBulkAll spare + 1
  | .agg parts => uptoBulkAll parts + 1
  | .iface _ d => uptoBulk d + 1
  | .map entries => uptoBulkEntries entries + 1
  | .held _ => 1
def uptoBulkAll {H : Type} : List (DataW H) → Nat
  | [] => 0
  | d :: r => uptoBulk d + uptoBulkAll r
def uptoBulkEntries {H : Type} : List (Lit × DataW H) → Nat
  | [] => 0
  | x :: r => uptoBulkEntry x + uptoBulkEntries r
def uptoBulkEntry {H : Type} : Lit × DataW H → Nat
  | (.string bytes, d) => bytes.length + uptoBulk d + 1
  | (_, d) => uptoBulk d + 1
 end
def uptoSmall : (H : Type) → List (DataW H) → Bool := fun _ ds => decide (uptoBulkAll ds ≤ 1048576)
def OpenSpec.upto (s : _root_.Go.ChangeSpec) : _root_.Go.OpenSpec := { _root_.Go.OpenSpec.ofChange s with cond := some uptoSmall }

/-- 'conciergelaw06.PppoeCodes', WHERE WHAT IT READS IS OF BULK AT MOST 1048576: true; the input reads as it did. -/
def pppoeCodesUptoRow : OpenClaim := { program := "ytoeheoihdoaplaa", sum := "6c89d0369c95f57d2b8ef3848f2391e544fa728bfeb2a1dfbeff3b503ced67ed", func := "concierge/conciergelaw06.PppoeCodes", spec := "pppoeCodes", apart := false, narrowed := true }
def PppoeCodesUptoSaid : Prop := pppoeCodesUptoRow.holds Try.pinned (OpenSpec.upto pppoeCodesSpec)

/-- 'conciergelaw06.PppoeBack', WHERE WHAT IT READS IS OF BULK AT MOST 1048576: true; the input reads as it did. -/
def pppoeBackUptoRow : OpenClaim := { program := "ytoeheoihdoaplaa", sum := "6c89d0369c95f57d2b8ef3848f2391e544fa728bfeb2a1dfbeff3b503ced67ed", func := "concierge/conciergelaw06.PppoeBack", spec := "pppoeBack", apart := false, narrowed := true }
def PppoeBackUptoSaid : Prop := pppoeBackUptoRow.holds Try.pinned (OpenSpec.upto pppoeBackSpec)

/-- 'conciergelaw06.PppoeOwn', WHERE WHAT IT READS IS OF BULK AT MOST 1048576: true; the input reads as it did. -/
def pppoeOwnUptoRow : OpenClaim := { program := "ytoeheoihdoaplaa", sum := "6c89d0369c95f57d2b8ef3848f2391e544fa728bfeb2a1dfbeff3b503ced67ed", func := "concierge/conciergelaw06.PppoeOwn", spec := "pppoeOwn", apart := false, narrowed := true }
def PppoeOwnUptoSaid : Prop := pppoeOwnUptoRow.holds Try.pinned (OpenSpec.upto pppoeOwnSpec)

/-- 'conciergelaw06.PppoeOffers', WHERE WHAT IT READS IS OF BULK AT MOST 1048576: true; the input reads as it did. -/
def pppoeOffersUptoRow : OpenClaim := { program := "ytoeheoihdoaplaa", sum := "6c89d0369c95f57d2b8ef3848f2391e544fa728bfeb2a1dfbeff3b503ced67ed", func := "concierge/conciergelaw06.PppoeOffers", spec := "pppoeOffers", unfollowed := true, recurses := true, apart := false, narrowed := true }
def PppoeOffersUptoSaid : Prop := pppoeOffersUptoRow.holds Try.pinned (OpenSpec.upto pppoeOffersSpec)

/-- 'conciergelaw06.PppoeAnswers', WHERE WHAT IT READS IS OF BULK AT MOST 1048576: true; the input reads as it did. -/
def pppoeAnswersUptoRow : OpenClaim := { program := "ytoeheoihdoaplaa", sum := "6c89d0369c95f57d2b8ef3848f2391e544fa728bfeb2a1dfbeff3b503ced67ed", func := "concierge/conciergelaw06.PppoeAnswers", spec := "pppoeAnswers", unfollowed := true, recurses := true, apart := false, narrowed := true }
def PppoeAnswersUptoSaid : Prop := pppoeAnswersUptoRow.holds Try.pinned (OpenSpec.upto pppoeAnswersSpec)

/-- 'conciergelaw06.PppoeAgain', WHERE WHAT IT READS IS OF BULK AT MOST 1048576: true; the input reads as it did. -/
def pppoeAgainUptoRow : OpenClaim := { program := "ytoeheoihdoaplaa", sum := "6c89d0369c95f57d2b8ef3848f2391e544fa728bfeb2a1dfbeff3b503ced67ed", func := "concierge/conciergelaw06.PppoeAgain", spec := "pppoeAgain", unfollowed := true, recurses := true, apart := false, narrowed := true }
def PppoeAgainUptoSaid : Prop := pppoeAgainUptoRow.holds Try.pinned (OpenSpec.upto pppoeAgainSpec)

end Rows
end Go.Proofs.Ytoeheoihdoaplaa
