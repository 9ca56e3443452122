/-
  No cell of these rows narrows 'for every input' (looked for: loops, veiled, ifaces, maps, wideKeys, modest, calm, conditions, laid).
  DERIVED. THE GIVEN ROWS OF THIS SEAT. 6 by the template 'for every input the law returns true; each argument reads behind the call as it read before'; 0 by the template 'total and deterministic' (their statements: YtjfoicebdjonfaaTotals.lean).
  GIVEN WITH THE SEED: the statements are not yours to turn. If you find one false, say at which input.
  Laid BY PROGRAM, IN A SANDBOX (cutbox-rows.mjs): the forced cells as the released guide's own fill.sh prints them over the translation c7f97fd41ea0bbeb… (all of the seat's roots in one cut). By AI agents, Wed Nov 11 2026. No macro, syntax, notation, axiom, sorry.
-/
import Derived.Test.YtjfoicebdjonfaaChecked
import GoSem.Claim
import GoSem.ClaimJoined
import GoSem.ClaimMapViews
import Derived.JoinedTies
import Derived.KernelRfl
namespace Go.Proofs.Ytjfoicebdjonfaa
/- THE CELL 'sum', in the pinned program and in every row, IS THE sha256 OF THE DUMP (.gsa) THAT YtjfoicebdjonfaaProg.lean LOADS. Nothing in Lean hashes anything: it is a label: what it is worth is what the hold of that sum in a sandbox is worth. -/
noncomputable def Try.pinned : Pinned := { name := "ytjfoicebdjonfaa", sum := "c7f97fd41ea0bbebc30faec9c2ce2d90894c81c0e847507f3a9d07252a7e86c4", checked := Try.checked }
namespace Rows
def none {H : Type} : Left H := { results := [], args := [] }

/-- 'conciergelaw24.TaskHolds': WHATEVER THE INPUT: true; the input reads as it did. -/
def taskHoldsSpec : ChangeSpec := { name := "taskHolds", fn := fun _ => fun
  | [d] => { results := [.lit (.bool true)], args := [d] }
  | _ => none }
def taskHoldsRow : OpenClaim := { program := "ytjfoicebdjonfaa", sum := "c7f97fd41ea0bbebc30faec9c2ce2d90894c81c0e847507f3a9d07252a7e86c4", func := "concierge/conciergelaw24.TaskHolds", spec := "taskHolds", unfollowed := true, recurses := true, apart := false }
def TaskHoldsSaid : Prop := taskHoldsRow.holds Try.pinned (OpenSpec.ofChange taskHoldsSpec)

/-- ITS FALSE NEIGHBOUR: 'it returns false'. Refute it at one input. -/
def taskHoldsWrong : ChangeSpec := { name := "taskHolds", fn := fun _ => fun
  | [d] => { results := [.lit (.bool false)], args := [d] }
  | _ => none }
def TaskHoldsWrongFalsely : Prop := taskHoldsRow.holds Try.pinned (OpenSpec.ofChange taskHoldsWrong)

/-- 'conciergelaw24.TaskPlans': WHATEVER THE INPUT: true; the input reads as it did. -/
def taskPlansSpec : ChangeSpec := { name := "taskPlans", fn := fun _ => fun
  | [d1, d2, d3] => { results := [.lit (.bool true)], args := [d1, d2, d3] }
  | _ => none }
def taskPlansRow : OpenClaim := { program := "ytjfoicebdjonfaa", sum := "c7f97fd41ea0bbebc30faec9c2ce2d90894c81c0e847507f3a9d07252a7e86c4", func := "concierge/conciergelaw24.TaskPlans", spec := "taskPlans", unfollowed := true, recurses := true, apart := false }
def TaskPlansSaid : Prop := taskPlansRow.holds Try.pinned (OpenSpec.ofChange taskPlansSpec)

/-- ITS FALSE NEIGHBOUR: 'it returns false'. Refute it at one input. -/
def taskPlansWrong : ChangeSpec := { name := "taskPlans", fn := fun _ => fun
  | [d1, d2, d3] => { results := [.lit (.bool false)], args := [d1, d2, d3] }
  | _ => none }
def TaskPlansWrongFalsely : Prop := taskPlansRow.holds Try.pinned (OpenSpec.ofChange taskPlansWrong)

/-- 'conciergelaw24.TaskSound': WHATEVER THE INPUT: true; the input reads as it did. -/
def taskSoundSpec : ChangeSpec := { name := "taskSound", fn := fun _ => fun
  | [d1, d2, d3] => { results := [.lit (.bool true)], args := [d1, d2, d3] }
  | _ => none }
def taskSoundRow : OpenClaim := { program := "ytjfoicebdjonfaa", sum := "c7f97fd41ea0bbebc30faec9c2ce2d90894c81c0e847507f3a9d07252a7e86c4", func := "concierge/conciergelaw24.TaskSound", spec := "taskSound", unfollowed := true, recurses := true, apart := false }
def TaskSoundSaid : Prop := taskSoundRow.holds Try.pinned (OpenSpec.ofChange taskSoundSpec)

/-- ITS FALSE NEIGHBOUR: 'it returns false'. Refute it at one input. -/
def taskSoundWrong : ChangeSpec := { name := "taskSound", fn := fun _ => fun
  | [d1, d2, d3] => { results := [.lit (.bool false)], args := [d1, d2, d3] }
  | _ => none }
def TaskSoundWrongFalsely : Prop := taskSoundRow.holds Try.pinned (OpenSpec.ofChange taskSoundWrong)

/-- 'conciergelaw24.TaskMerges': WHATEVER THE INPUT: true; the input reads as it did. -/
def taskMergesSpec : ChangeSpec := { name := "taskMerges", fn := fun _ => fun
  | [d1, d2] => { results := [.lit (.bool true)], args := [d1, d2] }
  | _ => none }
def taskMergesRow : OpenClaim := { program := "ytjfoicebdjonfaa", sum := "c7f97fd41ea0bbebc30faec9c2ce2d90894c81c0e847507f3a9d07252a7e86c4", func := "concierge/conciergelaw24.TaskMerges", spec := "taskMerges", unfollowed := true, recurses := true, apart := false }
def TaskMergesSaid : Prop := taskMergesRow.holds Try.pinned (OpenSpec.ofChange taskMergesSpec)

/-- ITS FALSE NEIGHBOUR: 'it returns false'. Refute it at one input. -/
def taskMergesWrong : ChangeSpec := { name := "taskMerges", fn := fun _ => fun
  | [d1, d2] => { results := [.lit (.bool false)], args := [d1, d2] }
  | _ => none }
def TaskMergesWrongFalsely : Prop := taskMergesRow.holds Try.pinned (OpenSpec.ofChange taskMergesWrong)

/-- 'conciergelaw24.TaskRows': WHATEVER THE INPUT: true; the input reads as it did. -/
def taskRowsSpec : ChangeSpec := { name := "taskRows", fn := fun _ => fun
  | [d1, d2] => { results := [.lit (.bool true)], args := [d1, d2] }
  | _ => none }
def taskRowsRow : OpenClaim := { program := "ytjfoicebdjonfaa", sum := "c7f97fd41ea0bbebc30faec9c2ce2d90894c81c0e847507f3a9d07252a7e86c4", func := "concierge/conciergelaw24.TaskRows", spec := "taskRows", unfollowed := true, recurses := true, apart := false }
def TaskRowsSaid : Prop := taskRowsRow.holds Try.pinned (OpenSpec.ofChange taskRowsSpec)

/-- ITS FALSE NEIGHBOUR: 'it returns false'. Refute it at one input. -/
def taskRowsWrong : ChangeSpec := { name := "taskRows", fn := fun _ => fun
  | [d1, d2] => { results := [.lit (.bool false)], args := [d1, d2] }
  | _ => none }
def TaskRowsWrongFalsely : Prop := taskRowsRow.holds Try.pinned (OpenSpec.ofChange taskRowsWrong)

/-- 'conciergelaw24.TaskEnds': WHATEVER THE INPUT: true; the input reads as it did. -/
def taskEndsSpec : ChangeSpec := { name := "taskEnds", fn := fun _ => fun
  | [d1, d2, d3] => { results := [.lit (.bool true)], args := [d1, d2, d3] }
  | _ => none }
def taskEndsRow : OpenClaim := { program := "ytjfoicebdjonfaa", sum := "c7f97fd41ea0bbebc30faec9c2ce2d90894c81c0e847507f3a9d07252a7e86c4", func := "concierge/conciergelaw24.TaskEnds", spec := "taskEnds", unfollowed := true, recurses := true, apart := false }
def TaskEndsSaid : Prop := taskEndsRow.holds Try.pinned (OpenSpec.ofChange taskEndsSpec)

/-- ITS FALSE NEIGHBOUR: 'it returns false'. Refute it at one input. -/
def taskEndsWrong : ChangeSpec := { name := "taskEnds", fn := fun _ => fun
  | [d1, d2, d3] => { results := [.lit (.bool false)], args := [d1, d2, d3] }
  | _ => none }
def TaskEndsWrongFalsely : Prop := taskEndsRow.holds Try.pinned (OpenSpec.ofChange taskEndsWrong)

/- THE SECOND FORM. 'bulk': how many values and letters a reading holds, each counted each time it is reached (what is shared counts as often as it is met; a slice's spare places count too). A statement '..UptoSaid' is the law's where the arguments, and the package variables that the reading takes, are together of bulk at most 1048576: NARROWER than '..Said'. Prove '..Said' where nothing that the law and all that it calls make is longer than what came in: it says more and counts as full. Else prove '..UptoSaid'. A law counts once. -/
mutual
def uptoBulk {H : Type} : DataW H → Nat
  | .lit (.string bytes) => bytes.length + 1
  | .lit _ => 1
  | .nil => 1
  | .ptr d => uptoBulk d + 1
  | .slice elems spare => uptoBulkAll elems + uptoBulkAll spare + 1
  | .agg parts => uptoBulkAll parts + 1
  | .iface _ d => uptoBulk d + 1
  | .map entries => uptoBulkEntries entries + 1
  | .held _ => 1
def uptoBulkAll {H : Type} : List (DataW H) → Nat
  | [] => 0
  | d :: r => uptoBulk d + uptoBulkAll r
def uptoBulkEntries {H : Type} : List (Lit × DataW H) → Nat
  | [] => 0
  | x :: r => uptoBulkEntry x + uptoBulkEntries r
def uptoBulkEntry {H : Type} : Lit × DataW H → Nat
  | (.string bytes, d) => bytes.length + uptoBulk d + 1
  | (_, d) => uptoBulk d + 1
 end
def uptoSmall : (H : Type) → List (DataW H) → Bool := fun _ ds => decide (uptoBulkAll ds ≤ 1048576)
def OpenSpec.upto (s : _root_.Go.ChangeSpec) : _root_.Go.OpenSpec := { _root_.Go.OpenSpec.ofChange s with cond := some uptoSmall }

/-- 'conciergelaw24.TaskHolds', WHERE WHAT IT READS IS OF BULK AT MOST 1048576: true; the input reads as it did. -/
def taskHoldsUptoRow : OpenClaim := { program := "ytjfoicebdjonfaa", sum := "c7f97fd41ea0bbebc30faec9c2ce2d90894c81c0e847507f3a9d07252a7e86c4", func := "concierge/conciergelaw24.TaskHolds", spec := "taskHolds", unfollowed := true, recurses := true, apart := false, narrowed := true }
def TaskHoldsUptoSaid : Prop := taskHoldsUptoRow.holds Try.pinned (OpenSpec.upto taskHoldsSpec)

/-- 'conciergelaw24.TaskPlans', WHERE WHAT IT READS IS OF BULK AT MOST 1048576: true; the input reads as it did. -/
def taskPlansUptoRow : OpenClaim := { program := "ytjfoicebdjonfaa", sum := "c7f97fd41ea0bbebc30faec9c2ce2d90894c81c0e847507f3a9d07252a7e86c4", func := "concierge/conciergelaw24.TaskPlans", spec := "taskPlans", unfollowed := true, recurses := true, apart := false, narrowed := true }
def TaskPlansUptoSaid : Prop := taskPlansUptoRow.holds Try.pinned (OpenSpec.upto taskPlansSpec)

/-- 'conciergelaw24.TaskSound', WHERE WHAT IT READS IS OF BULK AT MOST 1048576: true; the input reads as it did. -/
def taskSoundUptoRow : OpenClaim := { program := "ytjfoicebdjonfaa", sum := "c7f97fd41ea0bbebc30faec9c2ce2d90894c81c0e847507f3a9d07252a7e86c4", func := "concierge/conciergelaw24.TaskSound", spec := "taskSound", unfollowed := true, recurses := true, apart := false, narrowed := true }
def TaskSoundUptoSaid : Prop := taskSoundUptoRow.holds Try.pinned (OpenSpec.upto taskSoundSpec)

/-- 'conciergelaw24.TaskMerges', WHERE WHAT IT READS IS OF BULK AT MOST 1048576: true; the input reads as it did. -/
def taskMergesUptoRow : OpenClaim := { program := "ytjfoicebdjonfaa", sum := "c7f97fd41ea0bbebc30faec9c2ce2d90894c81c0e847507f3a9d07252a7e86c4", func := "concierge/conciergelaw24.TaskMerges", spec := "taskMerges", unfollowed := true, recurses := true, apart := false, narrowed := true }
def TaskMergesUptoSaid : Prop := taskMergesUptoRow.holds Try.pinned (OpenSpec.upto taskMergesSpec)

/-- 'conciergelaw24.TaskRows', WHERE WHAT IT READS IS OF BULK AT MOST 1048576: true; the input reads as it did. -/
def taskRowsUptoRow : OpenClaim := { program := "ytjfoicebdjonfaa", sum := "c7f97fd41ea0bbebc30faec9c2ce2d90894c81c0e847507f3a9d07252a7e86c4", func := "concierge/conciergelaw24.TaskRows", spec := "taskRows", unfollowed := true, recurses := true, apart := false, narrowed := true }
def TaskRowsUptoSaid : Prop := taskRowsUptoRow.holds Try.pinned (OpenSpec.upto taskRowsSpec)

/-- 'conciergelaw24.TaskEnds', WHERE WHAT IT READS IS OF BULK AT MOST 1048576: true; the input reads as it did. -/
def taskEndsUptoRow : OpenClaim := { program := "ytjfoicebdjonfaa", sum := "c7f97fd41ea0bbebc30faec9c2ce2d90894c81c0e847507f3a9d07252a7e86c4", func := "concierge/conciergelaw24.TaskEnds", spec := "taskEnds", unfollowed := true, recurses := true, apart := false, narrowed := true }
def TaskEndsUptoSaid : Prop := taskEndsUptoRow.holds Try.pinned (OpenSpec.upto taskEndsSpec)

end Rows
end Go.Proofs.Ytjfoicebdjonfaa
