/- The package sha, by the machine: a Hash that nobody made. No condition but bounds of lengths. -/
import Derived.Test.YtegfopnjochidaaDoorShl
set_option linter.unusedSectionVars false
set_option linter.unusedVariables false
set_option linter.unusedSimpArgs false
set_option linter.deprecated false
namespace Go.Sha
open Go.Am
/-- The cells of a Hash that nobody made. -/
def zC : List AV := uvs (zeros32 8) ++ (bvs (zeros8 64) ++ [.v (.int .i64 0), .v (.bool false)])
theorem zC_73 : zC.drop 73 = [.v (.bool false)] := rfl
theorem nbs_zC {n : Nat} : nbs n zC = True := eq_true (nbs_iff.2 fun a ha => by
  unfold zC at ha
  rcases List.mem_append.1 ha with ha | ha
  · exact nbs_iff.1 (of_eq_true (nbs_uvs _)) a ha
  · rcases List.mem_append.1 ha with ha | ha
    · exact nbs_iff.1 (of_eq_true (nbs_bvs _)) a ha
    · simp at ha
      rcases ha with rfl | rfl <;> trivial)
theorem amaps_zC {f : Nat → Nat} : amaps f zC = zC := amaps_id (n := 0) (fun r hr => absurd hr (Nat.not_lt_zero r)) (of_eq_true nbs_zC)
end Go.Sha
