/- What the arguments of conciergelaw02's laws read as. No condition. -/
import Derived.Test.YtbiikekemaggaaaDoorTopa
import Derived.Test.YtbiikekemaggaaaDoorOt
set_option linter.unusedSectionVars false
set_option linter.unusedVariables false
set_option linter.unusedSimpArgs false
set_option linter.deprecated false
namespace Go.Proofs.YtbiikekemaggaaaDoor
open Go.RowKit Go.Cx Go.ChangeShapes Go.WideShapes Go.ChangeAt Go.Deep Go.Lib Go.Am Go.Sha
theorem opensBytes : Opens (List UInt8) Tryd.prog 22 := opens_slice Tryd.underlying22 (by kernel_rfl) (by decide) (opens_u8 Tryd.underlying5)
theorem u8_of {n : Nat} (h : n ≤ 255) : ∃ x : UInt8, n = x.toNat := ⟨UInt8.ofNat n, by simp; omega⟩
theorem st_of (l : List UInt32) (h : l.length = 8) : ∃ s : St, s.l = l := by
  match l, h with
  | [a, c, d, e, f, g, h, k], _ => exact ⟨⟨a, c, d, e, f, g, h, k⟩, rfl⟩
end Go.Proofs.YtbiikekemaggaaaDoor
