/- What the arguments of conciergelaw13's laws read as. No condition. -/
import Derived.Test.YtmafdnbdaaedgaaYPl
import Derived.Test.YtmafdnbdaaedgaaYb1
set_option linter.unusedSectionVars false
set_option linter.unusedVariables false
set_option linter.unusedSimpArgs false
set_option linter.deprecated false
namespace Go.Proofs.Ytmafdnbdaaedgaa
open Go.RowKit Go.Cx Go.ChangeShapes Go.WideShapes Go.ChangeAt Go.Deep Go.Lib Go.Am
theorem opensBytes : Opens (List UInt8) Try.prog 22 := opens_slice Try.underlying22 (by kernel_rfl) (by decide) (opens_u8 Try.underlying5)
end Go.Proofs.Ytmafdnbdaaedgaa
