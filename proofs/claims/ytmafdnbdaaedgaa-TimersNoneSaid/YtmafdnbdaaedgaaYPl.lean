/- Arguments of plain cells, told to the abstract machine. No condition. -/
import Derived.Test.YtmafdnbdaaedgaaYb1
import Derived.Test.YtmafdnbdaaedgaaYGn
set_option linter.unusedSectionVars false
set_option linter.unusedVariables false
set_option linter.unusedSimpArgs false
set_option linter.deprecated false
namespace Go.Am
open Go.RowKit Go.Cx Go.ChangeShapes Go.WideShapes Go.ChangeAt Go.Deep
section
variable {α : Type} [Rep α] [Cel α] (hrd : ∀ {G w} {cs : List Value} {a : α}, Rep.rd G w cs a → cs = Cel.cel a)
include hrd
end
/-- A number of 64 bits. -/
def i64? (n : Int) : Prop := -9223372036854775808 ≤ n ∧ n ≤ 9223372036854775807
instance : Rep (Int × Int × Int) where
  sz := 3
  rd _ _ cs o := cs = [.int .i64 o.1, .int .i64 o.2.1, .int .i64 o.2.2] ∧ i64? o.1 ∧ i64? o.2.1 ∧ i64? o.2.2
  len := by rintro _ _ _ _ ⟨rfl, _⟩; rfl
  one := by
    rintro _ _ _ _ ⟨rfl, _⟩
    simp [Value.oneCell']
  mono _ _ h := h
end Go.Am
