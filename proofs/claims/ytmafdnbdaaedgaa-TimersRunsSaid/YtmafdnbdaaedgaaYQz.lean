/- What the arguments of conciergelaw13's laws read as. No condition. -/
import Derived.Test.YtmafdnbdaaedgaaYPl
import Derived.Test.YtmafdnbdaaedgaaYb1
set_option linter.unusedSectionVars false
set_option linter.unusedVariables false
set_option linter.unusedSimpArgs false
set_option linter.deprecated false
namespace Go.Proofs.Ytmafdnbdaaedgaa
open Go.RowKit Go.Cx Go.ChangeShapes Go.WideShapes Go.ChangeAt Go.Deep Go.Lib Go.Am
theorem opensOp : Opens (Int × Int × Int) Try.prog 37 := by
  intro H enc w spare held fuel cs x h
  obtain ⟨xs, n, _, _, hl, hlen, hf⟩ := DataW.trod_struct Try.underlying37 h
  match xs, hlen with
  | [y0, y1, y2], _ =>
    have h0 := hf 0 _ rfl
    have h1 := hf 1 _ rfl
    have h2 := hf 2 _ rfl
    simp only [List.getElem?_cons_zero, List.getElem?_cons_succ, show Try.prog.cellsOf 37 = 3 by kernel_rfl, show Try.prog.cellsOf 3 = 1 by kernel_rfl] at hl h0 h1 h2
    obtain ⟨a, e0⟩ := opens_int Try.underlying3 enc w spare held n _ _ h0
    obtain ⟨b, e1⟩ := opens_int Try.underlying3 enc w spare held n _ _ h1
    obtain ⟨c, e2⟩ := opens_int Try.underlying3 enc w spare held n _ _ h2
    refine ⟨(a, b, c), ?_, e0.2, e1.2, e2.2⟩
    have e0' := e0.1
    have e1' := e1.1
    have e2' := e2.1
    match cs, hl with
    | [u0, u1, u2], _ =>
      simp [show Try.prog.cellsOf 3 = 1 by kernel_rfl] at e0' e1' e2'
      simp [e0', e1', e2']
theorem opensOps : Opens (List (Int × Int × Int)) Try.prog 35 := opens_slice Try.underlying35 (by kernel_rfl) (by decide) opensOp
end Go.Proofs.Ytmafdnbdaaedgaa
