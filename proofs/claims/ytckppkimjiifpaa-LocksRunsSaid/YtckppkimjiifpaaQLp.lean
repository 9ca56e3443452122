/- What the arguments of conciergelaw21's laws read as. No condition. -/
import Derived.Test.YtckppkimjiifpaaQPl
import Derived.Test.YtckppkimjiifpaaQLj
import Derived.Test.YtckppkimjiifpaaQb1
set_option linter.unusedSectionVars false
set_option linter.unusedVariables false
set_option linter.unusedSimpArgs false
set_option linter.deprecated false
namespace Go.Am
open Go.RowKit Go.Cx Go.ChangeShapes Go.WideShapes Go.ChangeAt Go.Deep Go.Lib
instance : Rep (Int × Int × Int × Bool) where
  sz := 4
  rd _ _ cs o := cs = [.int .i64 o.1, .int .i64 o.2.1, .int .i64 o.2.2.1, .bool o.2.2.2] ∧ i64? o.1 ∧ i64? o.2.1 ∧ i64? o.2.2.1
  len := by rintro _ _ _ _ ⟨rfl, _⟩; rfl
  one := by
    rintro _ _ _ _ ⟨rfl, _⟩
    simp [Value.oneCell']
  mono _ _ h := h
theorem rd_iiib {G : Nat → Prop} {w : World} {cs : List Value} {a : Int × Int × Int × Bool} (h : Rep.rd G w cs a) : cs = Cel.cel a := h.1
end Go.Am
namespace Go.Proofs.Ytckppkimjiifpaa
open Go.RowKit Go.Cx Go.ChangeShapes Go.WideShapes Go.ChangeAt Go.Deep Go.Lib Go.Am
theorem cI : Try.prog.cellsOf 3 = 1 := by kernel_rfl
theorem cB : Try.prog.cellsOf 4 = 1 := by kernel_rfl
set_option maxRecDepth 100000 in
theorem opensOp : Opens Opr Try.prog 30 := by
  intro H enc w spare held fuel cs x h
  obtain ⟨xs, n, _, _, hl, hlen, hf⟩ := DataW.trod_struct Try.underlying30 h
  match xs, hlen with
  | [y0, y1, y2, y3], _ =>
    have h0 := hf 0 _ rfl
    have h1 := hf 1 _ rfl
    have h2 := hf 2 _ rfl
    have h3 := hf 3 _ rfl
    simp only [List.getElem?_cons_zero, List.getElem?_cons_succ, cI, cB] at hl h0 h1 h2 h3
    obtain ⟨a, e0⟩ := opens_int Try.underlying3 enc w spare held n _ _ h0
    obtain ⟨b, e1⟩ := opens_int Try.underlying3 enc w spare held n _ _ h1
    obtain ⟨c, e2⟩ := opens_int Try.underlying3 enc w spare held n _ _ h2
    obtain ⟨d, e3, _⟩ := DataW.trod_bool Try.underlying4 h3
    have e0' := e0.1
    have e1' := e1.1
    have e2' := e2.1
    match cs, hl with
    | [u0, u1, u2, u3], _ =>
      simp [cI, cB] at e0' e1' e2' e3
      exact ⟨(a, b, c, d), by simp [e0', e1', e2', e3], e0.2, e1.2, e2.2⟩
theorem opensOps : Opens (List Opr) Try.prog 22 := opens_slice Try.underlying22 (by kernel_rfl) (by decide) opensOp
end Go.Proofs.Ytckppkimjiifpaa
