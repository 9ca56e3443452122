/- What the arguments of conciergelaw24's laws read as. No condition. -/
import Derived.Test.YtjfoicebdjonfaaQPl
import Derived.Test.YtjfoicebdjonfaaQb2
set_option linter.unusedSectionVars false
set_option linter.unusedVariables false
set_option linter.unusedSimpArgs false
set_option linter.deprecated false
namespace Go.Am
open Go.RowKit Go.Cx Go.ChangeShapes Go.WideShapes Go.ChangeAt Go.Deep Go.Lib
instance : Rep (Int × Bool) where
  sz := 2
  rd _ _ cs o := cs = [.int .i64 o.1, .bool o.2] ∧ i64? o.1
  len := by rintro _ _ _ _ ⟨rfl, _⟩; rfl
  one := by
    rintro _ _ _ _ ⟨rfl, _⟩
    simp [Value.oneCell']
  mono _ _ h := h
instance : Rep (Int × Int × Bool) where
  sz := 3
  rd _ _ cs o := cs = [.int .i64 o.1, .int .i64 o.2.1, .bool o.2.2] ∧ i64? o.1 ∧ i64? o.2.1
  len := by rintro _ _ _ _ ⟨rfl, _⟩; rfl
  one := by
    rintro _ _ _ _ ⟨rfl, _⟩
    simp [Value.oneCell']
  mono _ _ h := h
theorem rd_ib {G : Nat → Prop} {w : World} {cs : List Value} {a : Int × Bool} (h : Rep.rd G w cs a) : cs = Cel.cel a := h.1
end Go.Am
namespace Go.Proofs.Ytjfoicebdjonfaa
open Go.RowKit Go.Cx Go.ChangeShapes Go.WideShapes Go.ChangeAt Go.Deep Go.Lib Go.Am
theorem cN : Try.prog.cellsOf 45 = 2 := by kernel_rfl
theorem cI : Try.prog.cellsOf 3 = 1 := by kernel_rfl
theorem cB : Try.prog.cellsOf 4 = 1 := by kernel_rfl
set_option maxRecDepth 100000 in
theorem opensNd : Opens (Int × Bool) Try.prog 45 := by
  intro H enc w spare held fuel cs x h
  obtain ⟨xs, n, _, _, hl, hlen, hf⟩ := DataW.trod_struct Try.underlying45 h
  match xs, hlen with
  | [y0, y1], _ =>
    have h0 := hf 0 _ rfl
    have h1 := hf 1 _ rfl
    simp only [List.getElem?_cons_zero, List.getElem?_cons_succ, cN, cI, cB] at hl h0 h1
    obtain ⟨a, e0⟩ := opens_int Try.underlying3 enc w spare held n _ _ h0
    obtain ⟨b, e1, _⟩ := DataW.trod_bool Try.underlying4 h1
    have e0' := e0.1
    match cs, hl with
    | [u0, u1], _ =>
      simp [cI, cB] at e0' e1
      exact ⟨(a, b), by simp [e0', e1], e0.2⟩
theorem opensNds : Opens (List (Int × Bool)) Try.prog 31 := opens_slice Try.underlying31 (by kernel_rfl) (by decide) opensNd
end Go.Proofs.Ytjfoicebdjonfaa
