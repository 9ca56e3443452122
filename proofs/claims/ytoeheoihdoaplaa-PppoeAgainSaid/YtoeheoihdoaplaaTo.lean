/- What the arguments of conciergelaw06's laws read as. No condition. -/
import Derived.Test.YtoeheoihdoaplaaTg
import Derived.Test.YtoeheoihdoaplaaPl
set_option linter.unusedSectionVars false
set_option linter.unusedVariables false
set_option linter.unusedSimpArgs false
set_option linter.deprecated false
namespace Go.Proofs.Ytoeheoihdoaplaa
open Go.RowKit Go.Cx Go.ChangeShapes Go.WideShapes Go.ChangeAt Go.Deep Go.Lib Go.Am
theorem opensBytes : Opens (List UInt8) Try.prog 22 := opens_slice Try.underlying22 (by kernel_rfl) (by decide) (opens_u8 Try.underlying5)
/-- A packet: code, session, payload. -/
instance : Rep (Int × Int × List UInt8) where
  sz := 3
  rd G w cs o := ∃ v, cs = [.int .i64 o.1, .int .i64 o.2.1, v] ∧ RSl G w v o.2.2 ∧ i64? o.1 ∧ i64? o.2.1
  len := by rintro _ _ _ _ ⟨v, rfl, _⟩; rfl
  one := by
    rintro _ _ _ _ ⟨v, rfl, ⟨ao, cap, cells, rfl, _⟩, _⟩
    simp [Value.oneCell']
  mono hG hw := by
    rintro ⟨v, rfl, h, k⟩
    exact ⟨v, rfl, h.mono hG hw, k⟩
theorem opensP : Opens (Int × Int × List UInt8) Try.prog 24 := by
  intro H enc w spare held fuel cs x h
  obtain ⟨xs, n, _, _, hl, hlen, hf⟩ := DataW.trod_struct Try.underlying24 h
  match xs, hlen with
  | [y0, y1, y2], _ =>
    have h0 := hf 0 _ rfl
    have h1 := hf 1 _ rfl
    have h2 := hf 2 _ rfl
    simp only [List.getElem?_cons_zero, List.getElem?_cons_succ, show Try.prog.cellsOf 24 = 3 by kernel_rfl, show Try.prog.cellsOf 3 = 1 by kernel_rfl, show Try.prog.cellsOf 22 = 1 by kernel_rfl] at hl h0 h1 h2
    obtain ⟨a, e0⟩ := opens_int Try.underlying3 enc w spare held n _ _ h0
    obtain ⟨b, e1⟩ := opens_int Try.underlying3 enc w spare held n _ _ h1
    obtain ⟨l, pv, e2, hp⟩ := opensBytes enc w spare held n _ _ h2
    refine ⟨(a, b, l), pv, ?_, hp, e0.2, e1.2⟩
    have e0' := e0.1
    have e1' := e1.1
    match cs, hl with
    | [u0, u1, u2], _ =>
      simp [show Try.prog.cellsOf 3 = 1 by kernel_rfl, show Try.prog.cellsOf 22 = 1 by kernel_rfl] at e0' e1' e2
      simp [e0', e1', e2]
theorem top_p {M : Mem} {n : Nat} {w : World} {cs : Array Value} {a : Int × Int × List UInt8} (h : Rep.rd M.G w cs.toList a) : VR M n w (.agg [.v (.int .i64 a.1), .v (.int .i64 a.2.1), byts a.2.2]) (.agg cs) := by
  obtain ⟨v, e, hv, _⟩ := h
  obtain ⟨ao, cap, cells, ev, hr⟩ := id hv
  unfold VR
  refine ⟨cs.toList, by simp, ?_⟩
  rw [e]
  unfold VRs
  refine ⟨_, _, rfl, rfl, vr_v, ?_⟩
  unfold VRs
  refine ⟨_, _, rfl, rfl, vr_v, ?_⟩
  unfold VRs
  refine ⟨_, _, rfl, by rw [ev]; rfl, rsl_byts hv, ?_⟩
  unfold VRs
  rfl
end Go.Proofs.Ytoeheoihdoaplaa
