/- What the arguments of conciergelaw09's laws read as. No condition. -/
import Derived.Test.YtbiikekemaggaaaDoorShlo
import Derived.Lib.SmallJoins
set_option linter.unusedSectionVars false
set_option linter.unusedVariables false
set_option linter.unusedSimpArgs false
set_option linter.deprecated false
namespace Go.Proofs.YtbiikekemaggaaaDoor
open Go.RowKit Go.Cx Go.ChangeShapes Go.WideShapes Go.ChangeAt Go.Deep Go.Lib Go.Am Go.Sha
theorem openConf {H : Type} {enc : TypeId × Value → H} {w : World} {spare : Nat → Bool} {held : Bool} {v : Value} {d : DataW H} {p : List MemPlace} {cs : Array Value} (hv : v = .agg cs) (h : DataW.Trod enc Tryd.prog w 0 spare held 24 v d p) :
    ∃ (s : List UInt8) (t : Int) (pv : Value), v = .agg #[pv, .int .i64 t] ∧ RSl (fun b => b < w.heap.size) w pv s := by
  subst hv
  obtain ⟨fuel, h⟩ := h
  obtain ⟨xs, n, _, _, hl, hlen, hf⟩ := DataW.trod_struct Tryd.underlying24 h
  match xs, hlen with
  | [y0, y1], _ =>
    have h0 := hf 0 _ rfl
    have h1 := hf 1 _ rfl
    simp only [List.getElem?_cons_zero, List.getElem?_cons_succ, Value.cells, show Tryd.prog.cellsOf 24 = 2 by kernel_rfl, show Tryd.prog.cellsOf 3 = 1 by kernel_rfl, show Tryd.prog.cellsOf 22 = 1 by kernel_rfl] at hl h0 h1
    obtain ⟨l, pv, e3, hp⟩ := opensBytes enc w spare held n _ _ h0
    obtain ⟨t, e2⟩ := opens_int Tryd.underlying3 enc w spare held n _ _ h1
    refine ⟨l, t, pv, ?_, hp⟩
    have e2' := e2.1
    obtain ⟨L⟩ := cs
    simp only at *
    match L, hl with
    | [u0, u1], _ =>
      simp [show Tryd.prog.cellsOf 3 = 1 by kernel_rfl, show Tryd.prog.cellsOf 22 = 1 by kernel_rfl] at e2' e3
      simp [e2', e3]
theorem top_conf {w : World} {s : List UInt8} {t : Int} {pv : Value} (h : RSl (fun b => b < w.heap.size) w pv s) : VR (M0 w) 0 w (.agg [byts s, .v (.int .i64 t)]) (.agg #[pv, .int .i64 t]) := by
  have hp : VR (M0 w) 0 w (byts s) pv := rsl_byts h
  have ho : pv.oneCell' = true := by obtain ⟨_, _, _, rfl, _⟩ := h; rfl
  unfold VR
  exact ⟨_, rfl, _, _, rfl, ho, hp, _, _, rfl, rfl, vr_v, rfl⟩
end Go.Proofs.YtbiikekemaggaaaDoor
