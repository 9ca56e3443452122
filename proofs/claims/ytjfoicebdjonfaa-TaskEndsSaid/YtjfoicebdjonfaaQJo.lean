/- What the jobs among conciergelaw24's arguments read as. No condition. -/
import Derived.Test.YtjfoicebdjonfaaQKo
import Derived.Test.YtjfoicebdjonfaaQJe
import Derived.Test.YtjfoicebdjonfaaQb2
set_option linter.unusedSectionVars false
set_option linter.unusedVariables false
set_option linter.unusedSimpArgs false
set_option linter.deprecated false
namespace Go.Am
open Go.RowKit Go.Cx Go.ChangeShapes Go.WideShapes Go.ChangeAt Go.Deep Go.Lib
instance : Rep (Int × Int × List (Int × Bool)) where
  sz := 3
  rd G w cs o := ∃ v, cs = [.int .u8 o.1, .int .u8 o.2.1, v] ∧ RSl G w v o.2.2 ∧ (0 ≤ o.1 ∧ o.1 ≤ 255) ∧ 0 ≤ o.2.1 ∧ o.2.1 ≤ 255
  len := by rintro _ _ _ _ ⟨v, rfl, _⟩; rfl
  one := by
    rintro _ _ _ _ ⟨v, rfl, ⟨ao, cap, cells, rfl, _⟩, _⟩
    simp [Value.oneCell']
  mono hG hw := by
    rintro ⟨v, rfl, h, k⟩
    exact ⟨v, rfl, h.mono hG hw, k⟩
end Go.Am
namespace Go.Proofs.Ytjfoicebdjonfaa
open Go.RowKit Go.Cx Go.ChangeShapes Go.WideShapes Go.ChangeAt Go.Deep Go.Lib Go.Am
theorem opensBytes : Opens (List UInt8) Try.prog 48 := opens_slice Try.underlying48 (by kernel_rfl) (by decide) (opens_u8 Try.underlying5)
set_option maxRecDepth 100000 in
theorem opensJob : Opens (Int × Int × List (Int × Bool)) Try.prog 58 := by
  intro H enc w spare held fuel cs x h
  obtain ⟨xs, n, _, _, hl, hlen, hf⟩ := DataW.trod_struct Try.underlying58 h
  match xs, hlen with
  | [y0, y1, y2], _ =>
    have h0 := hf 0 _ rfl
    have h1 := hf 1 _ rfl
    have h2 := hf 2 _ rfl
    simp only [List.getElem?_cons_zero, List.getElem?_cons_succ, show Try.prog.cellsOf 58 = 3 by kernel_rfl, show Try.prog.cellsOf 5 = 1 by kernel_rfl, show Try.prog.cellsOf 31 = 1 by kernel_rfl] at hl h0 h1 h2
    obtain ⟨a, e0, _, wa⟩ := DataW.trod_int Try.underlying5 h0
    obtain ⟨b, e1, _, wb⟩ := DataW.trod_int Try.underlying5 h1
    have ba : 0 ≤ a ∧ a ≤ 255 := by simpa [Lit.wf, IntKind.min, IntKind.max, IntKind.signed, IntKind.bits] using wa
    have bb : 0 ≤ b ∧ b ≤ 255 := by simpa [Lit.wf, IntKind.min, IntKind.max, IntKind.signed, IntKind.bits] using wb
    obtain ⟨l, pv, e2, hp⟩ := opensNds enc w spare held n _ _ h2
    refine ⟨(a, b, l), pv, ?_, hp, ba, bb⟩
    match cs, hl with
    | [u0, u1, u2], _ =>
      simp [show Try.prog.cellsOf 5 = 1 by kernel_rfl, show Try.prog.cellsOf 31 = 1 by kernel_rfl] at e0 e1 e2
      simp [e0, e1, e2]
theorem opensJobs : Opens (List (Int × Int × List (Int × Bool))) Try.prog 47 := opens_slice Try.underlying47 (by kernel_rfl) (by decide) opensJob
theorem rall_jobs {M : Mem} {n : Nat} {w : World} : ∀ {l : List Jb} {us : List Value}, RAll M.G w us l → VRss M n w 3 (jbC l) us ∧ ∀ j ∈ l, jbOk j
  | [], us, h => by
    unfold RAll at h
    subst h
    show VRss M n w 3 [] [] ∧ _
    unfold VRss
    exact ⟨rfl, fun j hj => by cases hj⟩
  | t :: l, us, h => by
    obtain ⟨c, r, rfl, hc, h2⟩ := h
    obtain ⟨i1, i2⟩ := rall_jobs (n := n) h2
    obtain ⟨v, rfl, hv, hb⟩ := hc
    refine ⟨?_, fun j hj => ?_⟩
    · show VRss M n w 3 ([.v (.int .u8 t.1), .v (.int .u8 t.2.1), .sl 2 (cels t.2.2)] :: jbC l) _
      unfold VRss
      refine ⟨_, _, rfl, rfl, ?_, i1⟩
      obtain ⟨ao, cap, cells, ev, hr⟩ := id hv
      unfold VRs
      refine ⟨_, _, rfl, rfl, vr_v, ?_⟩
      unfold VRs
      refine ⟨_, _, rfl, rfl, vr_v, ?_⟩
      unfold VRs
      refine ⟨_, _, rfl, by rw [ev]; rfl, top_cels rd_ib hv, ?_⟩
      unfold VRs
      rfl
    · rcases List.mem_cons.1 hj with rfl | hj
      · exact hb
      · exact i2 j hj
theorem top_jobs {M : Mem} {n : Nat} {w : World} {l : List Jb} {v : Value} (h : RSl M.G w v l) : VR M n w (.sl 3 (jbC l)) v ∧ ∀ j ∈ l, jbOk j := by
  obtain ⟨ao, cap, us, h1, h2, h3⟩ := h
  obtain ⟨i1, i2⟩ := rall_jobs (n := n) h3
  refine ⟨?_, i2⟩
  unfold VR
  rw [jbC_len]
  exact ⟨ao, cap, us, h1, i1, h2⟩
end Go.Proofs.Ytjfoicebdjonfaa
