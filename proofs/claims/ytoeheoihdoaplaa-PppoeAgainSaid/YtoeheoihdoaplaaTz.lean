/- What the questions and names among conciergelaw06's arguments read as. No condition. -/
import Derived.Test.YtoeheoihdoaplaaTk
import Derived.Test.YtoeheoihdoaplaaTo
set_option linter.unusedSectionVars false
set_option linter.unusedVariables false
set_option linter.unusedSimpArgs false
set_option linter.deprecated false
namespace Go.Proofs.Ytoeheoihdoaplaa
open Go.RowKit Go.Cx Go.ChangeShapes Go.WideShapes Go.ChangeAt Go.Deep Go.Lib Go.Am
theorem opens_str {P : Program} {t : TypeId} (ht : P.underlying t = some .string) {H : Type} {enc : TypeId × Value → H} {w : World} {spare : Nat → Bool} {held : Bool} {fuel : Nat} {cs : List Value} {x : DataW H × List MemPlace} (h : DataW.trod enc P w 0 spare held fuel t cs = some x) : ∃ l : List UInt8, cs = [.string (str l)] := by
  obtain ⟨s, h1, _⟩ := DataW.trod_string ht h
  exact ⟨s.data.toList, by rw [h1]; simp [str]⟩
theorem opens_bool {P : Program} {t : TypeId} (ht : P.underlying t = some .bool) {H : Type} {enc : TypeId × Value → H} {w : World} {spare : Nat → Bool} {held : Bool} {fuel : Nat} {cs : List Value} {x : DataW H × List MemPlace} (h : DataW.trod enc P w 0 spare held fuel t cs = some x) : ∃ b : Bool, cs = [.bool b] := by
  obtain ⟨b, h1, _⟩ := DataW.trod_bool ht h
  exact ⟨b, h1⟩
instance : Rep Dsc where
  sz := 8
  rd G w cs d := ∃ u r k, cs = [.int .i64 d.code, .int .i64 d.ses, .string (str d.svc), u, r, .bool d.hu, .bool d.hr, k] ∧ RSl G w u d.uniq ∧ RSl G w r d.relay ∧ RSl G w k d.ck
  len := by rintro _ _ _ _ ⟨u, r, k, rfl, _⟩; rfl
  one := by
    rintro _ _ _ _ ⟨u, r, k, rfl, ⟨a1, c1, l1, rfl, _⟩, ⟨a2, c2, l2, rfl, _⟩, ⟨a3, c3, l3, rfl, _⟩⟩
    simp [Value.oneCell']
  mono hG hw := by
    rintro ⟨u, r, k, rfl, h1, h2, h3⟩
    exact ⟨u, r, k, rfl, h1.mono hG hw, h2.mono hG hw, h3.mono hG hw⟩
theorem opensD : Opens Dsc Try.prog 36 := by
  intro H enc w spare held fuel cs x h
  obtain ⟨xs, n, _, _, hl, hlen, hf⟩ := DataW.trod_struct Try.underlying36 h
  match xs, hlen with
  | [y0, y1, y2, y3, y4, y5, y6, y7], _ =>
    have h0 := hf 0 _ rfl
    have h1 := hf 1 _ rfl
    have h2 := hf 2 _ rfl
    have h3 := hf 3 _ rfl
    have h4 := hf 4 _ rfl
    have h5 := hf 5 _ rfl
    have h6 := hf 6 _ rfl
    have h7 := hf 7 _ rfl
    simp only [List.getElem?_cons_zero, List.getElem?_cons_succ, show Try.prog.cellsOf 36 = 8 by kernel_rfl, show Try.prog.cellsOf 3 = 1 by kernel_rfl, show Try.prog.cellsOf 22 = 1 by kernel_rfl, show Try.prog.cellsOf 9 = 1 by kernel_rfl, show Try.prog.cellsOf 4 = 1 by kernel_rfl] at hl h0 h1 h2 h3 h4 h5 h6 h7
    obtain ⟨a, e0⟩ := opens_int Try.underlying3 enc w spare held n _ _ h0
    obtain ⟨b, e1⟩ := opens_int Try.underlying3 enc w spare held n _ _ h1
    obtain ⟨s, e2⟩ := opens_str Try.underlying9 h2
    obtain ⟨u, pu, e3, hu⟩ := opensBytes enc w spare held n _ _ h3
    obtain ⟨r, pr, e4, hr⟩ := opensBytes enc w spare held n _ _ h4
    obtain ⟨bu, e5⟩ := opens_bool Try.underlying4 h5
    obtain ⟨br, e6⟩ := opens_bool Try.underlying4 h6
    obtain ⟨k, pk, e7, hk⟩ := opensBytes enc w spare held n _ _ h7
    refine ⟨⟨a, b, s, u, r, bu, br, k⟩, pu, pr, pk, ?_, hu, hr, hk⟩
    have e0' := e0.1
    have e1' := e1.1
    match cs, hl with
    | [u0, u1, u2, u3, u4, u5, u6, u7], _ =>
      simp [show Try.prog.cellsOf 3 = 1 by kernel_rfl, show Try.prog.cellsOf 22 = 1 by kernel_rfl, show Try.prog.cellsOf 9 = 1 by kernel_rfl, show Try.prog.cellsOf 4 = 1 by kernel_rfl] at e0' e1' e2 e3 e4 e5 e6 e7
      simp [e0', e1', e2, e3, e4, e5, e6, e7]
theorem vrs_nil {M : Mem} {n : Nat} {w : World} : VRs M n w [] [] := by unfold VRs; rfl
theorem vrs_cons {M : Mem} {n : Nat} {w : World} {a : AV} {l : List AV} {u : Value} {us : List Value} (h1 : u.oneCell' = true) (h : VR M n w a u) (k : VRs M n w l us) : VRs M n w (a :: l) (u :: us) := by
  unfold VRs
  exact ⟨u, us, rfl, h1, h, k⟩
theorem top_d {M : Mem} {n : Nat} {w : World} {cs : Array Value} {d : Dsc} (h : Rep.rd M.G w cs.toList d) : VR M n w (.agg [.v (.int .i64 d.code), .v (.int .i64 d.ses), .v (.string (str d.svc)), byts d.uniq, byts d.relay, .v (.bool d.hu), .v (.bool d.hr), byts d.ck]) (.agg cs) := by
  obtain ⟨u, r, k, e, h1, h2, h3⟩ := h
  obtain ⟨a1, c1, l1, x1, _⟩ := id h1
  obtain ⟨a2, c2, l2, x2, _⟩ := id h2
  obtain ⟨a3, c3, l3, x3, _⟩ := id h3
  unfold VR
  refine ⟨cs.toList, by simp, ?_⟩
  rw [e]
  exact vrs_cons rfl vr_v (vrs_cons rfl vr_v (vrs_cons rfl vr_v (vrs_cons (by rw [x1]; rfl) (rsl_byts h1) (vrs_cons (by rw [x2]; rfl) (rsl_byts h2) (vrs_cons rfl vr_v (vrs_cons rfl vr_v (vrs_cons (by rw [x3]; rfl) (rsl_byts h3) vrs_nil)))))))
end Go.Proofs.Ytoeheoihdoaplaa
