/- For every input the law EtherEnds returns true and leaves its arguments as they were. No condition. -/
import Derived.Test.YtbiohfcmjiadeaaRows
import Derived.Test.YtbiohfcmjiadeaaEzz
set_option linter.unusedSectionVars false
set_option linter.unusedVariables false
set_option linter.unusedSimpArgs false
set_option linter.deprecated false
namespace Go.Proofs.Ytbiohfcmjiadeaa.lawEtherEnds
open Go.ChangeShapes Go.WideShapes Go.ChangeAt Go.RowKit Go.Cx Go.Am

theorem own : ownKnob Try.prog.godebug = none := by kernel_rfl
theorem laidOut : laidOutB Try.prog = true := by kernel_rfl

set_option maxRecDepth 100000 in
theorem lifted (os : Os) (started : os.Started) (H : Type) (enc : TypeId × Value → H) :
    ReturnsInHanded {} Try.checked os 6 .any (Rows.etherEndsSpec.pre6 enc Try.prog Try.f6 Rows.etherEndsRow.domain false) (Rows.etherEndsSpec.post enc Try.prog Try.f6 false true false false) := by
  refine returnsInHanded_of_change (C := Try.checked) own started (by kernel_rfl) Try.func6
    (ChangeSpec.witness6 (enc := enc) (C := Try.checked) false ⟨#[], #[.int .u8 0], []⟩ 8 (by kernel_rfl) (by kernel_rfl) (by kernel_rfl) (by kernel_rfl)) ?_
  intro W base args ds gs before hval0 hW hcnd _
  have hval : ∀ (j : Nat) t v, Try.f6.params[j]? = some t → args[j]? = some v → Value.okWide Try.prog W .any base t v := hval0
  have hW' := hW
  obtain ⟨p, q, hA0, hV, rfl, hfz, hnd⟩ := hW
  have hA : DataW.TrodAll enc Try.prog W 0 (fun _ => true) true Try.f6.params.toList args.toList ds p := hA0
  rw [Try.params6] at hA hval
  obtain ⟨v0, vs0, d0, ds0, p0, q0, hargs, rfl, rfl, h0, r0⟩ := trodAll_cons hA
  obtain ⟨rfl, rfl, rfl⟩ := trodAll_nil r0
  obtain rfl : args = #[v0] := by cases args; simp_all
  obtain ⟨rfl, rfl⟩ := trodVars_none hV
  obtain ⟨mni, rfl, rfl, rfl, wmni⟩ := open_int Try.underlying5 (hval 0 5 v0 rfl rfl) h0
  have k0 := h0
  have bmn : 0 ≤ mni ∧ mni ≤ 255 := by simpa [Lit.wf, IntKind.min, IntKind.max, IntKind.signed, IntKind.bits] using wmni
  obtain ⟨mn, rfl⟩ := Int.eq_ofNat_of_zero_le bmn.1
  obtain ⟨m, rfl⟩ := u8_of (n := mn) (by omega)
  have hcall := calls_top (ends_am m) (fun _ => trivial) (vrtc vr_v vrt0 : VRt (M0 W) 0 W _ [.int .u8 (m.toNat : Int)])
  refine (hcall).mono fun e W' ⟨he, bel⟩ => ?_
  subst he
  exact ⟨_, rfl, _, _, _, [], _, [], hW', trodAll_mk1 (shut_bool Try.underlying4 _), (trodAll_cons_mk (Below.trod laidOut (by kernel_rfl) (of_decide_eq_true (by kernel_rfl)) k0 bel (fun _ hx => by cases hx)) trodAll_mk0), rfl, bel.frame _, fun h => by cases h⟩

theorem over : Rows.etherEndsRow.holds Try.pinned (OpenSpec.ofChange Rows.etherEndsSpec) :=
  OpenClaim.holds_of_wide 6 Try.f6 rfl rfl rfl rfl rfl rfl rfl ⟨rfl, rfl, rfl, rfl, rfl⟩ rfl rfl rfl rfl rfl (by kernel_rfl) Try.func6 (by kernel_rfl)
    (of_decide_eq_true (by kernel_rfl)) (by unfold Func.isWrapper; first | (rw [if_pos (by decide +kernel)]; kernel_rfl) | (rw [if_neg (by decide +kernel)]; exact ⟨rfl, rfl⟩))
    (fun os started H enc _ => lifted os started H enc)

theorem proved : Rows.EtherEndsSaid :=
  over
end Go.Proofs.Ytbiohfcmjiadeaa.lawEtherEnds
