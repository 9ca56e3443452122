/- What the arguments of conciergelaw05's laws read as, told to the abstract machine. No condition. -/
import Derived.Test.YtminoakdilbokaaTg
import Derived.Test.YtminoakdilbokaaTop
import Derived.Test.YtminoakdilbokaaOpen
set_option linter.unusedSectionVars false
set_option linter.unusedVariables false
set_option linter.unusedSimpArgs false
set_option linter.deprecated false
namespace Go.Proofs.Ytminoakdilbokaa
open Go.RowKit Go.Cx Go.Am
theorem opensTag : Opens Tag Try.prog 34 := by
  intro H enc w spare held fuel cs x h
  obtain ⟨v0, v1, y0, y1, n, rfl, h0, h1⟩ := opens_pair Try.underlying34 rfl rfl (by kernel_rfl) (by kernel_rfl) (by kernel_rfl) h
  obtain ⟨t, e0, ht⟩ := opens_int Try.underlying3 enc w spare held n [v0] y0 h0
  obtain ⟨l, v', e1, hl⟩ := opens_slice (α := UInt8) Try.underlying24 (by kernel_rfl) (by decide) (opens_u8 Try.underlying5) enc w spare held n [v1] y1 h1
  simp at e0 e1
  subst e0
  subst e1
  exact ⟨⟨t, l⟩, v1, rfl, ht, hl⟩
theorem opensTags : Opens (List Tag) Try.prog 22 := opens_slice Try.underlying22 (by kernel_rfl) (by decide) opensTag
theorem opensBytes : Opens (List UInt8) Try.prog 24 := opens_slice Try.underlying24 (by kernel_rfl) (by decide) (opens_u8 Try.underlying5)
theorem rall_tags {M : Mem} {n : Nat} {w : World} : ∀ {l : List Tag} {us : List Value}, RAll M.G w us l → VRss M n w 2 (tgs l) us
  | [], us, h => by
    unfold RAll at h
    subst h
    rw [tgs_nil]
    unfold VRss
    rfl
  | t :: l, us, h => by
    obtain ⟨c, r, rfl, hc, h2⟩ := h
    show VRss M n w 2 (tagC t :: tgs l) (c ++ r)
    obtain ⟨v, rfl, _, hv⟩ := hc
    unfold VRss
    refine ⟨_, _, rfl, rfl, ?_, rall_tags h2⟩
    rw [tagC_eq]
    unfold VRs
    refine ⟨_, _, rfl, rfl, vr_v, ?_⟩
    unfold VRs
    obtain ⟨ao, cap, cells, ev, hr⟩ := id hv
    refine ⟨_, _, rfl, by rw [ev]; rfl, rsl_byts hv, ?_⟩
    unfold VRs
    rfl
theorem top_tags {M : Mem} {n : Nat} {w : World} {l : List Tag} {v : Value} (h : RSl M.G w v l) : VR M n w (.sl 2 (tgs l)) v := by
  obtain ⟨ao, cap, us, h1, h2, h3⟩ := h
  unfold VR
  rw [tgs_len]
  exact ⟨ao, cap, us, h1, rall_tags h3, h2⟩
end Go.Proofs.Ytminoakdilbokaa
