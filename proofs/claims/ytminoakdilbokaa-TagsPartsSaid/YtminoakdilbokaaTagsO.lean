/- What the arguments of conciergelaw05's laws read as. No condition. -/
import Derived.Test.YtminoakdilbokaaTagsA
import Derived.Test.YtminoakdilbokaaOpen
namespace Go.Proofs.Ytminoakdilbokaa
open Go.Cx

theorem opensTag : Opens Tag Try.prog 34 := by
  intro H enc w spare held fuel cs x h
  obtain ⟨v0, v1, y0, y1, n, rfl, h0, h1⟩ := opens_pair Try.underlying34 rfl rfl (by kernel_rfl) (by kernel_rfl) (by kernel_rfl) h
  obtain ⟨t, e0, ht⟩ := opens_int Try.underlying3 enc w spare held n [v0] y0 h0
  obtain ⟨l, v', e1, hl⟩ := opens_slice (α := UInt8) Try.underlying24 (by kernel_rfl) (by decide) (opens_u8 Try.underlying5) enc w spare held n [v1] y1 h1
  simp at e0 e1
  subst e0
  subst e1
  exact ⟨⟨t, l⟩, v1, rfl, ht, hl⟩

theorem opensTags : Opens (List Tag) Try.prog 22 := opens_slice Try.underlying22 (by kernel_rfl) (by decide) opensTag
theorem opensBytes : Opens (List UInt8) Try.prog 24 := opens_slice Try.underlying24 (by kernel_rfl) (by decide) (opens_u8 Try.underlying5)
end Go.Proofs.Ytminoakdilbokaa
