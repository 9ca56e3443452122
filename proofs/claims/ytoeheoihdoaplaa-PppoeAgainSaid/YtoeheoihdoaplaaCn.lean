/- slices.Concat for the abstract machine. No condition but bounds of lengths. -/
import Derived.Test.YtoeheoihdoaplaaBr
import Derived.Test.YtoeheoihdoaplaaSlices
import Derived.Test.YtoeheoihdoaplaaOt
set_option linter.unusedSectionVars false
set_option linter.unusedVariables false
set_option linter.unusedSimpArgs false
set_option linter.deprecated false
namespace Go.Proofs.Ytoeheoihdoaplaa
open Go.RowKit Go.Cx Go.Am
theorem concat_am (xss : List (List UInt8)) (hl : xss.flatten.length ≤ 1073741824) : ACalls E0 29 [rows xss] [] fun r H' => r = .hs 0 1 0 xss.flatten.length ∧ H' = [some (.row true 1 (xss.flatten.map bcl))] := by
  refine own_am (t := 5) ⟨_, Try.func29, by kernel_rfl, by kernel_rfl⟩ fun w M vs hG hv => ?_
  obtain ⟨v, rfl, hv2⟩ := vrt1 hv
  obtain ⟨ao, cap, cells, h1, h2, h3⟩ := rows_rsl hv2
  exact concat_any v xss w ⟨ao, cap, cells, h1, h2.mono hG (fun _ _ => rfl), RAll.mono hG (fun _ _ => rfl) h3⟩ hl
theorem concat4_am (a b c d l : List UInt8) (e : a ++ b ++ c ++ d = l) (hl : l.length ≤ 1073741824) : ACalls E0 29 [.sl 1 [[byts a], [byts b], [byts c], [byts d]]] [] fun r H' => r = .hs 0 1 0 l.length ∧ H' = [some (.row true 1 (l.map bcl))] := by
  subst e
  have e : [a, b, c, d].flatten = a ++ b ++ c ++ d := by simp
  have := concat_am [a, b, c, d] (by rw [e]; exact hl)
  rw [e] at this
  exact this
end Go.Proofs.Ytoeheoihdoaplaa
