/- Rows of rows of bytes among a law's arguments. No condition. -/
import Derived.Test.YtelenadhhjeoeaaDoorShlo
set_option linter.unusedSectionVars false
set_option linter.unusedVariables false
set_option linter.unusedSimpArgs false
set_option linter.deprecated false
namespace Go.Am
open Go.RowKit Go.Cx
theorem rall_rows {M : Mem} {n : Nat} {w : World} : ∀ {l : List (List UInt8)} {us : List Value}, RAll M.G w us l → VRss M n w 1 (l.map fun l => [byts l]) us
  | [], us, h => h
  | b :: l, us, h => by
    obtain ⟨c, r, rfl, ⟨v, hc, hv⟩, h2⟩ := h
    have hv2 := rsl_byts (n := n) hv
    obtain ⟨ao, cap, us2, rfl, _⟩ := hv
    subst hc
    rw [List.map_cons]
    unfold VRss
    exact ⟨_, r, rfl, rfl, ⟨_, [], rfl, rfl, hv2, rfl⟩, rall_rows h2⟩
theorem top_rows {M : Mem} {n : Nat} {w : World} {xss : List (List UInt8)} {v : Value} (h : RSl M.G w v xss) : VR M n w (.sl 1 (xss.map fun l => [byts l])) v := by
  obtain ⟨ao, cap, us, h1, h2, h3⟩ := h
  unfold VR
  rw [List.length_map]
  exact ⟨ao, cap, us, h1, rall_rows h3, h2⟩
end Go.Am
namespace Go.Proofs.YtelenadhhjeoeaaDoor
open Go.RowKit Go.Cx Go.ChangeShapes Go.WideShapes Go.ChangeAt Go.Deep Go.Lib Go.Am Go.Sha
theorem opensRows : Opens (List (List UInt8)) Tryd.prog 23 := opens_slice Tryd.underlying23 (by kernel_rfl) (by decide) opensBytes
end Go.Proofs.YtelenadhhjeoeaaDoor
