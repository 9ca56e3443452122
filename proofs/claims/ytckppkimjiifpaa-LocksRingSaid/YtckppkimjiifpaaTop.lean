/- What a law's arguments read as, told to the abstract machine. No condition. -/
import Derived.Test.YtckppkimjiifpaaBr
import Derived.WideShapes
set_option linter.unusedSectionVars false
set_option linter.unusedVariables false
set_option linter.unusedSimpArgs false
set_option linter.deprecated false
namespace Go.Am
open Go.RowKit Go.Cx
theorem rsl_byts {M : Mem} {n : Nat} {w : World} {l : List UInt8} {v : Value} (h : RSl M.G w v l) : VR M n w (byts l) v := by
  obtain ⟨ao, cap, us, h1, h2, h3⟩ := h
  unfold byts VR
  rw [List.length_map]
  exact ⟨ao, cap, us, h1, rall_bytes h3, h2⟩
theorem vrt0 {M : Mem} {n : Nat} {w : World} : VRt M n w [] [] := by unfold VRt; rfl
theorem vrtc {M : Mem} {n : Nat} {w : World} {a : AV} {l : List AV} {v : Value} {vs : List Value} (h : VR M n w a v) (k : VRt M n w l vs) : VRt M n w (a :: l) (v :: vs) := by
  unfold VRt
  exact ⟨v, vs, rfl, h, k⟩
theorem vr_v {M : Mem} {n : Nat} {w : World} {x : Value} : VR M n w (.v x) x := by unfold VR; rfl
theorem okWide_arr {P : Program} {w : World} {r : Reach} {base : Nat} {t e : TypeId} {n : Nat} {v : Value} (ht : P.underlying t = some (.array n e)) (h : Value.okWide P w r base t v) : ∃ cs, v = .agg cs := by
  simp only [Value.okWide, ht] at h
  obtain ⟨cs, h1, _⟩ := h
  exact ⟨cs, h1⟩
/-- The world's memory, none of it to be written. -/
abbrev M0 (w : World) : Mem := ⟨fun _ => none, fun _ => 0, fun b => b < w.heap.size⟩
end Go.Am
