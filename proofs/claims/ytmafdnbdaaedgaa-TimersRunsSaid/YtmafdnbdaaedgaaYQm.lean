/- Timers: the comparison in any world, as the library's sort wants it. No condition. -/
import Derived.Test.YtmafdnbdaaedgaaYQl
import Derived.Test.YtmafdnbdaaedgaaYb1
set_option linter.unusedSectionVars false
set_option linter.unusedVariables false
set_option linter.unusedSimpArgs false
set_option linter.deprecated false
namespace Go.Proofs.Ytmafdnbdaaedgaa
open Go.RowKit Go.Cx Go.Am
/-- A timer lies in the block. -/
def ItW (w : World) (b : Nat) (k t : Int) : Prop := b < w.heap.size ∧ ∃ p : Int, w.cell? ⟨b, 0, none⟩ = some (.int .i64 k) ∧ w.cell? ⟨b, 1, none⟩ = some (.int .i64 t) ∧ w.cell? ⟨b, 2, none⟩ = some (.int .i64 p)
theorem vr_it {w : World} {b : Nat} {k t p : Int} (hb : b < w.heap.size) (h0 : w.cell? ⟨b, 0, none⟩ = some (.int .i64 k)) (h1 : w.cell? ⟨b, 1, none⟩ = some (.int .i64 t)) (h2 : w.cell? ⟨b, 2, none⟩ = some (.int .i64 p)) :
    VR ⟨fun _ => none, fun _ => 0, fun b => b < w.heap.size⟩ 0 w (.cptr [.v (.int .i64 k), .v (.int .i64 t), .v (.int .i64 p)]) (.pointer (some ⟨b, 0, none⟩)) := by
  unfold VR
  refine ⟨b, 0, [.int .i64 k, .int .i64 t, .int .i64 p], rfl, hb, ?_, fun j x hj => ?_⟩
  · unfold VRs VRs VRs VRs
    refine ⟨_, _, rfl, rfl, by unfold VR; rfl, _, _, rfl, rfl, by unfold VR; rfl, _, _, rfl, rfl, by unfold VR; rfl, rfl⟩
  · match j with
    | 0 => cases hj; exact h0
    | 1 => cases hj; exact h1
    | 2 => cases hj; exact h2
    | n + 3 => simp at hj
theorem cmp_world {w : World} {b1 b2 : Nat} {k1 t1 k2 t2 : Int} (h1 : ItW w b1 k1 t1) (h2 : ItW w b2 k2 t2) :
    Calls Try.prog 24 #[.pointer (some ⟨b1, 0, none⟩), .pointer (some ⟨b2, 0, none⟩)] w fun e w' => e = .returned (.int .i64 (cmp3 (0, k1, t1) (0, k2, t2))) ∧ ∃ q os, w' = Go.Sort.grow (w.drewN q) os := by
  obtain ⟨l1, p1, a0, a1, a2⟩ := h1
  obtain ⟨l2, p2, c0, c1, c2⟩ := h2
  have h := calls_topD (w := w) (vs := [.pointer (some ⟨b1, 0, none⟩), .pointer (some ⟨b2, 0, none⟩)]) (r := .int .i64 (cmp3 (0, k1, t1) (0, k2, t2))) (acalls_imp (cmpC_am k1 t1 p1 k2 t2 p2) fun r H' hh => hh.1) (fun g => by unfold VR E0; trivial) (by
    unfold VRt VRt VRt
    exact ⟨_, _, rfl, vr_it l1 a0 a1 a2, _, _, rfl, vr_it l2 c0 c1 c2, rfl⟩)
  refine h.mono ?_
  rintro e w' ⟨rfl, hb, hd⟩
  exact ⟨rfl, world_eq hb hd⟩
end Go.Proofs.Ytmafdnbdaaedgaa
