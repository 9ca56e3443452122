/- slices.Grow of no needs. No condition but a bound. -/
import Derived.Test.YtjfoicebdjonfaaProg
import Derived.Test.YtjfoicebdjonfaaLib
import Derived.Deep.AppendSrc
import Derived.Lib.AppendZeros
import Derived.Lib.SliceRun
set_option linter.unusedSectionVars false
set_option linter.unusedVariables false
set_option linter.unusedSimpArgs false
set_option linter.deprecated false
namespace Go.Proofs.Ytjfoicebdjonfaa
open Go.RowKit Go.Lib Go.Proofs
theorem infoN2 : (Try.prog.info? 45).map (fun i => (i.zero, i.size, i.bytes)) = some (some (.agg #[.int .i64 0, .bool false]), 2, 16) := by kernel_rfl
set_option maxHeartbeats 4000000 in
set_option maxRecDepth 1000000 in
theorem growN_raw (n : Nat) (w : World) (hn : n ≤ 1000000) :
    Calls Try.prog 82 #[.slice none 0 0, .int .i64 n] w fun e w' => (e = .returned (.slice none 0 0) ∧ w' = w) ∨ ∃ cap Z, e = .returned (.slice (some ⟨w.heap.size, 0, none⟩) 0 cap) ∧ w' = w.drew.alloc (.cells Z 45 (0, 0)) ∧ Z.size = cap * 2 ∧ cap ≤ maxLen := by
  obtain ⟨i0, hi, hz0, hz1, hz2⟩ := info_parts infoN2
  by_cases h0 : n = 0
  · subst h0
    go_enter Try.func82, Try.ntmps82
    go_wp2
    go_ret
    exact .inl ⟨rfl, rfl⟩
  · have hpos : 0 < n := by omega
    have happ := Lib.run_append_nil_zeros (P := Try.prog) w 31 3 31 45 i0 (.agg #[.int .i64 0, .bool false]) .i64 .i64 Try.underlying31 Try.underlying3 hi hz0 n (by omega) (by omega) (by omega) (by rw [hz2]; omega)
    generalize hcap : grownCap w n 0 45 = cap2 at happ
    have hcapge : n ≤ cap2 := by rw [← hcap]; exact grownCap_ge w _ 0 45
    have hcaple : cap2 ≤ maxLen := by rw [← hcap]; exact grownCap_le_maxLen w _ 0 45 (by unfold maxLen; omega)
    generalize hZ : (Builtin.zeroCells (Value.agg #[.int .i64 0, .bool false]).cells n ++ Builtin.zeroCells (Value.agg #[.int .i64 0, .bool false]).cells (cap2 - n)) = Z at happ
    have hZs : Z.size = cap2 * 2 := by rw [← hZ]; simp [size_zeroCells, Value.cells]; omega
    clear hcap hZ
    have hcaple2 := hcaple
    unfold maxLen at hcaple2
    go_enter Try.func82, Try.ntmps82
    go_wp2_with (at_builtin; refine Lib.wpList_append_run _ rfl _ _ _ _ rfl _ _ rfl rfl _ _ happ ?_)
    go_ret
    exact .inr ⟨cap2, Z, rfl, rfl, hZs, hcaple⟩
end Go.Proofs.Ytjfoicebdjonfaa
