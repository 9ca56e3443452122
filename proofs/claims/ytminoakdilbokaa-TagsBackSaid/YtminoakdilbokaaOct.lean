/- The walks of the packages octet, bytes: what each call answers. No condition but bounds of lengths. -/
import Derived.Test.YtminoakdilbokaaChecked
import Derived.Test.YtminoakdilbokaaLib
import Derived.Deep.OwnRows
import Derived.Deep.QuietTactic
import Derived.BigQuiet
set_option linter.unusedSectionVars false
set_option linter.unusedVariables false
set_option linter.unusedSimpArgs false
set_option linter.deprecated false
namespace Go.Proofs.Ytminoakdilbokaa
open Go.RowKit Go.Cx

theorem Try.infoU8 : (Try.prog.info? 5).map (fun i => (i.zero, i.size, i.bytes)) = some (some (.int .u8 0), 1, 1) := by kernel_rfl

theorem sized_yes (n : Int) (w : World) (h : 1 ≤ n ∧ n ≤ 8) : Calls Try.prog 29 #[.int .i64 n] w fun e w' => e = .returned (.bool true) ∧ w = w' := by
  obtain ⟨h1, h2⟩ := h
  go_enter Try.func29, Try.ntmps29
  go_wp2
  go_ret
  exact ⟨rfl, rfl⟩

set_option maxHeartbeats 400000 in
theorem put_any (n k : Nat) (w : World) (h1 : 1 ≤ k) (h8 : k ≤ 8) :
    Calls Try.prog 24 #[.int .u64 n, .int .i64 k] w fun e w' => ∃ v, e = .returned v ∧ RSl (fun b => w.heap.size ≤ b ∧ b < w'.heap.size) w' v (be k n) ∧ Below w.heap.size w w' := by
  go_enter Try.func24, Try.ntmps24
  go_wp2_with (go_at_call 29; refine (sized_yes _ _ (by omega)).mono ?_; rintro e w' ⟨rfl, rfl⟩)
  go_loopw [10] (fun i wr => ∃ j : Nat, j ≤ 8 ∧ i = .int .i64 j ∧ wr = w.alloc (.cells (putA n j) 57)) (fun i _ => 8 - (intOf i).toNat)
  case atStart => exact ⟨0, by omega, rfl, rfl⟩
  case round =>
    obtain ⟨j, hj, rfl, rfl⟩ := hrel
    by_cases hlt : j < 8
    · have hcell := putA_get n j hlt
      have hset := Lib.hid (putA_set n j hlt)
      go_wp2
      go_roundw
      case rel => exact ⟨j + 1, by omega, by go_num, by rw [hset.out]⟩
      case measure => simp [intOf]; omega
    · have h8j : j ≥ 8 := by omega
      have k1 : (k : Int) ≤ 8 := by omega
      have k2 : 8 - (k : Int) ≤ 8 := by omega
      have k3 : 8 - (8 - (k : Int)).toNat = k := by omega
      have hA : putA n j = putA n 8 := by rw [show j = 8 from by omega]
      go_wp2_with (at_builtin; refine wpList_append (α := UInt8) (base := w.heap.size) (lo := 0) (xs := []) (ys := be k n) rfl rfl Try.underlying24 Try.infoU8 rfl rfl rfl ?hown ?hsrc ?hn (by decide) ?hbase ?go)
      case hown => exact Own.empty (heap_at_new (by simp)) (by simp)
      case hsrc =>
        refine srcs_bytes Try.underlying24 (by rw [be_length]; omega) ?_
        intro i u hi
        rw [← putA_8 n k h1 h8, List.getElem?_drop] at hi
        rw [World.cell?_alloc_past _ _ _ (by simp), World.cell?_alloc_at _ _ _ _ rfl, ← Array.getElem?_toList]
        exact hi
      case hn => rw [be_length]; simp; omega
      case hbase => simp; omega
      case go =>
        intro v w1 hown happ
        go_wp2
        go_ret
        have hb : Below w.heap.size w w1 := (((Below.refl _ _).alloc (Nat.le_refl _) _).alloc (by simp) _).grown happ.by_ (by simp; omega) (by simp [Value.ownBlock])
        exact ⟨_, rfl, hown.fresh, hb⟩

end Go.Proofs.Ytminoakdilbokaa
