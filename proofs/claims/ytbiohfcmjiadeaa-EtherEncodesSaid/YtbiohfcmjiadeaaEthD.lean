/- The walk of octet.Take of two bytes. No condition. -/
import Derived.Test.YtbiohfcmjiadeaaEthC
namespace Go.Proofs.Ytbiohfcmjiadeaa
open Go.RowKit Go.Cx

theorem or256u (x y : UInt8) : bits .or .u64 ((x.toNat : Int) * 256) (y.toNat : Int) = ((256 * x.toNat + y.toNat : Nat) : Int) := by
  have hx := x.toNat_lt
  have hy := y.toNat_lt
  rw [bits_join .u64 63 (by decide) (fun n h1 h2 => by rw [IntKind.wrap_u64]; omega) 8 _ _ (by omega) (by omega) (by omega) (by omega) (by omega) (by omega)]
  omega

set_option maxHeartbeats 800000 in
theorem take2_any (x y : UInt8) (b off : Nat) (w : World) (h : b < w.heap.size) (hx : w.cell? ⟨b, off, none⟩ = some (.int .u8 x.toNat)) (hy : w.cell? ⟨b, off + 1, none⟩ = some (.int .u8 y.toNat)) :
    Calls Try.prog 24 #[.slice (some ⟨b, off, none⟩) 2 2, .int .i64 2] w fun e w' => ∃ v, e = .returned (.tuple #[.int .u64 ((256 * x.toNat + y.toNat : Nat) : Int), v, .bool true]) ∧ Below w.heap.size w w' := by
  have hx' := x.toNat_lt
  have hy' := y.toNat_lt
  have hor := or256u x y
  have ho0 : bits .or .u64 0 (x.toNat : Int) = (x.toNat : Int) := by
    have := or256u 0 x
    simpa using this
  go_enter Try.func24, Try.ntmps24
  go_wp2_with (go_at_call 27; refine (sized_yes 2 w (by omega)).mono ?_; rintro e w' ⟨rfl, rfl⟩)
  go_loopw [7, 19] (fun m i wr => ∃ j : Nat, j ≤ 2 ∧ i = .int .i64 j ∧ m = .int .u64 (if j = 0 then 0 else if j = 1 then (x.toNat : Int) else ((256 * x.toNat + y.toNat : Nat) : Int)) ∧ w = wr) (fun _ i _ => 2 - (intOf i).toNat)
  case atStart => exact ⟨0, by omega, rfl, rfl, rfl⟩
  case round =>
    obtain ⟨j, hj, rfl, rfl, rfl⟩ := hrel
    have hj3 : j = 0 ∨ j = 1 ∨ j = 2 := by omega
    rcases hj3 with rfl | rfl | rfl
    · go_wp2
      go_roundw
      case rel => exact ⟨1, by omega, by go_num, by simp, trivial⟩
      case measure => simp [intOf]
    · go_wp2
      go_roundw
      case rel => exact ⟨2, by omega, by go_num, by simp, trivial⟩
      case measure => simp [intOf]
    · clear hor ho0
      go_wp2
      go_ret3
      exact ⟨_, by simp; rfl, (Below.refl _ _).alloc (Nat.le_refl _) _⟩
end Go.Proofs.Ytbiohfcmjiadeaa
