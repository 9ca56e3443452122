/- The walks of octet's Put by definition and of bytes.Clone. No condition but bounds of lengths. -/
import Derived.Test.YtminoakdilbokaaOct
set_option linter.unusedSectionVars false
set_option linter.unusedVariables false
set_option linter.unusedSimpArgs false
set_option linter.deprecated false
namespace Go.Proofs.Ytminoakdilbokaa.Raw
open Go.RowKit Go.Cx

set_option maxHeartbeats 400000 in
theorem rput_any (n k : Nat) (w : World) (hn : n < 18446744073709551616) (h1 : 1 ≤ k) (h8 : k ≤ 8) :
    Calls Try.prog 26 #[.int .u64 n, .int .i64 k] w fun e w' => ∃ v, e = .returned v ∧ RSl (fun b => w.heap.size ≤ b ∧ b < w'.heap.size) w' v (be k n) ∧ Below w.heap.size w w' := by
  have hmk := fun w => run_make_row' (P := Try.prog) 24 5 (.int .u8 0) 1 Try.underlying24 Try.infoU8 rfl .i64 .i64 k (by omega) (by omega) w
  go_enter Try.func26, Try.ntmps26
  go_wp2
  clear hmk
  go_loopw [0, 6] (fun m i wr => ∃ j : Nat, j ≤ k ∧ i = .int .i64 j ∧ m = .int .u64 ((n / 256 ^ j : Nat) : Int) ∧ wr = w.alloc (.cells (rA n k j) 5)) (fun _ i _ => k - (intOf i).toNat)
  case atStart => exact ⟨0, by omega, rfl, by simp, by rw [rA_0 n]⟩
  case round =>
    obtain ⟨j, hj, rfl, rfl, rfl⟩ := hrel
    obtain ⟨q, hq⟩ : ∃ q, q = n / 256 ^ j := ⟨_, rfl⟩
    have hq2 : q < 18446744073709551616 := by rw [hq]; exact Nat.lt_of_le_of_lt (Nat.div_le_self _ _) hn
    have hqs : q / 256 = n / 256 ^ (j + 1) := by rw [hq, Nat.div_div_eq_div_mul, Nat.pow_succ]
    have hqv : putV n j = .int .u8 ((q : Int) % 256) := by rw [putV, hq, Int.natCast_ediv, Int.natCast_pow, show (256 : Int) = 2 ^ 8 from rfl, Int.pow_mul]; rfl
    rw [← hq]
    have hset := fun hlt => rA_set n k j hlt
    rw [hqv] at hset
    have Hset := Lib.hid hset
    have Hqs := Lib.hid hqs
    clear hq hqs hqv hset
    by_cases hlt : j < k
    · have hcell := rA_get n k j hlt
      go_wp2
      go_roundw
      case rel => exact ⟨j + 1, by omega, by go_num, by rw [← Hqs.out]; go_num, by rw [Hset.out hlt]⟩
      case measure => simp [intOf]; omega
    · have hkj : k ≤ j := by omega
      go_wp2
      go_ret
      refine ⟨_, rfl, rsl_block (heap_at_new rfl) ?_ (by rw [be_length]) (Nat.le_refl _) (by unfold maxLen; omega) (by simp), (Below.refl _ _).alloc (Nat.le_refl _) _⟩
      obtain rfl : j = k := by omega
      rw [rA_k, List.take_of_length_le (by simp [be_length])]

set_option maxHeartbeats 400000 in
theorem clone_any (v : Value) (l : List UInt8) (w : World) (h : RSl (fun b => b < w.heap.size) w v l) (hl : l.length ≤ 68719476736) :
    Calls Try.prog 28 #[v] w fun e w' => ∃ v, e = .returned v ∧ RSl (fun b => w.heap.size ≤ b ∧ b < w'.heap.size) w' v l ∧ Below w.heap.size w w' := by
  have hq := fun (w : World) a n c n' c' => Lib.run_eql_slice_nil (P := Try.prog) w 24 5 a n c n' c' Try.underlying24
  obtain ⟨ao, cap, rfl, hr⟩ := h.bytes
  cases ao with
  | none =>
    have h0 : l.length = 0 ∧ cap = 0 := by
      rcases hr.at_ with ⟨h0, h1⟩ | ⟨b, off, h0, _⟩
      · exact ⟨h0, h1 rfl⟩
      · cases h0
    obtain ⟨h0, rfl⟩ := h0
    obtain rfl : l = [] := List.eq_nil_of_length_eq_zero h0
    clear hr h
    go_enter Try.func28, Try.ntmps28
    go_wp2
    go_ret
    exact ⟨_, rfl, RSl.nil _ _, Below.refl _ _⟩
  | some a =>
    have hr2 := RowAt.mono (G := fun b => b < w.heap.size) (G' := fun _ => True) (w' := w.alloc (.cells #[] 5)) (fun _ _ => trivial) (fun b hb => heap_alloc_old w _ hb) hr
    go_enter Try.func28, Try.ntmps28
    go_wp2_with (at_builtin; refine wpList_append (α := UInt8) (base := w.heap.size) (lo := 0) (xs := []) (ys := l) rfl rfl Try.underlying24 Try.infoU8 rfl rfl rfl ?hown (hr2.srcsB Try.underlying24 rfl) ?hn (by decide) ?hbase ?go)
    case hown => exact Own.empty (heap_at_new rfl) (Nat.le_refl _)
    case hn => simp; omega
    case hbase => simp
    case go =>
      intro v w1 hown happ
      go_wp2
      go_ret
      exact ⟨_, rfl, hown.fresh, ((Below.refl _ _).alloc (Nat.le_refl _) _).grown happ.by_ (by simp) (by simp [Value.ownBlock])⟩
end Go.Proofs.Ytminoakdilbokaa.Raw
