/- The package task: Merge, by the machine. No condition but bounds of lengths. -/
import Derived.Test.YtjfoicebdjonfaaKg
import Derived.Test.YtjfoicebdjonfaaGrw
import Derived.Test.YtjfoicebdjonfaaSa
set_option linter.unusedSectionVars false
set_option linter.unusedVariables false
set_option linter.unusedSimpArgs false
set_option linter.deprecated false
namespace Go.Tsk
open Go.Am
def has1 (l : List Nd) (k : Int) : Bool := l.any fun x => decide (x.1 = k)
def wr1 (l : List Nd) (k : Int) : Bool := l.any fun x => decide (x.1 = k) && x.2
def mrgL (l : List Nd) (n : Nat) : List Nd := (List.range n).filterMap fun k : Nat => if has1 l k = true then some ((k : Int), wr1 l k) else none
def mrg (a b : List Nd) : List Nd := mrgL (a ++ b) 67
theorem mrgL_succ (l : List Nd) (n : Nat) : mrgL l (n + 1) = if has1 l n = true then mrgL l n ++ [((n : Int), wr1 l n)] else mrgL l n := by
  unfold mrgL
  rw [List.range_succ, List.filterMap_append]
  by_cases h : has1 l n = true
  · rw [if_pos h]; simp [h]
  · rw [if_neg h]; simp [h]
theorem mrgL_len (l : List Nd) (n : Nat) : (mrgL l n).length ≤ n := by
  unfold mrgL
  have := List.length_filterMap_le (fun k : Nat => if has1 l k = true then some ((k : Int), wr1 l k) else none) (List.range n)
  simpa using this
theorem has1_take {l : List Nd} {i : Nat} {k : Int} (h : i < l.length) : has1 (l.take (i + 1)) k = (has1 (l.take i) k || decide ((gt l i).1 = k)) := by
  unfold has1
  rw [take_gt h, List.any_append]
  simp
theorem wr1_take {l : List Nd} {i : Nat} {k : Int} (h : i < l.length) : wr1 (l.take (i + 1)) k = (wr1 (l.take i) k || (decide ((gt l i).1 = k) && (gt l i).2)) := by
  unfold wr1
  rw [take_gt h, List.any_append]
  simp
end Go.Tsk
namespace Go.Proofs.Ytjfoicebdjonfaa
open Go.RowKit Go.Cx Go.Am Go.Tsk
theorem grow_am (n : Nat) (hn : n ≤ 1000000) : ACalls E0 82 [.v (.slice none 0 0), .v (.int .i64 (n : Int))] [] fun r H' => r = .hs 0 2 0 0 ∧ H' = [some (.row true 2 [])] := by
  refine acalls_raw Try.func82 rfl (by kernel_rfl) fun w M vs hG hv => ?_
  unfold VRt VRt VRt at hv
  obtain ⟨v0, r0, rfl, h0, v1, r1, rfl, h1, rfl⟩ := hv
  unfold VR at h0 h1
  subst h0 h1
  refine (growN_raw n w hn).mono ?_
  rintro e w' (⟨rfl, rfl⟩ | ⟨cap, Z, rfl, rfl, hZ, hc⟩)
  · refine ⟨_, _, _, M.bare 0, rfl, ⟨rfl, rfl⟩, hG.bare 2, ?_, ⟨rfl, rfl, rfl, Nat.le_refl _, fun _ h => h, fun _ h => .inl h, fun _ _ _ => rfl, by simp, fun r hr => absurd hr (Nat.not_lt_zero r), fun _ _ => rfl, fun b hb => ?_⟩⟩
    · unfold VR
      exact ⟨by simp, none, 0, rfl, Nat.le_refl _, Nat.zero_le _, fun _ => rfl, .inr (.inl ⟨rfl, rfl⟩)⟩
    · obtain ⟨q, B, q1, _, q3⟩ := hb
      match q with
      | 0 => simp [Mem.bare] at q3
      | q + 1 => cases q1
  · obtain ⟨g1, g2⟩ := Gam.push (E := E0) (w1 := w.drew) (o := .cells Z 45 (0, 0)) (B := .row true 2 []) (s := Z.size) hG rfl rfl rfl rfl (fun M' _ _ m3 m4 m5 _ => .inr ⟨_, Z, _, _, [], m3, m5, .inl rfl, m4.symm, by simp [VRss], by simp, fun h => by cases h⟩)
    refine ⟨_, _, _, _, rfl, ⟨rfl, rfl⟩, g1, ?_, g2⟩
    unfold VR
    refine ⟨Nat.zero_lt_one, _, cap, rfl, Nat.zero_le _, hc, fun h => (by cases h), .inr (.inr ⟨w.heap.size, by simp [Mem.push], by simp, ?_⟩)⟩
    simp [Mem.push, hZ]
end Go.Proofs.Ytjfoicebdjonfaa
