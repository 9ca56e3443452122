/- Rows of rows of plain cells, to the machine. No condition. -/
import Derived.Test.YtjfoicebdjonfaaQGn
import Derived.Test.YtjfoicebdjonfaaQb2
set_option linter.unusedSectionVars false
set_option linter.unusedVariables false
set_option linter.unusedSimpArgs false
set_option linter.deprecated false
namespace Go.Am
open Go.Cx
def rwC {α : Type} [Cel α] (sz : Nat) (ls : List (List α)) : List (List AV) := ls.map fun l => [.sl sz (cels l)]
section
variable {α : Type} [Cel α] {ls : List (List α)} {l : List α} {i k sz : Nat}
theorem rwc_nil : rwC sz ([] : List (List α)) = [] := rfl
theorem rwc_len : (rwC sz ls).length = ls.length := by simp [rwC]
theorem rwc_take : (rwC sz ls).take k = rwC sz (ls.take k) := by simp [rwC, List.map_take]
theorem rwc_snoc : rwC sz ls ++ [[.sl sz (cels l)]] = rwC sz (ls ++ [l]) := by simp [rwC]
theorem rwc_nbss {n : Nat} (ls : List (List α)) : nbss n (rwC sz ls) = True := eq_true (nbss_map (f := fun l : List α => [AV.sl sz (cels l)]) (fun x => by unfold nbs nb; exact ⟨by rw [cels_nbss]; trivial, by unfold nbs; trivial⟩) ls)
theorem rwc_amapss {f : Nat → Nat} (ls : List (List α)) : amapss f (rwC sz ls) = rwC sz ls := amapss_id (n := 0) (fun r hr => absurd hr (Nat.not_lt_zero r)) (of_eq_true (rwc_nbss ls))
theorem frz_rwc {d N : Nat} {L : Heap} (ls : List (List α)) : ((rwC sz ls).map fun e => e.map (frz d L N)) = rwC sz ls := by
  simp only [rwC, List.map_map]
  refine List.map_congr_left fun x _ => ?_
  simp [frz_sl]
theorem frzRC {d N r k : Nat} {hot : Bool} {L : Heap} (hr : N ≤ r) (h : L[r - N]? = some (some (.row hot 1 (rwC sz ls)))) (hk : k = ls.length) : frz (d + 1) L N (.hs r 1 0 k) = .sl 1 (rwC sz ls) := by
  subst hk
  unfold frz
  rw [if_neg (by omega), h]
  simp only
  rw [if_pos ⟨trivial, by rw [rwc_len]; omega⟩, List.drop_zero, List.take_of_length_le (by rw [rwc_len]; omega), frz_rwc]
end
theorem rlss_snoc {r sz : Nat} {es : List (List AV)} {e e' : List AV} (he : rls r sz es e e') : ∀ l : List (List AV), rlss r sz es (l ++ [e]) (l ++ [e'])
  | [] => ⟨he, trivial⟩
  | a :: l => ⟨rls_refl a, rlss_snoc he l⟩
end Go.Am
