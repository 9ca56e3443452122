/- The package octet: what its functions answer. No condition but bounds of lengths. -/
import Derived.Test.YtckppkimjiifpaaGn
import Derived.Test.YtckppkimjiifpaaFx
set_option linter.unusedSectionVars false
set_option linter.unusedVariables false
set_option linter.unusedSimpArgs false
set_option linter.deprecated false
namespace Go.Proofs.Ytckppkimjiifpaa
open Go.RowKit Go.Cx Go.Am

/-- The number that bytes are, the highest first. -/
def beN (l : List UInt8) : Nat := l.foldl (fun a b => a * 256 + b.toNat) 0
theorem beN_snoc (l : List UInt8) (b : UInt8) : beN (l ++ [b]) = beN l * 256 + b.toNat := by simp [beN]
theorem beN_lt (l : List UInt8) : beN l < 256 ^ l.length := by
  have key : ∀ (l : List UInt8) (a : Nat), l.foldl (fun a b => a * 256 + b.toNat) a < (a + 1) * 256 ^ l.length := by
    intro l
    induction l with
    | nil => intro a; simp
    | cons b l ih =>
      intro a
      simp only [List.foldl_cons, List.length_cons]
      refine Nat.lt_of_lt_of_le (ih _) ?_
      rw [Nat.pow_succ, Nat.mul_comm (256 ^ l.length), ← Nat.mul_assoc]
      have := b.toNat_lt
      exact Nat.mul_le_mul_right _ (by omega)
  have := key l 0
  rw [Nat.zero_add, Nat.one_mul] at this
  exact this

theorem or_u64 (x : Nat) (y : UInt8) (h : x * 256 < 18446744073709551616) : bits .or .u64 ((x : Int) * 256) (y.toNat : Int) = ((x * 256 + y.toNat : Nat) : Int) := by
  have hy := y.toNat_lt
  rw [bits_join .u64 64 (by decide) (fun n h1 h2 => IntWalk.u64_in n (by omega)) 8 _ _ (by omega) (by omega) (by omega) (by omega) (by omega) (by omega)]
  omega
theorem take_snoc {l : List UInt8} {i : Nat} (h : i < l.length) : l.take (i + 1) = l.take i ++ [l.getD i 0] := by
  rw [List.take_succ, List.getD_eq_getElem?_getD, List.getElem?_eq_getElem h]
  rfl

set_option linter.unusedSimpArgs false

/-- The array that Put fills, i of its bytes told. -/
def aL (n i : Nat) : List UInt8 := (List.range 8).map fun p => if 7 - p < i then UInt8.ofNat (n / 256 ^ (7 - p)) else 0
theorem aL_len (n i : Nat) : (aL n i).length = 8 := by simp [aL]
theorem aL_set (n i : Nat) (h : i < 8) : (aL n i).set (7 - i) (UInt8.ofNat (n / 256 ^ i)) = aL n (i + 1) := by
  refine List.ext_getElem? fun p => ?_
  rw [List.getElem?_set]
  unfold aL
  simp only [List.getElem?_map, List.length_map, List.length_range]
  by_cases hp : p < 8
  · rw [List.getElem?_range hp]
    split
    · next e =>
      rw [if_pos (by omega)]
      simp only [Option.map_some]
      rw [if_pos (by omega), show 7 - p = i by omega]
    · next e =>
      simp only [Option.map_some]
      by_cases h2 : 7 - p < i
      · rw [if_pos h2, if_pos (by omega)]
      · rw [if_neg h2, if_neg (by omega)]
  · rw [if_neg (by omega), List.getElem?_eq_none (by simp; omega)]
    rfl
theorem aL_8 (n : Nat) : aL n 8 = be 8 n := by
  unfold aL be
  refine List.map_congr_left fun p hp => ?_
  have := List.mem_range.1 hp
  rw [if_pos (by omega)]
theorem be_drop (n k : Nat) (h : k ≤ 8) : (be 8 n).drop (8 - k) = be k n := by
  refine List.ext_getElem? fun p => ?_
  unfold be
  rw [List.getElem?_drop, List.getElem?_map, List.getElem?_map]
  by_cases hp : p < k
  · rw [List.getElem?_range hp, List.getElem?_range (by omega)]
    simp only [Option.map_some]
    congr 4
    omega
  · rw [List.getElem?_eq_none (by simp; omega), List.getElem?_eq_none (by simp; omega)]
    rfl
theorem put_byte (n i : Nat) (h : i < 8) : IntKind.u8.wrap ((n : Int).fdiv (2 ^ (8 * i))) = ((UInt8.ofNat (n / 256 ^ i)).toNat : Int) := by
  have e : ((2 : Int) ^ (8 * i)) = ((256 ^ i : Nat) : Int) := by
    rw [Int.pow_mul]
    simp
  rw [e, Int.fdiv_eq_ediv_of_nonneg _ (Int.natCast_nonneg _), ← Int.natCast_ediv, wrap_u8_nat]

end Go.Proofs.Ytckppkimjiifpaa
