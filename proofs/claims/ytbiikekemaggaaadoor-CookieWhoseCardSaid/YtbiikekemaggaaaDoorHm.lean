/- A keyed sum that is being made: what it holds. No condition. -/
import Derived.Test.YtbiikekemaggaaaDoorShg
set_option linter.unusedSectionVars false
set_option linter.unusedVariables false
set_option linter.unusedSimpArgs false
set_option linter.deprecated false
namespace Go.Am
theorem rd_obj {σ : List Nat} {H : Heap} {n r k : Nat} {l : List UInt8} (hr : r ∉ σ) (hb : H[r]? = some (some (.obj (bvs l)))) (hk : l.length = k) : rdV true σ H n (.os r 1 0 k) (.sl 1 (l.map bcl)) := by
  subst hk
  refine rd_os hr ?_ (nbss_bytes _) (of_eq_true (gfss_bcl _))
  unfold elems
  simp only [hb]
  rw [if_pos ⟨trivial, by rw [bvs_len]; omega⟩, List.drop_zero, chunks_bvs (Nat.le_refl _), List.take_length]
theorem jpart_bvs0 [K : Kv] {s : Nat} {l : List UInt8} (h : 0 < l.length) : jpart false s (bvs l) = K.k (.v (.int .u8 ((l.getD 0 0).toNat : Int))) := jpart_bvs (i := 0) h
end Go.Am
namespace Go.Sha
open Go.Am
/-- A key's block. -/
def keyS (k : List UInt8) : List UInt8 := if 64 < k.length then sum k else k
def keyB (k : List UInt8) : List UInt8 := keyS k ++ List.replicate (64 - (keyS k).length) 0
theorem keyS_le (k : List UInt8) (hs : (sum k).length = 32) : (keyS k).length ≤ 64 := by unfold keyS; split <;> omega
theorem keyB_len (k : List UInt8) (hs : (sum k).length = 32) : (keyB k).length = 64 := by
  have := keyS_le k hs
  simp [keyB]
  omega
/-- .. each byte turned. -/
def turn (x : UInt8) (l : List UInt8) : List UInt8 := l.map fun b => b ^^^ x
theorem turn_len (x : UInt8) (l : List UInt8) : (turn x l).length = l.length := by simp [turn]
theorem turn_take (x : UInt8) (l : List UInt8) (i : Nat) (h : i < l.length) : turn x (l.take (i + 1)) = turn x (l.take i) ++ [l.getD i 0 ^^^ x] := by
  unfold turn
  rw [List.take_add_one, List.getElem?_eq_getElem h, List.map_append]
  simp [List.getD_eq_getElem?_getD, List.getElem?_eq_getElem h]
def ipad (k : List UInt8) : List UInt8 := turn 54 (keyB k)
def opad (k : List UInt8) : List UInt8 := turn 92 (keyB k)
def mac (k m : List UInt8) : List UInt8 := sum (opad k ++ sum (ipad k ++ m))
/-- The object's cells: the key's block, where the inner sum lies, how many bytes. -/
def mC (k : List UInt8) (r n : Nat) : List AV := bvs k ++ [.ptr r 0, .v (.int .i64 n)]
section
variable {k : List UInt8} {r n : Nat} (hl : k.length = 64)
include hl
theorem mC_len : (mC k r n).length = 66 := by simp [mC, bvs_len, hl]
theorem mC_64 : (mC k r n).drop 64 = [.ptr r 0, .v (.int .i64 n)] := by
  unfold mC
  rw [List.drop_append_of_le_length (by simp [bvs_len, hl]), List.drop_eq_nil_of_le (by simp [bvs_len, hl])]
  rfl
theorem mC_65 : (mC k r n).drop 65 = [.v (.int .i64 n)] := by
  rw [show (65 : Nat) = 64 + 1 from rfl, ← List.drop_drop, mC_64 hl]
  rfl
theorem mC_t : (mC k r n).take 64 = bvs k := by
  unfold mC
  rw [List.take_append_of_le_length (by simp [bvs_len, hl]), List.take_of_length_le (by simp [bvs_len, hl])]
theorem mC_n (m : Nat) : splice 65 [.v (.int .i64 (m : Int))] (mC k r n) = mC k r m := by
  unfold splice
  unfold mC
  rw [List.take_append, List.take_of_length_le (by simp [bvs_len, hl]), bvs_len, hl, List.drop_eq_nil_of_le (by simp [bvs_len, hl])]
  simp
end
theorem nbs_mC {n' : Nat} (k : List UInt8) (r n : Nat) : nbs n' (mC k r n) = (r < n') := by
  unfold mC
  have : ∀ l : List AV, nbs n' (bvs k ++ l) = nbs n' l := by
    intro l
    induction k with
    | nil => rfl
    | cons b k ih =>
      rw [bvs_cons, List.cons_append]
      show (nb n' _ ∧ _) = _
      rw [ih]
      simp [nb]
  rw [this]
  simp [nbs, nb]
theorem amaps_app {f : Nat → Nat} : ∀ l m : List AV, amaps f (l ++ m) = amaps f l ++ amaps f m
  | [], _ => rfl
  | a :: l, m => by simp only [List.cons_append, amaps, amaps_app l m]
theorem amaps_mC {f : Nat → Nat} (k : List UInt8) (r n : Nat) : amaps f (mC k r n) = mC k (f r) n := by
  unfold mC
  rw [amaps_app, amaps_bvs]
  rfl
theorem gfs_mC (k : List UInt8) (r n : Nat) : gfs (mC k r n) = True := eq_true (by
  unfold mC
  exact gfs_app (of_eq_true (gfs_bvs _)) ⟨trivial, trivial, trivial⟩)
end Go.Sha
