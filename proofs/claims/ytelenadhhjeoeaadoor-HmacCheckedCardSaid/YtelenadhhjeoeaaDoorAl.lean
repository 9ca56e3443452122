/- The abstract machine: arrays of bytes and numbers. No condition. -/
import Derived.Test.YtelenadhhjeoeaaDoorAk
set_option linter.unusedSectionVars false
set_option linter.unusedVariables false
set_option linter.unusedSimpArgs false
set_option linter.deprecated false
namespace Go.Am
open Go.RowKit Go.Cx

/-- The cells of an array of bytes. -/
def bvs (l : List UInt8) : List AV := l.map fun b => .v (.int .u8 (b.toNat : Int))
theorem bvs_len (l : List UInt8) : (bvs l).length = l.length := by simp [bvs]
theorem bvs_nil : bvs [] = [] := rfl
theorem bvs_cons (b : UInt8) (l : List UInt8) : bvs (b :: l) = .v (.int .u8 (b.toNat : Int)) :: bvs l := rfl
theorem bvs_app (l m : List UInt8) : bvs l ++ bvs m = bvs (l ++ m) := by simp [bvs]
theorem bvs_drop (l : List UInt8) (k : Nat) : (bvs l).drop k = bvs (l.drop k) := by simp [bvs, List.map_drop]
theorem bvs_take (l : List UInt8) (k : Nat) : (bvs l).take k = bvs (l.take k) := by simp [bvs, List.map_take]
theorem bvs_getD {l : List UInt8} {i : Nat} {d : AV} (h : i < l.length) : (bvs l).getD i d = .v (.int .u8 ((l.getD i 0).toNat : Int)) := by
  simp [bvs, List.getD_eq_getElem?_getD, List.getElem?_eq_getElem h]
theorem bvs_set (l : List UInt8) (i : Nat) (b : UInt8) : (bvs l).set i (.v (.int .u8 (b.toNat : Int))) = bvs (l.set i b) := by simp [bvs, List.map_set]
theorem splice_one {off : Nat} {x : AV} {l : List AV} (h : off < l.length) : splice off [x] l = l.set off x := by
  unfold splice
  rw [List.set_eq_take_append_cons_drop, if_pos h]
  simp
theorem splice_bvs {off : Nat} {b : UInt8} {l : List UInt8} (h : off < l.length) : splice off [.v (.int .u8 (b.toNat : Int))] (bvs l) = bvs (l.set off b) := by
  rw [splice_one (by rw [bvs_len]; exact h), bvs_set]
/-- An object's cells, written one by one. -/
theorem splice_cs {off : Nat} {new cs : List AV} {c : AV} : splice off new (c :: cs) = (c :: cs).take off ++ new ++ (c :: cs).drop (off + new.length) := (rfl)
theorem splice_row {off : Nat} {m l : List UInt8} : splice off (bvs m) (bvs l) = bvs (l.take off ++ m ++ l.drop (off + m.length)) := by
  unfold splice
  simp [bvs, List.map_take, List.map_drop]
theorem chunks_bvs : ∀ {n : Nat} {l : List UInt8}, n ≤ l.length → chunks 1 n (bvs l) = (l.take n).map bcl
  | 0, l, _ => by simp [chunks]
  | n + 1, [], h => by simp at h
  | n + 1, b :: l, h => by
    unfold chunks
    rw [bvs_cons]
    simp only [List.take_succ_cons, List.take_zero, List.drop_succ_cons, List.drop_zero, List.map_cons]
    rw [chunks_bvs (by simpa using h)]
    rfl
theorem flat_bcl (l : List UInt8) : (l.map bcl).flatten = bvs l := by
  induction l with
  | nil => rfl
  | cons b l ih => simp only [List.map_cons, List.flatten_cons, ih, bvs_cons]; rfl
theorem nbs_bvs {n : Nat} (l : List UInt8) : nbs n (bvs l) = True := eq_true (nbs_iff.2 fun a ha => by
  obtain ⟨b, _, rfl⟩ := List.mem_map.1 ha
  trivial)
theorem gfs_bvs (l : List UInt8) : gfs (bvs l) = True := eq_true (by
  induction l with
  | nil => trivial
  | cons b l ih => exact ⟨trivial, ih⟩)
theorem amaps_bvs {f : Nat → Nat} (l : List UInt8) : amaps f (bvs l) = bvs l := amaps_id (n := 0) (fun r hr => absurd hr (Nat.not_lt_zero r)) (of_eq_true (nbs_bvs l))
section
variable [K : Kv]
theorem jpart_drop {s i : Nat} {cs : List AV} (h : i < cs.length) : jpart false s (cs.drop i) = K.k (cs.getD i .any) := by
  rw [List.drop_eq_getElem_cons h, List.getD_eq_getElem?_getD, List.getElem?_eq_getElem h]
  unfold jpart
  exact apart_f
theorem jpart_bvs {s i : Nat} {l : List UInt8} (h : i < l.length) : jpart false s (bvs (l.drop i)) = K.k (.v (.int .u8 ((l.getD i 0).toNat : Int))) := by
  rw [← bvs_drop, jpart_drop (by rw [bvs_len]; exact h), bvs_getD h]
end
end Go.Am
