/- A sum that is being made: what it holds. No condition. -/
import Derived.Test.YtbiikekemaggaaaDoorUv
set_option linter.unusedSectionVars false
set_option linter.unusedVariables false
set_option linter.unusedSimpArgs false
set_option linter.deprecated false
namespace Go.Sha
open Go.Am
structure Hs where
  s : St
  left : List UInt8
  n : Nat
def Hs.new : Hs := ⟨beg, List.replicate 64 0, 0⟩
/-- How many bytes go into the block at once. -/
def Hs.k (h : Hs) (b : List UInt8) : Nat := min b.length (64 - h.n % 64)
def Hs.l1 (h : Hs) (b : List UInt8) : List UInt8 := h.left.take (h.n % 64) ++ b.take (h.k b) ++ h.left.drop (h.n % 64 + h.k b)
def Hs.s1 (h : Hs) (b : List UInt8) : St := if h.n % 64 + h.k b = 64 then stp h.s (h.l1 b) else h.s
def Hs.one (h : Hs) (b : List UInt8) : Hs := ⟨h.s1 b, h.l1 b, h.n + h.k b⟩
theorem k_pos {h : Hs} {b : List UInt8} (hb : b ≠ []) : 0 < h.k b := by
  have := List.length_pos_iff.2 hb
  unfold Hs.k
  omega
theorem k_le {h : Hs} {b : List UInt8} : h.k b ≤ b.length ∧ h.n % 64 + h.k b ≤ 64 := by unfold Hs.k; omega
theorem l1_len {h : Hs} {b : List UInt8} (hl : h.left.length = 64) : (h.l1 b).length = 64 := by
  have := k_le (h := h) (b := b)
  unfold Hs.l1
  simp
  omega
def addH (h : Hs) (b : List UInt8) : Hs := if hb : b = [] then h else addH (h.one b) (b.drop (h.k b))
  termination_by b.length
  decreasing_by
    have := k_pos (h := h) hb
    have := k_le (h := h) (b := b)
    simp
    omega
theorem addH_nil (h : Hs) : addH h [] = h := by rw [addH, dif_pos rfl]
theorem addH_one {h : Hs} {b : List UInt8} (hb : b ≠ []) : addH h b = addH (h.one b) (b.drop (h.k b)) := by rw [addH, dif_neg hb]
/-- h holds the text m. -/
structure Inv (h : Hs) (m : List UInt8) : Prop where
  n : h.n = m.length
  l : h.left.length = 64
  tail : h.left.take (h.n % 64) = m.drop (64 * (h.n / 64))
  s : h.s = blocks beg m (h.n / 64)
theorem inv_new : Inv Hs.new [] := ⟨rfl, by simp [Hs.new], by simp [Hs.new], rfl⟩
theorem blocks_add (s : St) : ∀ (m : List UInt8) (i j : Nat), blocks s m (i + j) = blocks (blocks s m i) (m.drop (64 * i)) j
  | m, 0, j => by simp [blocks]
  | m, i + 1, j => by
    rw [show i + 1 + j = (i + j) + 1 by omega]
    unfold blocks
    rw [blocks_add _ _ i j, List.drop_drop]
    rw [show 64 + 64 * i = 64 * (i + 1) by omega]
    cases j <;> rfl
theorem blocks_pre : ∀ (s : St) (m r : List UInt8) (i : Nat), 64 * i ≤ m.length → blocks s (m ++ r) i = blocks s m i
  | s, m, r, 0, _ => rfl
  | s, m, r, i + 1, h => by
    unfold blocks
    rw [List.take_append_of_le_length (by omega), List.drop_append_of_le_length (by omega), blocks_pre _ _ _ i (by simp; omega)]
theorem inv_one {h : Hs} {m b : List UInt8} (hi : Inv h m) : Inv (h.one b) (m ++ b.take (h.k b)) := by
  obtain ⟨hn, hl, ht, hs⟩ := hi
  have hk := k_le (h := h) (b := b)
  have hl1 := l1_len (h := h) (b := b) hl
  have ht1 : (b.take (h.k b)).length = h.k b := by simp; omega
  have htl : (h.left.take (h.n % 64)).length = h.n % 64 := by simp; omega
  have hm : m = m.take (64 * (h.n / 64)) ++ h.left.take (h.n % 64) := by rw [ht, List.take_append_drop]
  have hml : (m.take (64 * (h.n / 64))).length = 64 * (h.n / 64) := by simp; omega
  refine ⟨by show h.n + h.k b = _; simp [hn, ht1], hl1, ?_, ?_⟩
  · show (h.l1 b).take ((h.n + h.k b) % 64) = (m ++ b.take (h.k b)).drop (64 * ((h.n + h.k b) / 64))
    by_cases h64 : h.n % 64 + h.k b = 64
    · rw [show (h.n + h.k b) % 64 = 0 by omega, List.take_zero, List.drop_eq_nil_of_le (by simp [ht1]; omega)]
    · rw [show (h.n + h.k b) % 64 = h.n % 64 + h.k b by omega, show (h.n + h.k b) / 64 = h.n / 64 by omega]
      unfold Hs.l1
      rw [List.take_append_of_le_length (by simp [htl, ht1] <;> omega), List.take_of_length_le (by simp [htl, ht1] <;> omega)]
      rw [List.drop_append_of_le_length (by omega), ht]
  · show h.s1 b = blocks beg (m ++ b.take (h.k b)) ((h.n + h.k b) / 64)
    unfold Hs.s1
    by_cases h64 : h.n % 64 + h.k b = 64
    · rw [if_pos h64, show (h.n + h.k b) / 64 = h.n / 64 + 1 by omega, blocks_add, blocks_pre _ _ _ _ (by omega), ← hs]
      show _ = stp h.s (((m ++ b.take (h.k b)).drop (64 * (h.n / 64))).take 64)
      congr 1
      rw [List.drop_append_of_le_length (by omega), ← ht, List.take_of_length_le (by simp [htl, ht1] <;> omega)]
      unfold Hs.l1
      rw [List.drop_eq_nil_of_le (by omega), List.append_nil]
    · rw [if_neg h64, show (h.n + h.k b) / 64 = h.n / 64 by omega, blocks_pre _ _ _ _ (by omega), hs]
theorem inv_add : ∀ (b : List UInt8) {h : Hs} {m : List UInt8}, Inv h m → Inv (addH h b) (m ++ b) := by
  intro b
  induction hn : b.length using Nat.strongRecOn generalizing b with
  | _ n ih =>
    intro h m hi
    by_cases hb : b = []
    · subst hb
      rw [addH_nil, List.append_nil]
      exact hi
    · rw [addH_one hb]
      have hk := k_le (h := h) (b := b)
      have hp := k_pos (h := h) hb
      have := ih (b.drop (h.k b)).length (by simp; omega) (b.drop (h.k b)) rfl (inv_one (b := b) hi)
      rw [List.append_assoc, List.take_append_drop] at this
      exact this
/-- The object's cells. -/
def hC (h : Hs) : List AV := uvs h.s.l ++ (bvs h.left ++ [.v (.int .i64 h.n), .v (.bool true)])
theorem sl8 (s : St) : s.l.length = 8 := rfl
section
variable {h : Hs} (hl : h.left.length = 64)
include hl
theorem hC_len : (hC h).length = 74 := by simp [hC, uvs_len, sl8, bvs_len, hl]
theorem hC_8 : (hC h).drop 8 = bvs h.left ++ [.v (.int .i64 h.n), .v (.bool true)] := by
  unfold hC
  rw [List.drop_append_of_le_length (by simp [uvs_len, sl8]), List.drop_eq_nil_of_le (by simp [uvs_len, sl8])]
  rfl
theorem hC_72 : (hC h).drop 72 = [.v (.int .i64 h.n), .v (.bool true)] := by
  rw [show (72 : Nat) = 8 + 64 from rfl, ← List.drop_drop, hC_8 hl, List.drop_append_of_le_length (by simp [bvs_len, hl]), List.drop_eq_nil_of_le (by simp [bvs_len, hl])]
  rfl
theorem hC_73 : (hC h).drop 73 = [.v (.bool true)] := by
  rw [show (73 : Nat) = 72 + 1 from rfl, ← List.drop_drop, hC_72 hl]
  rfl
theorem hC_t8 : (hC h).take 8 = uvs h.s.l := by
  unfold hC
  rw [List.take_append_of_le_length (by simp [uvs_len, sl8]), List.take_of_length_le (by simp [uvs_len, sl8])]
theorem hC_t64 : ((hC h).drop 8).take 64 = bvs h.left := by
  rw [hC_8 hl, List.take_append_of_le_length (by simp [bvs_len, hl]), List.take_of_length_le (by simp [bvs_len, hl])]
theorem hC_d8 : 64 ≤ ((hC h).drop 8).length := by simp [hC_len hl]
theorem hC_s (s : St) : splice 0 (uvs s.l) (hC h) = hC ⟨s, h.left, h.n⟩ := by
  unfold splice
  rw [List.take_zero, List.nil_append, uvs_len, sl8, Nat.zero_add, hC_8 hl]
  rfl
theorem hC_n (n : Nat) : splice 72 [.v (.int .i64 (n : Int))] (hC h) = hC ⟨h.s, h.left, n⟩ := by
  unfold splice
  rw [show 72 + [AV.v (.int .i64 (n : Int))].length = 73 from rfl, hC_73 hl]
  unfold hC
  rw [← List.append_assoc, List.take_append_of_le_length (by simp [uvs_len, sl8, bvs_len, hl]), List.take_of_length_le (by simp [uvs_len, sl8, bvs_len, hl])]
  simp
theorem hC_l (a : Nat) (c : List UInt8) (ha : a + c.length ≤ 64) : splice (8 + a) (bvs c) (hC h) = hC ⟨h.s, h.left.take a ++ c ++ h.left.drop (a + c.length), h.n⟩ := by
  unfold splice
  rw [bvs_len]
  have e1 : (hC h).take (8 + a) = uvs h.s.l ++ bvs (h.left.take a) := by
    unfold hC
    rw [List.take_append, uvs_len, sl8, List.take_of_length_le (by simp [uvs_len, sl8]), show 8 + a - 8 = a by omega, List.take_append_of_le_length (by simp [bvs_len, hl]; omega), bvs_take]
  have e2 : (hC h).drop (8 + a + c.length) = bvs (h.left.drop (a + c.length)) ++ [.v (.int .i64 h.n), .v (.bool true)] := by
    rw [Nat.add_assoc, ← List.drop_drop, hC_8 hl, List.drop_append_of_le_length (by simp [bvs_len, hl]; omega), bvs_drop]
  rw [e1, e2]
  unfold hC
  simp only [← bvs_app, List.append_assoc]
theorem hC_all : (hC h).take 74 = hC h := List.take_of_length_le (by rw [hC_len hl]; exact Nat.le_refl _)
end
theorem nbs_hC {n : Nat} (h : Hs) : nbs n (hC h) = True := eq_true (nbs_iff.2 fun a ha => by
  unfold hC at ha
  rcases List.mem_append.1 ha with ha | ha
  · exact nbs_iff.1 (of_eq_true (nbs_uvs _)) a ha
  · rcases List.mem_append.1 ha with ha | ha
    · exact nbs_iff.1 (of_eq_true (nbs_bvs _)) a ha
    · simp at ha
      rcases ha with rfl | rfl <;> trivial)
theorem gfs_app : ∀ {l m : List AV}, gfs l → gfs m → gfs (l ++ m)
  | [], _, _, h => h
  | _ :: _, _, h, k => ⟨h.1, gfs_app h.2 k⟩
theorem gfs_hC (h : Hs) : gfs (hC h) = True := eq_true (by
  unfold hC
  exact gfs_app (of_eq_true (gfs_uvs _)) (gfs_app (of_eq_true (gfs_bvs _)) ⟨trivial, trivial, trivial⟩))
theorem amaps_hC {f : Nat → Nat} (h : Hs) : amaps f (hC h) = hC h := amaps_id (n := 0) (fun r hr => absurd hr (Nat.not_lt_zero r)) (of_eq_true (nbs_hC _))
theorem okVs_hC {lend : Bool} {σ : List Nat} {H : Heap} {n : Nat} (h : Hs) : okVs lend σ H n (hC h) (hC h) = True := eq_true (by
  have key : ∀ l : List AV, (∀ a ∈ l, ∃ x, a = .v x) → okVs lend σ H n l l := by
    intro l
    induction l with
    | nil => intro _; trivial
    | cons a l ih =>
      intro hl
      obtain ⟨x, rfl⟩ := hl a (by simp)
      exact ⟨rfl, ih fun b hb => hl b (by simp [hb])⟩
  refine key _ fun a ha => ?_
  unfold hC at ha
  simp only [uvs, bvs, List.mem_append, List.mem_map, List.mem_cons, List.not_mem_nil, or_false] at ha
  rcases ha with ⟨b, _, rfl⟩ | ⟨b, _, rfl⟩ | rfl | rfl <;> exact ⟨_, rfl⟩)
end Go.Sha
