/- The walks of the law's own helpers: cut and the example at the head of each law. -/
import Derived.Test.YtminoakdilbokaaTagsA
import Derived.Test.YtminoakdilbokaaTagsB
import Derived.Test.YtminoakdilbokaaTagsC
import Derived.Test.YtminoakdilbokaaTagsE
import Derived.Test.YtminoakdilbokaaTagsG
set_option linter.unusedSectionVars false
set_option linter.unusedVariables false
set_option linter.unusedSimpArgs false
set_option linter.deprecated false
namespace Go.Proofs.Ytminoakdilbokaa.Raw
open Go.RowKit Go.Cx

set_option maxRecDepth 100000 in
set_option maxHeartbeats 1600000 in
theorem same_yes (va vb : Value) (ts : List Tag) (w : World) (h : RSl (fun _ => True) w va ts) (h' : RSl (fun _ => True) w vb ts) :
    Calls Try.prog 16 #[va, vb] w fun e w' => e = .returned (.bool true) ∧ Below w.heap.size w w' := by
  obtain ⟨aa, ca, ka, rfl, hra, haa⟩ := h
  obtain ⟨ab, cb, kb, rfl, hrb, hab⟩ := h'
  have hm := hra.cle
  have hM := hra.max
  unfold maxLen at hM
  go_enter Try.func16, Try.ntmps16
  go_wp2
  go_loopw [5] (fun i wr => ∃ (k nn : Nat), k ≤ ts.length ∧ i = .int .i64 k ∧ wr = w.drewN nn) (fun i _ => ts.length - (intOf i).toNat)
  case atStart => exact ⟨0, 0, by omega, rfl, rfl⟩
  case round =>
    obtain ⟨k, nn, hk, rfl, rfl⟩ := hrel
    by_cases hlt : k < ts.length
    · obtain ⟨vo, n, vc, h1, h2, hn, h3, h4⟩ := RAll.tag haa hlt
      obtain ⟨xo, m, xc, g1, g2, gn, g3, g4⟩ := RAll.tag hab hlt
      rcases hra.at_ with ⟨h0, _⟩ | ⟨b, off, rfl, _, hc⟩
      · omega
      rcases hrb.at_ with ⟨h0, _⟩ | ⟨b', off', rfl, _, hc'⟩
      · omega
      have c1 : w.cell? ⟨b, off + k * 2, none⟩ = some (.int .i64 ts[k].typ) := hc _ _ h1
      have c2 : w.cell? ⟨b, off + k * 2 + 1, none⟩ = some (.slice vo n vc) := by rw [Nat.add_assoc]; exact hc _ _ h2
      have c3 : w.cell? ⟨b', off' + k * 2, none⟩ = some (.int .i64 ts[k].typ) := hc' _ _ g1
      have c4 : w.cell? ⟨b', off' + k * 2 + 1, none⟩ = some (.slice xo m xc) := by rw [Nat.add_assoc]; exact hc' _ _ g2
      have v1 := fun q => RowAt.conv (P := Try.prog) Try.underlying24 Try.underlying5 Try.underlying9 hn.symm (h4.drewN q)
      have v2 := fun q => RowAt.conv (P := Try.prog) Try.underlying24 Try.underlying5 Try.underlying9 gn.symm (g4.drewN q)
      have k0 : (0 : Int) ≤ (k : Int) := by omega
      have k1 : (k : Int) < (ts.length : Int) := by omega
      clear hn gn h1 h2 g1 g2 h4 g4 hc hc' haa hab
      generalize ts[k].typ = ty at *
      generalize str ts[k].val = sx at *
      have ty0 : (ty != ty) = false := by simp
      go_wp2_with fail
      go_quiet (fail)
      go_wp2
      go_roundw
      case rel => exact ⟨k + 1, nn + nq, by omega, by go_num, rfl⟩
      case measure => simp [intOf]; omega
    · go_wp2
      go_ret
      exact ⟨rfl, below_drewN (Below.refl _ _) _⟩
end Go.Proofs.Ytminoakdilbokaa.Raw
namespace Go.Proofs.Ytminoakdilbokaa.Raw
open Go.RowKit Go.Cx

set_option maxHeartbeats 400000 in
theorem cut_any (v : Value) (l : List UInt8) (w : World) (h : RSl (fun b => b < w.heap.size) w v l) :
    Calls Try.prog 13 #[v] w fun e w' => ∃ v, e = .returned v ∧ RSl (fun b => b < w.heap.size) w v (l.take 1600) ∧ w = w' := by
  obtain ⟨ao, cap, rfl, hr⟩ := h.bytes
  have m0 : (0 : Int) ≤ min (l.length : Int) 1600 := by omega
  have m1 : min (l.length : Int) 1600 ≤ (cap : Int) := by have := hr.cle; omega
  have m2 : (min (l.length : Int) 1600).toNat = min l.length 1600 := by omega
  have hp := hr.front (m := min l.length 1600) (by omega)
  go_enter Try.func13, Try.ntmps13
  go_wp2
  go_ret
  refine ⟨_, rfl, RSl.of_bytes (by simp [Nat.min_comm]) ?_, rfl⟩
  rw [show (l.take 1600).map bv = (l.map bv).take (min l.length 1600 * 1) from by rw [Nat.mul_one, Nat.min_comm, ← List.take_take, List.take_of_length_le (l := l.map bv) (by simp)]; simp [List.map_take]]
  exact hp

def tagA : List Tag := [⟨259, [1, 2]⟩]
theorem enc_A : enc tagA = ([1, 3, 0, 2, 1, 2], 0) := by decide +kernel
theorem dec_A : dec [1, 3, 0, 2, 1, 2, 0, 0, 0, 0, 9] = (tagA, 0) := by
  have h : (dec [1, 3, 0, 2, 1, 2, 0, 0, 0, 0, 9]).2 = 0 ∧ (dec [1, 3, 0, 2, 1, 2, 0, 0, 0, 0, 9]).1.map (fun t => (t.typ, t.val)) = [(259, [1, 2])] := by decide +kernel
  generalize dec [1, 3, 0, 2, 1, 2, 0, 0, 0, 0, 9] = r at *
  obtain ⟨l, e⟩ := r
  obtain ⟨rfl, h2⟩ := h
  match l, h2 with
  | [t], h2 =>
    simp at h2
    obtain ⟨a, b⟩ := t
    simp at h2
    obtain ⟨rfl, rfl⟩ := h2
    rfl
  | [], h2 => simp at h2
  | _ :: _ :: _, h2 => simp at h2
theorem dec_B : (dec [1, 3, 0]).2 = 50 := by decide +kernel

set_option maxRecDepth 100000 in
set_option maxHeartbeats 1600000 in
theorem awake_any (w : World) : Calls Try.prog 12 #[] w fun e w' => e = .returned (.bool true) ∧ Below w.heap.size w w' := by
  go_enter Try.func12, Try.ntmps12
  go_wp2_with fail
  have hA : RSl (fun b => b < ((w.alloc (.cells #[.int .u8 1, .int .u8 2] 5)).alloc (.cells #[.int .i64 259, .slice (some ⟨w.heap.size, 0, none⟩) 2 2] 34)).heap.size)
      ((w.alloc (.cells #[.int .u8 1, .int .u8 2] 5)).alloc (.cells #[.int .i64 259, .slice (some ⟨w.heap.size, 0, none⟩) 2 2] 34)) (.slice (some ⟨w.heap.size + 1, 0, none⟩) 1 1) tagA := by
    refine rsl_whole (heap_at_new (by simp)) (RAll.single ⟨_, rfl, by decide, ?_⟩) rfl (by decide) (by simp)
    refine rsl_block (cur := #[.int .u8 1, .int .u8 2]) (e := 5) (fr := (0, 0)) ?_ rfl rfl (by decide) (by decide) (by simp; omega)
    rw [heap_alloc_old _ _ (by simp)]
    exact heap_alloc_new _ _
  refine (encode_any _ tagA _ hA).mono ?_
  rintro e w1 ⟨vb, rfl, hvb, hb1⟩
  rw [enc_A] at hvb ⊢
  simp only at hvb ⊢
  clear hA
  obtain ⟨W0, hW0⟩ : ∃ W0, W0 = (w.alloc (.cells #[.int .u8 1, .int .u8 2] 5)).alloc (.cells #[.int .i64 259, .slice (some ⟨w.heap.size, 0, none⟩) 2 2] 34) := ⟨_, rfl⟩
  have b0 : Below w.heap.size w W0 := by rw [hW0]; exact ((Below.refl _ _).alloc (Nat.le_refl _) _).alloc (by simp) _
  rw [← hW0] at hvb hb1
  have b1 : Below w.heap.size w w1 := b0.trans (hb1.mono b0.size)
  clear hW0
  have hown1 := hvb.alloc (.cells #[.int .u8 0, .int .u8 0, .int .u8 0, .int .u8 0, .int .u8 9] 5)
  have hsrc : RSl (fun _ => True) (w1.alloc (.cells #[.int .u8 0, .int .u8 0, .int .u8 0, .int .u8 0, .int .u8 9] 5)) (.slice (some ⟨w1.heap.size, 0, none⟩) 5 5) ([0, 0, 0, 0, 9] : List UInt8) :=
    rsl_block (heap_at_new rfl) rfl rfl (by decide) (by decide) trivial
  have z1 := b1.size
  have z2 := hb1.size
  go_wp2_with (at_builtin; refine wpList_append (α := UInt8) (base := W0.heap.size) (ys := [0, 0, 0, 0, 9]) rfl rfl Try.underlying24 Try.infoU8 rfl rfl rfl hown1 (hsrc.srcsB Try.underlying24) (by decide) (by decide) (by simp; omega) ?go)
  intro v2 w2 hown2 happ2
  have hold := happ2.stay hown1
  have b2 : Below w.heap.size w w2 := (b1.alloc b1.size _).grown happ2.by_ (by simp; omega) (fun j hj => by have := (hown1.lt j hj).1; have := b0.size; omega)
  clear happ2 hown1 hvb hsrc hb1
  go_wp2_with fail
  refine (decode_any _ _ _ hown2.rsl).mono ?_
  rintro e w3 ⟨v3, rfl, hv3, hb3⟩
  rw [dec_A] at hv3 ⊢
  simp only at hv3 ⊢
  have b3 : Below w.heap.size w w3 := b2.trans (hb3.mono b2.size)
  have hold3 := hold.now hb3
  obtain ⟨a3, c3, hv3e⟩ : ∃ a c, v3 = .slice a 1 c := by
    obtain ⟨a, c, k, rfl, _⟩ := hv3
    exact ⟨a, c, rfl⟩
  subst hv3e
  have hv3s : RSl (fun b => b < w3.heap.size) w3 (.slice a3 1 c3) tagA := hv3.old
  clear hold hv3 hown2
  have tl : ∀ t ∈ tagA, t.val.length ≤ 1000000 := by decide
  go_wp2_with fail
  refine (find_any _ tagA 259 _ hv3s (by decide) tl).mono ?_
  rintro e w4 ⟨v4, rfl, hv4, hb4⟩
  rw [show vals tagA 259 = [[1, 2]] from rfl] at hv4 ⊢
  have b4 : Below w.heap.size w w4 := b3.trans (hb4.mono b3.size)
  have hv4s : RSl (fun b => b < w4.heap.size) w4 (.slice a3 1 c3) tagA := hv3s.now hb4
  go_wp2_with fail
  refine (find_any _ tagA 258 _ hv4s (by decide) tl).mono ?_
  rintro e w5 ⟨v5, rfl, hv5, hb5⟩
  rw [show vals tagA 258 = [] from rfl] at hv5 ⊢
  have b5 : Below w.heap.size w w5 := b4.trans (hb5.mono b4.size)
  clear hv5 hv4s hv3s
  have hC : RSl (fun b => b < (w5.alloc (.cells #[.int .u8 1, .int .u8 3, .int .u8 0] 5)).heap.size) (w5.alloc (.cells #[.int .u8 1, .int .u8 3, .int .u8 0] 5)) (.slice (some ⟨w5.heap.size, 0, none⟩) 3 3) ([1, 3, 0] : List UInt8) :=
    rsl_block (heap_at_new rfl) rfl rfl (by decide) (by decide) (by simp)
  go_wp2_with fail
  refine (decode_any _ _ _ hC).mono ?_
  rintro e w6 ⟨v6, rfl, _, hb6⟩
  rw [dec_B]
  have b5' : Below w5.heap.size w5 w6 := ((Below.refl _ _).alloc (Nat.le_refl _) _).trans (hb6.mono (by simp))
  have b6 : Below w.heap.size w w6 := b5.trans (b5'.mono b5.size)
  have b46 : Below w4.heap.size w4 w6 := hb5.trans (b5'.mono hb5.size)
  have b36 : Below w3.heap.size w3 w6 := hb4.trans (b46.mono hb4.size)
  have q1 := (hold3.now b36).conv (P := Try.prog) (dst := 9) Try.underlying24 Try.underlying5 Try.underlying9
  have q2 := (hv4.old.now b46).conv (P := Try.prog) (dst := 9) Try.underlying24 Try.underlying5 Try.underlying9
  rw [show str [1, 3, 0, 2, 1, 2] = ⟨#[1, 3, 0, 2, 1, 2]⟩ from rfl] at q1
  rw [show str (([[1, 2]] : List (List UInt8)).headD []) = ⟨#[1, 2]⟩ from rfl] at q2
  clear hb6 b5' b46 b36 hb5 hb4 hb3
  go_wp2
  go_ret
  exact ⟨rfl, b6⟩
end Go.Proofs.Ytminoakdilbokaa.Raw
