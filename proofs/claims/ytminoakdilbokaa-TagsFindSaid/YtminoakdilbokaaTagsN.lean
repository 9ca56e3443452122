/- conciergelaw05's laws: the walks of TagsLong, TagsDecodes, TagsFind. -/
import Derived.Test.YtminoakdilbokaaTagsL
namespace Go.Proofs.Ytminoakdilbokaa
open Go.RowKit Go.Cx

set_option maxRecDepth 100000 in
set_option maxHeartbeats 800000 in
theorem decodes_walk (v : Value) (l : List UInt8) (w : World) (h : RSl (fun b => b < w.heap.size) w v l) :
    Calls Try.prog 5 #[v] w fun e w' => e = .returned (.bool true) ∧ Below w.heap.size w w' := by
  go_enter Try.func5, Try.ntmps5
  go_wp2_with fail
  refine (cut_any v l w h).mono ?_
  rintro e w1 ⟨v1, rfl, hv1, rfl⟩
  go_wp2_with fail
  refine (decode_any v1 _ w hv1).mono ?_
  rintro e w2 ⟨v2, rfl, hv2, b2⟩
  go_wp2_with fail
  refine (rdecode_any v1 _ w2 (hv1.now b2)).mono ?_
  rintro e w3 ⟨v3, rfl, hv3, hb3⟩
  have b3 : Below w.heap.size w w3 := b2.trans (hb3.mono b2.size)
  have q1 := (hv2.old.now hb3).mono (G' := fun _ => True) (w' := w3) (fun _ _ => trivial) (fun _ _ => rfl)
  have q2 := hv3.mono (G' := fun _ => True) (w' := w3) (fun _ _ => trivial) (fun _ _ => rfl)
  clear hv1 hv2 hv3 hb3 h
  generalize (dec (l.take 1600)).2 = n at *
  go_wp2_with fail
  refine (same_yes v2 v3 _ w3 q1 q2).mono ?_
  rintro e w4 ⟨rfl, hb4⟩
  have b4 : Below w.heap.size w w4 := b3.trans (hb4.mono b3.size)
  go_wp2_with (go_at_call 12; refine (awake_any _).mono ?_; rintro e w5 ⟨rfl, hb5⟩)
  go_ret
  exact ⟨rfl, b4.trans (hb5.mono b4.size)⟩

set_option maxRecDepth 100000 in
set_option maxHeartbeats 800000 in
theorem long_walk (n m : Nat) (w : World) (hn : n ≤ 65535) (hm : m ≤ 255) :
    Calls Try.prog 4 #[.int .u16 n, .int .u8 m] w fun e w' => e = .returned (.bool true) ∧ Below w.heap.size w w' := by
  obtain ⟨K, hK⟩ : ∃ K, K = n + m * 256 := ⟨_, rfl⟩
  have hmk : ∀ w, (Instr.makeSlice 24 (.int .i64 ((n : Int) + (m : Int) * 256)) (.int .i64 ((n : Int) + (m : Int) * 256))).run Try.prog w = .ok (.slice (some ⟨w.heap.size, 0, none⟩) K K) (w.alloc (.cells (madeCells #[.int .u8 0] K) 5)) := by
    intro w
    have h := run_make_row' (P := Try.prog) 24 5 (.int .u8 0) 1 Try.underlying24 Try.infoU8 rfl .i64 .i64 K (by omega) (by omega) w
    rw [show ((K : Nat) : Int) = (n : Int) + (m : Int) * 256 from by omega] at h
    exact h
  have hz : madeCells #[.int .u8 0] K = ((List.replicate K (0 : UInt8)).map bv).toArray := by
    apply Array.ext'
    simp only [madeCells, Array.toList_map, Array.toList_range, List.map_replicate]
    apply List.ext_getElem
    · simp
    · intro i h1 h2
      simp [Nat.mod_one, bv]
  have hK2 : K ≤ 130815 := by omega
  have Hmk := hmk
  clear hmk hK
  generalize madeCells #[.int .u8 0] K = Z at *
  have hrow : ∀ W : World, ∀ g, W.heap[g]? = some (.cells Z 5) → RSl (fun b => b < W.heap.size) W (.slice (some ⟨g, 0, none⟩) K K) (List.replicate K (0 : UInt8)) := by
    intro W g hg
    exact rsl_block hg (by rw [hz, List.take_of_length_le (by simp)]) (by simp) (Nat.le_refl _) (by unfold maxLen; omega) (Array.getElem?_eq_some_iff.1 hg).1
  have htag : ∀ W : World, W.heap[w.heap.size]? = some (.cells Z 5) → RSl (fun b => b < (W.alloc (.cells #[.int .i64 1, .slice (some ⟨w.heap.size, 0, none⟩) K K] 34)).heap.size) (W.alloc (.cells #[.int .i64 1, .slice (some ⟨w.heap.size, 0, none⟩) K K] 34))
      (.slice (some ⟨W.heap.size, 0, none⟩) 1 1) [(⟨1, List.replicate K (0 : UInt8)⟩ : Tag)] := by
    intro W hW
    refine rsl_whole (heap_at_new rfl) (RAll.single ⟨_, rfl, by simp, ?_⟩) rfl (by decide) (by simp)
    exact hrow _ _ ((heap_alloc_old W _ (Array.getElem?_eq_some_iff.1 hW).1).trans hW)
  have Htag := Lib.hid htag
  clear htag hrow hz
  go_enter Try.func4, Try.ntmps4
  go_wp2_with fail
  have hw1 : (w.alloc (.cells Z 5)).heap[w.heap.size]? = some (.cells Z 5) := heap_alloc_new _ _
  have s1 : (w.alloc (.cells Z 5)).heap.size = w.heap.size + 1 := by simp
  have h1 := Htag.out _ hw1
  rw [s1] at h1
  refine (encode_any _ _ _ h1).mono ?_
  rintro e w2 ⟨v2, rfl, hv2, hb2⟩
  have b2 : Below w.heap.size w w2 := ((Below.refl _ _).alloc (Nat.le_refl _) _).trans ((Below.refl _ _).alloc (by simp) _ |>.trans (hb2.mono (by simp; omega)))
  have hw2 : w2.heap[w.heap.size]? = some (.cells Z 5) := (hb2.block _ (by simp; omega)).trans ((heap_alloc_old _ _ (by simp)).trans hw1)
  clear Hmk h1
  go_wp2_with fail
  refine (rencode_any _ _ _ (Htag.out _ hw2)).mono ?_
  rintro e w3 ⟨v3, rfl, hv3, hb3⟩
  have b23 : Below w2.heap.size w2 w3 := ((Below.refl _ _).alloc (Nat.le_refl _) _).trans (hb3.mono (by simp))
  have b3 : Below w.heap.size w w3 := b2.trans (b23.mono b2.size)
  have q1 := (hv2.rsl.now b23).conv (P := Try.prog) (dst := 9) Try.underlying24 Try.underlying5 Try.underlying9
  have q2 := hv3.rsl.conv (P := Try.prog) (dst := 9) Try.underlying24 Try.underlying5 Try.underlying9
  clear hv2 hv3 hb2 hb3 hw1 hw2 Htag b23
  generalize str (enc [⟨1, List.replicate K (0 : UInt8)⟩]).1 = s at *
  generalize (enc [⟨1, List.replicate K (0 : UInt8)⟩]).2 = n at *
  go_wp2_with (go_at_call 12; refine (awake_any _).mono ?_; rintro e w4 ⟨rfl, hb4⟩)
  go_ret
  exact ⟨rfl, b3.trans (hb4.mono b3.size)⟩
end Go.Proofs.Ytminoakdilbokaa
