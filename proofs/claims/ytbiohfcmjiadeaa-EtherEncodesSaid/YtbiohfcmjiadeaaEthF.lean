/- The walks of Pad, of the reference's Pad, of cut. No condition but a bound of length. -/
import Derived.Test.YtbiohfcmjiadeaaEthE
namespace Go.Proofs.Ytbiohfcmjiadeaa
open Go.RowKit Go.Cx

def padB (l : List UInt8) : List UInt8 := l ++ List.replicate (60 - l.length) 0

set_option maxHeartbeats 400000 in
theorem cut_any {G : Nat → Prop} (v : Value) (l : List UInt8) (w : World) (h : RSl G w v l) :
    Calls Try.prog 9 #[v] w fun e w' => ∃ v, e = .returned v ∧ RSl G w v (l.take 1600) ∧ w = w' := by
  obtain ⟨ao, cap, rfl, hr⟩ := h.bytes
  have m0 : (0 : Int) ≤ min (l.length : Int) 1600 := by omega
  have m1 : min (l.length : Int) 1600 ≤ (cap : Int) := by have := hr.cle; omega
  have m2 : (min (l.length : Int) 1600).toNat = min l.length 1600 := by omega
  have hp := hr.front (m := min l.length 1600) (by omega)
  have hc := hr.cle
  by_cases hlt : (1600 : Int) < (l.length : Int)
  · have e1 : min l.length 1600 = 1600 := by omega
    rw [e1] at hp
    clear m0 m1 m2
    go_enter Try.func9, Try.ntmps9
    go_wp2
    go_ret
    refine ⟨_, rfl, RSl.of_bytes (by simp; omega) ?_, rfl⟩
    rw [show (l.take 1600).map bv = (l.map bv).take (1600 * 1) from by simp [List.map_take]]
    exact hp
  · clear m0 m1 m2
    go_enter Try.func9, Try.ntmps9
    go_wp2
    go_ret
    refine ⟨_, rfl, ?_, rfl⟩
    rw [List.take_of_length_le (by omega)]
    exact h

set_option maxHeartbeats 800000 in
theorem pad_any (v : Value) (l : List UInt8) (w : World) (h : RSl (fun b => b < w.heap.size) w v l) (hl : l.length ≤ 1073741824) :
    Calls Try.prog 18 #[v] w fun e w' => ∃ v, e = .returned v ∧ Own w' w.heap.size 5 v (padB l) ∧ Below w.heap.size w w' := by
  go_enter Try.func18, Try.ntmps18
  go_wp2_with fail
  refine (sclone_any v l w h (by omega)).mono ?_
  rintro e w1 ⟨v1, rfl, hown1, hb1⟩
  clear h
  go_wp2_with fail
  go_loopw [3] (fun o wr => ∃ j : Nat, (j = 0 ∨ l.length + j ≤ 60) ∧ Own wr w.heap.size 5 o (l ++ List.replicate j 0) ∧ Below w.heap.size w wr) (fun o _ => 60 - slen o)
  case atStart => exact ⟨0, .inl rfl, by simpa using hown1, hb1⟩
  case round =>
    obtain ⟨j, hj, hown, hb⟩ := hrel
    obtain ⟨oa, oc, rfl⟩ := hown.val
    have hbs := hb.size
    have hlen : (l ++ List.replicate j (0 : UInt8)).length = l.length + j := by simp
    rw [hlen] at hown ⊢
    have hval := hown.rsl
    obtain ⟨xa, xc, hxe, hxr⟩ := hval.bytes
    clear hval
    have hmx := hxr.cle
    have hmM := hxr.max
    unfold maxLen at hmM
    have hcap : l.length + j ≤ oc ∧ oc ≤ 9223372036854775807 := by
      simp only [Value.slice.injEq] at hxe
      omega
    clear hxr hmx hmM hxe hlen
    by_cases hlt : ((l.length + j : Nat) : Int) < 60
    · have hs1 : Srcs (α := UInt8) Try.prog (fun b => b < (wr.alloc (.cells #[.int .u8 0] 5)).heap.size ∧ some b ≠ (Value.slice oa (l.length + j) oc).ownBlock ∧ 0 ≤ b) (wr.alloc (.cells #[.int .u8 0] 5)) 24 (.slice (some ⟨wr.heap.size, 0, none⟩) 1 1) [0] :=
        srcs_one Try.underlying24 (heap_alloc_new wr _) rfl
      generalize hacc : l ++ List.replicate j (0 : UInt8) = acc at *
      have Hacc := Lib.hid hacc
      have ha : acc.length ≤ 137438953000 := by rw [← hacc]; simp; omega
      clear hacc
      go_wp2_with (at_builtin; refine wpList_append (α := UInt8) (base := w.heap.size) (ys := [0]) rfl rfl Try.underlying24 Try.infoU8 rfl rfl rfl (hown.alloc _) hs1 (by simp; omega) (by decide) (by simp; omega) ?go)
      intro v2 w2 hown2 hap2
      have hb2 : Below w.heap.size w w2 := (hb.alloc hbs _).grown hap2.by_ (by simp; omega) (fun j hj => (hown.lt j hj).1)
      obtain ⟨ra, rc, rfl⟩ := hown2.val
      go_wp2
      go_roundw
      case rel => exact ⟨j + 1, .inr (by omega), by rw [List.replicate_succ', ← List.append_assoc, Hacc.out]; exact hown2, hb2⟩
      case measure => 
        have : (acc ++ [0]).length = l.length + j + 1 := by rw [← Hacc.out]; simp; omega
        simp only [slen, this]
        omega
    · have hge : 60 ≤ ((l.length + j : Nat) : Int) := by omega
      have hfin : l ++ List.replicate j 0 = padB l := by
        rw [padB]
        congr 2
        rcases hj with rfl | hj <;> omega
      rw [hfin] at hown
      clear hfin
      go_wp2
      go_ret
      exact ⟨_, rfl, hown, hb⟩
end Go.Proofs.Ytbiohfcmjiadeaa
