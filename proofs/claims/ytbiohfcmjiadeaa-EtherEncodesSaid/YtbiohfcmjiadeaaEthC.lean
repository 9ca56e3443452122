/- The walk of the reference's Encode. No condition but a bound of length. -/
import Derived.Test.YtbiohfcmjiadeaaEthB
namespace Go.Proofs.Ytbiohfcmjiadeaa
open Go.RowKit Go.Cx

theorem two_bytes (t : Nat) (h : t ≤ 65535) : (be 2 t).map bv = [.int .u8 ((t : Int) / 256), .int .u8 ((t : Int) % 256)] := by
  simp [be, List.range_succ, bv]
  omega

set_option maxRecDepth 100000 in
set_option maxHeartbeats 1600000 in
theorem rencode_any (e : Eth) (pv : Value) (w : World) (h : RSl (fun b => b < w.heap.size) w pv e.pay) (hl : e.pay.length ≤ 1073741824) :
    Calls Try.prog 11 #[ethV e pv] w fun r w' => ∃ v, r = .returned (.tuple #[v, .int .i64 (encE e).2]) ∧ Own w' w.heap.size 5 v (encE e).1 ∧ Below w.heap.size w w' := by
  obtain ⟨pa, pc, rfl, hr⟩ := h.bytes
  have hM := hr.max
  have hc := hr.cle
  unfold maxLen at hM
  by_cases hk : chk e.typ e.pay.length = 0
  · have hk' := chk_ok hk
    have he : encE e = (ethB e, 0) := by rw [encE, if_pos hk]
    rw [he]
    obtain ⟨d, s, typ, pay⟩ := e
    simp only at hk' hk hr h hl hc
    obtain ⟨t, rfl⟩ := Int.eq_ofNat_of_zero_le (show 0 ≤ typ by omega)
    unfold ethV ethC
    simp only
    go_enter Try.func11, Try.ntmps11
    go_wp2_with fail
    refine (rcheck_any ⟨d, s, t, pay⟩ pa pay.length pc _ (by omega)).mono ?_
    rintro r w1 ⟨rfl, hb1⟩
    have hg1 : w1.heap[w.heap.size]? = some (.cells (ethC ⟨d, s, t, pay⟩ (.slice pa pay.length pc)) 26 (0, 0)) := (hb1.block _ (by simp)).trans (heap_alloc_new w _)
    have b1 : Below w.heap.size w w1 := ((Below.refl _ _).alloc (Nat.le_refl _) _).trans (hb1.mono (by simp))
    have s1 : w.heap.size + 1 ≤ w1.heap.size := by have := hb1.size; simpa using this
    clear hb1
    have HS : ∀ W, Below w1.heap.size w1 W → W.cell? ⟨w.heap.size, 12, none⟩ = some (.int .i64 t) ∧ W.cell? ⟨w.heap.size, 13, none⟩ = some (.slice pa pay.length pc) ∧ W.heap[w.heap.size]? = some (.cells (ethC ⟨d, s, t, pay⟩ (.slice pa pay.length pc)) 26 (0, 0)) := by
      intro W hW
      have h0 := (hW.block w.heap.size (by omega)).trans hg1
      exact ⟨by rw [cell_of_row W _ _ _ _ _ h0]; rfl, by rw [cell_of_row W _ _ _ _ _ h0]; rfl, h0⟩
    have HHS := Lib.hid HS
    have hpay := Lib.hid (h.now b1)
    clear HS hg1 h hr
    have sd : ∀ G W, Below w1.heap.size w1 W → Srcs (α := UInt8) Try.prog G W 24 (.slice (some ⟨w.heap.size, 0, none⟩) 6 6) d.l := fun G W hW => srcs_bytes Try.underlying24 (by simp [Mac.l]) (eth_dst (HHS.out W hW).2.2)
    have ss : ∀ G W, Below w1.heap.size w1 W → Srcs (α := UInt8) Try.prog G W 24 (.slice (some ⟨w.heap.size, 6, none⟩) 6 6) s.l := fun G W hW => srcs_bytes Try.underlying24 (by simp [Mac.l]) (eth_src (HHS.out W hW).2.2)
    have Sd := Lib.hid sd
    have Ss := Lib.hid ss
    clear sd ss
    have e1 : Below w1.heap.size w1 (w1.alloc (.cells #[] 5)) := (Below.refl _ _).alloc (Nat.le_refl _) _
    go_wp2_with (at_builtin; refine wpList_append (α := UInt8) (base := w1.heap.size) (lo := 0) (xs := []) (ys := d.l) rfl rfl Try.underlying24 Try.infoU8 rfl rfl rfl (Own.empty (heap_at_new rfl) (Nat.le_refl _)) (Sd.out _ _ e1) (by simp [Mac.l]) (by decide) (by simp) ?go1)
    intro v2 w2 hown2 hap2
    have b2 : Below w1.heap.size w1 w2 := e1.grown hap2.by_ (by simp) (by simp [Value.ownBlock])
    go_wp2_with (at_builtin; refine wpList_append (α := UInt8) (base := w1.heap.size) (ys := s.l) rfl rfl Try.underlying24 Try.infoU8 rfl rfl rfl hown2 (Ss.out _ _ b2) (by simp [Mac.l]) (by decide) b2.size ?go2)
    intro v3 w3 hown3 hap3
    have b3 : Below w1.heap.size w1 w3 := b2.grown hap3.by_ b2.size (fun j hj => (hown2.lt j hj).1)
    clear hown2 hap2 hap3
    obtain ⟨c12, c13, _⟩ := HHS.out w3 b3
    have hb2 := two_bytes t (by omega)
    have hs2 : Srcs (α := UInt8) Try.prog (fun b => b < (w3.alloc (.cells #[.int .u8 ((t : Int) / 256), .int .u8 ((t : Int) % 256)] 5)).heap.size ∧ some b ≠ v3.ownBlock ∧ 0 ≤ b) (w3.alloc (.cells #[.int .u8 ((t : Int) / 256), .int .u8 ((t : Int) % 256)] 5)) 24 (.slice (some ⟨w3.heap.size, 0, none⟩) 2 2) (be 2 t) := by
      refine srcs_bytes Try.underlying24 (by rw [be_length]) ?_
      intro j u hj
      rw [hb2] at hj
      rw [Nat.zero_add, cell_of_row _ _ _ _ _ _ (heap_alloc_new w3 _)]
      simpa using hj
    clear hb2
    go_wp2_with (at_builtin; refine wpList_append (α := UInt8) (base := w1.heap.size) (ys := be 2 t) rfl rfl Try.underlying24 Try.infoU8 rfl rfl rfl (hown3.alloc _) hs2 (by simp [Mac.l, be_length]) (by decide) (by have := b3.size; simp; omega) ?go3)
    intro v4 w4 hown4 hap4
    have b4 : Below w1.heap.size w1 w4 := (b3.alloc b3.size _).grown hap4.by_ (by have := b3.size; simp; omega) (fun j hj => (hown3.lt j hj).1)
    clear hs2 hown3 hap4 c12 c13
    obtain ⟨c12, c13, _⟩ := HHS.out w4 b4
    have hp4 := hpay.out.now b4
    go_wp2_with (at_builtin; refine wpList_append (α := UInt8) (base := w1.heap.size) (ys := pay) rfl rfl Try.underlying24 Try.infoU8 rfl rfl rfl hown4 (hp4.srcsB Try.underlying24) (by simp [Mac.l, be_length]; omega) (by decide) b4.size ?go4)
    intro v5 w5 hown5 hap5
    have b5 : Below w1.heap.size w1 w5 := b4.grown hap5.by_ b4.size (fun j hj => (hown4.lt j hj).1)
    have hown6 : Own w5 w.heap.size 5 v5 (ethB ⟨d, s, t, pay⟩) := by
      have h1 := hown5.base (base' := w.heap.size) (by omega)
      simpa [ethB, Mac.l] using h1
    have hb15 : Below w.heap.size w w5 := b1.trans (b5.mono b1.size)
    clear hown4 hown5 hap5 hp4 c12 c13
    go_wp2
    go_ret2
    exact ⟨_, rfl, hown6, hb15⟩
  · have he : encE e = ([], chk e.typ e.pay.length) := by rw [encE, if_neg hk]
    rw [he]
    have hk1 : (chk e.typ e.pay.length != 0) = true := by simpa using hk
    have hk2 : ¬ chk e.typ e.pay.length = 0 := hk
    unfold ethV ethC
    go_enter Try.func11, Try.ntmps11
    go_wp2_with (go_at_call 13; refine (rcheck_any e pa e.pay.length pc _ (by omega)).mono ?_; rintro r w1 ⟨rfl, hb1⟩)
    go_ret2
    exact ⟨_, rfl, Own.nil _ _ _, ((Below.refl _ _).alloc (Nat.le_refl _) _).trans (hb1.mono (by simp))⟩
end Go.Proofs.Ytbiohfcmjiadeaa
