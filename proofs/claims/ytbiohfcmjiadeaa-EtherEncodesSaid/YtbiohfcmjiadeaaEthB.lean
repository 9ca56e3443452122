/- The walk of ether.Encode. No condition but a bound of length. -/
import Derived.Test.YtbiohfcmjiadeaaEthA
import Derived.StillTailTactics
import Derived.Deep.RegionHeld3
namespace Go.Proofs.Ytbiohfcmjiadeaa
open Go.RowKit Go.Cx

def ethB (e : Eth) : List UInt8 := e.dst.l ++ (e.src.l ++ (be 2 e.typ.toNat ++ e.pay))
def encE (e : Eth) : List UInt8 × Int := if chk e.typ e.pay.length = 0 then (ethB e, 0) else ([], chk e.typ e.pay.length)

theorem chk_ok {t : Int} {n : Nat} (h : chk t n = 0) : 1536 ≤ t ∧ t ≤ 65535 ∧ n ≤ 1500 := by
  unfold chk at h
  split at h
  · simp at h
  · split at h
    · simp at h
    · split at h
      · simp at h
      · omega

theorem chk_yes {t : Int} {n : Nat} (h : 1536 ≤ t ∧ t ≤ 65535 ∧ n ≤ 1500) : chk t n = 0 := by
  unfold chk
  rw [if_neg (by omega), if_neg (by omega), if_neg (by omega)]

/-- What lies in the block of a boxed frame. -/
theorem eth_dst {w : World} {g : Nat} {e : Eth} {pv : Value} {t : TypeId} (hg : w.heap[g]? = some (.cells (ethC e pv) t (0, 0))) : ∀ j u, (e.dst.l.map bv)[j]? = some u → w.cell? ⟨g, 0 + j, none⟩ = some u := by
  intro j u hj
  rw [cell_of_row w g _ _ _ _ hg]
  have : j < 6 := by have := (List.getElem?_eq_some_iff.1 hj).1; simpa [Mac.l] using this
  match j, this with
  | 0, _ => exact hj
  | 1, _ => exact hj
  | 2, _ => exact hj
  | 3, _ => exact hj
  | 4, _ => exact hj
  | 5, _ => exact hj

theorem eth_src {w : World} {g : Nat} {e : Eth} {pv : Value} {t : TypeId} (hg : w.heap[g]? = some (.cells (ethC e pv) t (0, 0))) : ∀ j u, (e.src.l.map bv)[j]? = some u → w.cell? ⟨g, 6 + j, none⟩ = some u := by
  intro j u hj
  rw [cell_of_row w g _ _ _ _ hg]
  have : j < 6 := by have := (List.getElem?_eq_some_iff.1 hj).1; simpa [Mac.l] using this
  match j, this with
  | 0, _ => exact hj
  | 1, _ => exact hj
  | 2, _ => exact hj
  | 3, _ => exact hj
  | 4, _ => exact hj
  | 5, _ => exact hj

theorem _root_.Go.Cx.Own.base {α : Type} [Rep α] {w : World} {base base' lo : Nat} {e : TypeId} {v : Value} {xs : List α} (h : Own w base e v xs lo) (hb : base' ≤ base) : Own w base' e v xs lo := by
  obtain ⟨cells, ⟨hl, ho⟩, ha⟩ := h
  refine ⟨cells, ⟨hl, ?_⟩, ha⟩
  rcases ho with h0 | ⟨g, cap, cur, h1, h2, h3⟩
  · exact .inl h0
  · exact .inr ⟨g, cap, cur, h1, Nat.le_trans hb h2, h3⟩

theorem rall4 {G : Nat → Prop} {w : World} {v0 v1 v2 v3 : Value} {l0 l1 l2 l3 : List UInt8} (r0 : RSl G w v0 l0) (r1 : RSl G w v1 l1) (r2 : RSl G w v2 l2) (r3 : RSl G w v3 l3) : RAll G w [v0, v1, v2, v3] [l0, l1, l2, l3] :=
  ⟨[v0], [v1, v2, v3], rfl, ⟨v0, rfl, r0⟩, [v1], [v2, v3], rfl, ⟨v1, rfl, r1⟩, [v2], [v3], rfl, ⟨v2, rfl, r2⟩, [v3], [], rfl, ⟨v3, rfl, r3⟩, rfl⟩

/-- The row of four texts that Encode hands to Concat. -/
theorem eth_rows {W : World} {g : Nat} {e : Eth} {pv v2 : Value} {l2 : List UInt8} {t t2 : TypeId} (hg : W.heap[g]? = some (.cells (ethC e pv) t (0, 0))) (h2 : RSl (fun b => b < W.heap.size) W v2 l2)
    (h3 : RSl (fun b => b < W.heap.size) W pv e.pay) :
    RSl (fun b => b < (W.alloc (.cells #[.slice (some ⟨g, 0, none⟩) 6 6, .slice (some ⟨g, 6, none⟩) 6 6, v2, pv] t2)).heap.size) (W.alloc (.cells #[.slice (some ⟨g, 0, none⟩) 6 6, .slice (some ⟨g, 6, none⟩) 6 6, v2, pv] t2))
      (.slice (some ⟨W.heap.size, 0, none⟩) 4 4) [e.dst.l, e.src.l, l2, e.pay] := by
  have hlt : g < W.heap.size := (Array.getElem?_eq_some_iff.1 hg).1
  have up : ∀ o, RSl (fun b => b < W.heap.size) W v2 l2 → RSl (fun b => b < (W.alloc o).heap.size) (W.alloc o) v2 l2 := fun o h => h.mono (fun b hb => by have : b < W.heap.size := hb; simp; omega) (fun b hb => heap_alloc_old W o hb)
  have up3 : ∀ o, RSl (fun b => b < W.heap.size) W pv e.pay → RSl (fun b => b < (W.alloc o).heap.size) (W.alloc o) pv e.pay := fun o h => h.mono (fun b hb => by have : b < W.heap.size := hb; simp; omega) (fun b hb => heap_alloc_old W o hb)
  have hg' : ∀ o, (W.alloc o).heap[g]? = some (.cells (ethC e pv) t (0, 0)) := fun o => (heap_alloc_old W o hlt).trans hg
  refine rsl_whole (heap_alloc_new W _) (rall4 ?_ ?_ (up _ h2) (up3 _ h3)) rfl (by unfold maxLen; omega) (by simp)
  · exact RSl.of_bytes rfl ⟨by simp [Mac.l], Nat.le_refl _, by unfold maxLen; omega, bv_one _, .inr ⟨g, 0, rfl, by simp; omega, eth_dst (hg' _)⟩⟩
  · exact RSl.of_bytes rfl ⟨by simp [Mac.l], Nat.le_refl _, by unfold maxLen; omega, bv_one _, .inr ⟨g, 6, rfl, by simp; omega, eth_src (hg' _)⟩⟩

set_option maxRecDepth 100000 in
set_option maxHeartbeats 1600000 in
theorem encode_any (e : Eth) (pv : Value) (w : World) (h : RSl (fun b => b < w.heap.size) w pv e.pay) (hl : e.pay.length ≤ 1073741824) :
    Calls Try.prog 10 #[ethV e pv] w fun r w' => ∃ v, r = .returned (.tuple #[v, .int .i64 (encE e).2]) ∧ Own w' w.heap.size 5 v (encE e).1 ∧ Below w.heap.size w w' := by
  obtain ⟨pa, pc, rfl, hr⟩ := h.bytes
  have hM := hr.max
  have hc := hr.cle
  unfold maxLen at hM
  by_cases hk : chk e.typ e.pay.length = 0
  · have hk' := chk_ok hk
    have he : encE e = (ethB e, 0) := by rw [encE, if_pos hk]
    rw [he]
    obtain ⟨d, s, typ, pay⟩ := e
    simp only at hk' hk hr h hl hc
    obtain ⟨t, rfl⟩ := Int.eq_ofNat_of_zero_le (show 0 ≤ typ by omega)
    unfold ethV ethC
    simp only
    go_enter Try.func10, Try.ntmps10
    go_wp2_with (go_at_call 12; refine (check_any ⟨d, s, t, pay⟩ pa pay.length pc _ (by omega)).mono ?_; rintro r w1 ⟨rfl, hb1⟩)
    have hg1 : w1.heap[w.heap.size]? = some (.cells (ethC ⟨d, s, t, pay⟩ (.slice pa pay.length pc)) 26 (0, 0)) := (hb1.block _ (by simp)).trans (heap_alloc_new w _)
    have b1 : Below w.heap.size w w1 := ((Below.refl _ _).alloc (Nat.le_refl _) _).trans (hb1.mono (by simp))
    have s1 : w.heap.size + 1 ≤ w1.heap.size := by have := hb1.size; simpa using this
    clear hb1
    have HS : ∀ W, Below w1.heap.size w1 W → W.cell? ⟨w.heap.size, 12, none⟩ = some (.int .i64 t) ∧ W.cell? ⟨w.heap.size, 13, none⟩ = some (.slice pa pay.length pc) ∧ W.heap[w.heap.size]? = some (.cells (ethC ⟨d, s, t, pay⟩ (.slice pa pay.length pc)) 26 (0, 0)) := by
      intro W hW
      have h0 := (hW.block w.heap.size (by omega)).trans hg1
      exact ⟨by rw [cell_of_row W _ _ _ _ _ h0]; rfl, by rw [cell_of_row W _ _ _ _ _ h0]; rfl, h0⟩
    obtain ⟨c12, c13, _⟩ := HS w1 (Below.refl _ _)
    have HHS := Lib.hid HS
    have hpay := Lib.hid (h.now b1)
    clear HS hg1
    have wr1 : IntKind.u64.wrap (t : Int) = t := by rw [IntKind.wrap_u64]; omega
    go_region_held3 (fun W => W.cell? ⟨w.heap.size, 12, none⟩ = some (.int .i64 t) ∧ W.cell? ⟨w.heap.size, 13, none⟩ = some (.slice pa pay.length pc))
      (first | go_keep | exact ⟨(HHS.out _ b2).1, (HHS.out _ b2).2.1⟩ | exact ⟨(HHS.out _ b3).1, (HHS.out _ b3).2.1⟩)
      (first
        | (go_at_call 23; refine (put_any t 2 _ (by omega) (by omega)).mono ?_; rintro r w2 ⟨v2, rfl, hv2, hb2⟩; obtain ⟨a2, q2, rfl, hv3⟩ := hv2.bytes; rw [be_length] at hv2 hv3 ⊢; have b2 : Below w1.heap.size w1 w2 := (Below.refl _ w1).drew.trans hb2)
        | (go_at_call 22; refine (concat_any _ [d.l, s.l, be 2 t, pay] _ (eth_rows (e := ⟨d, s, t, pay⟩) (HHS.out _ b2).2.2 hv2.old (hpay.out.now b2)) (by simp [Mac.l, be_length]; omega)).mono ?_; rintro r w3 ⟨v3, rfl, hown3, hb3⟩; have b3 : Below w1.heap.size w1 w3 := (b2.alloc b2.size _).trans (hb3.mono (by have := b2.size; simp; omega))))
    have hb13 : Below w.heap.size w w3 := b1.trans (b3.mono b1.size)
    have hown4 : Own w3 w.heap.size 5 v3 (ethB ⟨d, s, t, pay⟩) := by
      have h1 := hown3.base (base' := w.heap.size) (by have := b2.size; simp; omega)
      simpa [ethB, Mac.l] using h1
    clear hown3 hb3 b2 hv2 hb2 c12 c13
    go_wp2
    go_ret2
    exact ⟨_, rfl, hown4, hb13⟩
  · have he : encE e = ([], chk e.typ e.pay.length) := by rw [encE, if_neg hk]
    rw [he]
    have hk1 : (chk e.typ e.pay.length != 0) = true := by simpa using hk
    have hk2 : ¬ chk e.typ e.pay.length = 0 := hk
    unfold ethV ethC
    go_enter Try.func10, Try.ntmps10
    go_wp2_with (go_at_call 12; refine (check_any e pa e.pay.length pc _ (by omega)).mono ?_; rintro r w1 ⟨rfl, hb1⟩)
    go_ret2
    exact ⟨_, rfl, Own.nil _ _ _, ((Below.refl _ _).alloc (Nat.le_refl _) _).trans (hb1.mono (by simp))⟩
end Go.Proofs.Ytbiohfcmjiadeaa
