/- conciergelaw04's law EtherEncodes: the walk. -/
import Derived.Test.YtbiohfcmjiadeaaEthL
import Derived.BigQuiet
namespace Go.Proofs.Ytbiohfcmjiadeaa
open Go.RowKit Go.Cx

set_option maxRecDepth 100000 in
set_option maxHeartbeats 1600000 in
theorem encodes_walk (e : Eth) (pv : Value) (w : World) (h : RSl (fun b => b < w.heap.size) w pv e.pay) :
    Calls Try.prog 3 #[ethV e pv] w fun r w' => r = .returned (.bool true) ∧ Below w.heap.size w w' := by
  have h0 : ∀ o, RSl (fun b => b < w.heap.size) (w.alloc o) pv e.pay := fun o => h.mono (fun _ hb => hb) (fun b hb => heap_alloc_old w o hb)
  have H0 := Lib.hid h0
  clear h0
  obtain ⟨d, s, t, pay⟩ := e
  obtain ⟨pa, pc, rfl, hpr⟩ := h.bytes
  simp only at hpr h H0 ⊢
  clear hpr h
  unfold ethV ethC
  simp only
  go_enter Try.func3, Try.ntmps3
  go_wp2_with fail
  refine (cut_any _ pay _ (H0.out _)).mono ?_
  rintro r w1 ⟨v1, rfl, hv1, rfl⟩
  obtain ⟨va, vc, rfl, hvr⟩ := hv1.bytes
  have hl : (pay.take 1600).length ≤ 1600 := by simp; omega
  have h1 : ∀ Z, RSl (fun b => b < (w.alloc (.cells Z 26)).heap.size) (w.alloc (.cells Z 26)) (.slice va (pay.take 1600).length vc) (pay.take 1600) := fun Z =>
    hv1.mono (fun b hb => by have hb' : b < w.heap.size := hb; simp; omega) (fun b hb => (heap_alloc_old w _ hb).trans (heap_alloc_old w _ hb).symm)
  generalize pay.take 1600 = p at *
  obtain ⟨E, hE⟩ : ∃ E : Eth, E = ⟨d, s, t, p⟩ := ⟨_, rfl⟩
  have H1 := Lib.hid (h1 (ethC E (.slice va p.length vc)))
  clear hvr h1 H0 hv1
  go_wp2_with fail
  have hp1 : p = E.pay := by rw [hE]
  have hV : ethV E (.slice va p.length vc) = .agg #[.int .u8 d.x0.toNat, .int .u8 d.x1.toNat, .int .u8 d.x2.toNat, .int .u8 d.x3.toNat, .int .u8 d.x4.toNat, .int .u8 d.x5.toNat, .int .u8 s.x0.toNat, .int .u8 s.x1.toNat, .int .u8 s.x2.toNat, .int .u8 s.x3.toNat, .int .u8 s.x4.toNat, .int .u8 s.x5.toNat, .int .i64 t, .slice va p.length vc] := by rw [hE]; rfl
  have hC : ethC E (.slice va p.length vc) = #[.int .u8 d.x0.toNat, .int .u8 d.x1.toNat, .int .u8 d.x2.toNat, .int .u8 d.x3.toNat, .int .u8 d.x4.toNat, .int .u8 d.x5.toNat, .int .u8 s.x0.toNat, .int .u8 s.x1.toNat, .int .u8 s.x2.toNat, .int .u8 s.x3.toNat, .int .u8 s.x4.toNat, .int .u8 s.x5.toNat, .int .i64 t, .slice va p.length vc] := by rw [hE]; rfl
  rw [← hV, ← hC]
  clear hV hC hE
  subst hp1
  obtain ⟨w2, hw2⟩ : ∃ w2, w2 = w.alloc (.cells (ethC E (.slice va E.pay.length vc)) 26) := ⟨_, rfl⟩
  have hg2 : w2.heap[w.heap.size]? = some (.cells (ethC E (.slice va E.pay.length vc)) 26 (0, 0)) := by rw [hw2]; exact heap_alloc_new w _
  have h2 : RSl (fun b => b < w2.heap.size) w2 (.slice va E.pay.length vc) E.pay := by rw [hw2]; exact H1.out
  have b2 : Below w.heap.size w w2 := by rw [hw2]; exact (Below.refl _ _).alloc (Nat.le_refl _) _
  rw [← hw2]
  have hs2 : w.heap.size < w2.heap.size := by rw [hw2]; simp
  clear hw2 H1
  refine (encode_any E _ w2 h2 (by omega)).mono ?_
  rintro r w3 ⟨v3, rfl, hv3, hb3⟩
  have hg3 := (hb3.block _ hs2).trans hg2
  have b3 : Below w.heap.size w w3 := b2.trans (hb3.mono b2.size)
  have h3 := h2.now hb3
  clear hg2
  go_wp2_with (refine wpList_load_row rfl 26 _ rfl w.heap.size rfl _ _ _ _ hg3 Try.underlying26 rfl Try.sizeEth ?_)
  refine (rencode_any E _ w3 h3 (by omega)).mono ?_
  rintro r w4 ⟨v4, rfl, hv4, hb4⟩
  have hg4 := (hb4.block _ (by have := hb3.size; omega)).trans hg3
  have b4 : Below w.heap.size w w4 := b3.trans (hb4.mono b3.size)
  have hx3 := hv3.rsl.now hb4
  have hx4 := hv4.rsl
  have HS : ∀ W, Below w4.heap.size w4 W → (W.cell? ⟨w.heap.size, 0, none⟩ = some (.int .u8 E.dst.x0.toNat) ∧ W.cell? ⟨w.heap.size, 1, none⟩ = some (.int .u8 E.dst.x1.toNat) ∧ W.cell? ⟨w.heap.size, 2, none⟩ = some (.int .u8 E.dst.x2.toNat) ∧ W.cell? ⟨w.heap.size, 3, none⟩ = some (.int .u8 E.dst.x3.toNat) ∧ W.cell? ⟨w.heap.size, 4, none⟩ = some (.int .u8 E.dst.x4.toNat) ∧ W.cell? ⟨w.heap.size, 5, none⟩ = some (.int .u8 E.dst.x5.toNat) ∧ W.cell? ⟨w.heap.size, 6, none⟩ = some (.int .u8 E.src.x0.toNat) ∧ W.cell? ⟨w.heap.size, 7, none⟩ = some (.int .u8 E.src.x1.toNat) ∧ W.cell? ⟨w.heap.size, 8, none⟩ = some (.int .u8 E.src.x2.toNat) ∧ W.cell? ⟨w.heap.size, 9, none⟩ = some (.int .u8 E.src.x3.toNat) ∧ W.cell? ⟨w.heap.size, 10, none⟩ = some (.int .u8 E.src.x4.toNat) ∧ W.cell? ⟨w.heap.size, 11, none⟩ = some (.int .u8 E.src.x5.toNat) ∧ W.cell? ⟨w.heap.size, 12, none⟩ = some (.int .i64 E.typ) ∧ W.cell? ⟨w.heap.size, 13, none⟩ = some (.slice va E.pay.length vc) ∧ (convert 24 9 v3).run Try.prog W = .ok (.string (str (encE E).1)) W ∧ (convert 24 9 v4).run Try.prog W = .ok (.string (str (encE E).1)) W) := by
    intro W hW
    have hg := (hW.block w.heap.size (by have := b4.size; have := hb4.size; have := hb3.size; omega)).trans hg4
    have c : ∀ j, W.cell? ⟨w.heap.size, j, none⟩ = (ethC E (.slice va E.pay.length vc))[j]? := fun j => cell_of_row W _ _ _ _ _ hg
    exact ⟨c 0, c 1, c 2, c 3, c 4, c 5, c 6, c 7, c 8, c 9, c 10, c 11, c 12, c 13,
      (hx3.now hW).conv Try.underlying24 Try.underlying5 Try.underlying9, (hx4.now hW).conv Try.underlying24 Try.underlying5 Try.underlying9⟩
  have HHS := Lib.hid HS
  have hS4 := HS w4 (Below.refl _ _)
  obtain ⟨c0, c1, c2, c3, c4, c5, c6, c7, c8, c9, c10, c11, c12, c13, k3, k4⟩ := HS w4.drew ((Below.refl _ _).drew)
  clear h2 h3 hg3 hv3 hv4 hb3 hb4 hx3 hx4 HS
  go_wp2_with fail
  go_region_held3 (fun W => W.cell? ⟨w.heap.size, 0, none⟩ = some (.int .u8 E.dst.x0.toNat) ∧ W.cell? ⟨w.heap.size, 1, none⟩ = some (.int .u8 E.dst.x1.toNat) ∧ W.cell? ⟨w.heap.size, 2, none⟩ = some (.int .u8 E.dst.x2.toNat) ∧ W.cell? ⟨w.heap.size, 3, none⟩ = some (.int .u8 E.dst.x3.toNat) ∧ W.cell? ⟨w.heap.size, 4, none⟩ = some (.int .u8 E.dst.x4.toNat) ∧ W.cell? ⟨w.heap.size, 5, none⟩ = some (.int .u8 E.dst.x5.toNat) ∧ W.cell? ⟨w.heap.size, 6, none⟩ = some (.int .u8 E.src.x0.toNat) ∧ W.cell? ⟨w.heap.size, 7, none⟩ = some (.int .u8 E.src.x1.toNat) ∧ W.cell? ⟨w.heap.size, 8, none⟩ = some (.int .u8 E.src.x2.toNat) ∧ W.cell? ⟨w.heap.size, 9, none⟩ = some (.int .u8 E.src.x3.toNat) ∧ W.cell? ⟨w.heap.size, 10, none⟩ = some (.int .u8 E.src.x4.toNat) ∧ W.cell? ⟨w.heap.size, 11, none⟩ = some (.int .u8 E.src.x5.toNat) ∧ W.cell? ⟨w.heap.size, 12, none⟩ = some (.int .i64 E.typ) ∧ W.cell? ⟨w.heap.size, 13, none⟩ = some (.slice va E.pay.length vc) ∧ (convert 24 9 v3).run Try.prog W = .ok (.string (str (encE E).1)) W ∧ (convert 24 9 v4).run Try.prog W = .ok (.string (str (encE E).1)) W)
    (first | go_keep | exact HHS.out _ b7 | exact HHS.out _ b6 | exact HHS.out _ b5)
    (first
      | (go_at_call 12; refine (check_any E va E.pay.length vc _ (by omega)).mono ?_; rintro r w5 ⟨rfl, hb5⟩; have b5 : Below w4.heap.size w4 w5 := (Below.refl _ _).drew.trans hb5)
      | (go_at_call 13; refine (rcheck_any E va E.pay.length vc _ (by omega)).mono ?_; rintro r w6 ⟨rfl, hb6⟩; have b6 : Below w4.heap.size w4 w6 := b5.trans (hb6.mono b5.size))
      | (go_at_call 14; refine (awake_any _).mono ?_; rintro r w7 ⟨rfl, hb7⟩; have b7 : Below w4.heap.size w4 w7 := b6.trans (hb7.mono b6.size)))
  go_wp2
  go_ret
  exact ⟨rfl, b4.trans (b7.mono b4.size)⟩
end Go.Proofs.Ytbiohfcmjiadeaa
