/- The walk of the reference's Same and SameBytes. -/
import Derived.Test.YtminoakdilbokaaTagsA
namespace Go.Proofs.Ytminoakdilbokaa
open Go.RowKit Go.Cx

set_option maxRecDepth 100000 in
set_option maxHeartbeats 1600000 in
theorem same_yes (va vb : Value) (ts : List Tag) (w : World) (h : RSl (fun _ => True) w va ts) (h' : RSl (fun _ => True) w vb ts) :
    Calls Try.prog 16 #[va, vb] w fun e w' => e = .returned (.bool true) ∧ Below w.heap.size w w' := by
  obtain ⟨aa, ca, ka, rfl, hra, haa⟩ := h
  obtain ⟨ab, cb, kb, rfl, hrb, hab⟩ := h'
  have hm := hra.cle
  have hM := hra.max
  unfold maxLen at hM
  go_enter Try.func16, Try.ntmps16
  go_wp2
  go_loopw [5] (fun i wr => ∃ (k nn : Nat), k ≤ ts.length ∧ i = .int .i64 k ∧ wr = w.drewN nn) (fun i _ => ts.length - (intOf i).toNat)
  case atStart => exact ⟨0, 0, by omega, rfl, rfl⟩
  case round =>
    obtain ⟨k, nn, hk, rfl, rfl⟩ := hrel
    by_cases hlt : k < ts.length
    · obtain ⟨vo, n, vc, h1, h2, hn, h3, h4⟩ := RAll.tag haa hlt
      obtain ⟨xo, m, xc, g1, g2, gn, g3, g4⟩ := RAll.tag hab hlt
      rcases hra.at_ with ⟨h0, _⟩ | ⟨b, off, rfl, _, hc⟩
      · omega
      rcases hrb.at_ with ⟨h0, _⟩ | ⟨b', off', rfl, _, hc'⟩
      · omega
      have c1 : w.cell? ⟨b, off + k * 2, none⟩ = some (.int .i64 ts[k].typ) := hc _ _ h1
      have c2 : w.cell? ⟨b, off + k * 2 + 1, none⟩ = some (.slice vo n vc) := by rw [Nat.add_assoc]; exact hc _ _ h2
      have c3 : w.cell? ⟨b', off' + k * 2, none⟩ = some (.int .i64 ts[k].typ) := hc' _ _ g1
      have c4 : w.cell? ⟨b', off' + k * 2 + 1, none⟩ = some (.slice xo m xc) := by rw [Nat.add_assoc]; exact hc' _ _ g2
      have v1 := fun q => RowAt.conv (P := Try.prog) Try.underlying24 Try.underlying5 Try.underlying9 hn.symm (h4.drewN q)
      have v2 := fun q => RowAt.conv (P := Try.prog) Try.underlying24 Try.underlying5 Try.underlying9 gn.symm (g4.drewN q)
      have k0 : (0 : Int) ≤ (k : Int) := by omega
      have k1 : (k : Int) < (ts.length : Int) := by omega
      clear hn gn h1 h2 g1 g2 h4 g4 hc hc' haa hab
      generalize ts[k].typ = ty at *
      generalize str ts[k].val = sx at *
      have ty0 : (ty != ty) = false := by simp
      go_wp2_with fail
      go_quiet (fail)
      go_wp2
      go_roundw
      case rel => exact ⟨k + 1, nn + nq, by omega, by go_num, rfl⟩
      case measure => simp [intOf]; omega
    · go_wp2
      go_ret
      exact ⟨rfl, below_drewN (Below.refl _ _) _⟩
end Go.Proofs.Ytminoakdilbokaa
