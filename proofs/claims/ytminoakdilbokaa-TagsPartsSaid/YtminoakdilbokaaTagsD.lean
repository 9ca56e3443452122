/- The walk of tags.Decode and of what it calls. -/
import Derived.Test.YtminoakdilbokaaTagsA
import Derived.Deep.RegionWith
namespace Go.Proofs.Ytminoakdilbokaa
open Go.RowKit Go.Cx

set_option maxHeartbeats 400000 in
theorem number_any (v : Value) (l : List UInt8) (k : Nat) (w : World) (h : RSl (fun _ => True) w v l) (hk : k + 1 < l.length) :
    Calls Try.prog 27 #[v, .int .i64 k] w fun e w' => e = .returned (.int .i64 (256 * (l[k]'(by omega)).toNat + l[k + 1].toNat : Nat)) ∧ Below w.heap.size w w' := by
  obtain ⟨ao, cap, rfl, hr⟩ := h.bytes
  rcases hr.at_ with ⟨h0, _⟩ | ⟨b, off, rfl, _, hc⟩
  · omega
  have c1 : w.cell? ⟨b, off + k, none⟩ = some (.int .u8 ((l[k]'(by omega)).toNat : Int)) := hc k _ (by rw [List.getElem?_map, List.getElem?_eq_getElem (by omega)]; rfl)
  have c2 : w.cell? ⟨b, off + (k + 1), none⟩ = some (.int .u8 (l[k + 1].toNat : Int)) := hc (k + 1) _ (by rw [List.getElem?_map, List.getElem?_eq_getElem (by omega)]; rfl)
  have hM := hr.max
  have hcl := hr.cle
  unfold maxLen at hM
  have k1 : (k : Int) < (l.length : Int) := by omega
  have k2 : (k : Int) + 1 < (l.length : Int) := by omega
  have k3 : IntKind.i64.wrap ((k : Int) + 1) = (k : Int) + 1 := IntWalk.i64_in _ (by omega)
  have k4 : ((k : Int) + 1).toNat = k + 1 := by omega
  have k5 : 0 ≤ (k : Int) + 1 := by omega
  generalize (l[k]'(by omega)) = x at *
  generalize l[k + 1] = y at *
  have x1 := x.toNat_lt
  have y1 := y.toNat_lt
  have w1 : IntKind.i64.wrap (x.toNat : Int) = (x.toNat : Int) := IntWalk.i64_in _ (by omega)
  have w2 : IntKind.i64.wrap (y.toNat : Int) = (y.toNat : Int) := IntWalk.i64_in _ (by omega)
  have w3 : IntKind.i64.wrap ((x.toNat : Int) * 256) = (x.toNat : Int) * 256 := IntWalk.i64_in _ (by omega)
  clear hc h hr
  go_enter Try.func27, Try.ntmps27
  go_wp2_with fail
  go_quiet (fail)
  go_wp2
  go_ret
  refine ⟨?_, below_drewN (Below.refl _ _) _⟩
  rw [← or256 x y]
  rfl
end Go.Proofs.Ytminoakdilbokaa
