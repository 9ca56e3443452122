/- conciergelaw05's laws: the walks. -/
import Derived.Test.YtminoakdilbokaaTagsL
namespace Go.Proofs.Ytminoakdilbokaa
open Go.RowKit Go.Cx

set_option maxRecDepth 100000 in
set_option maxHeartbeats 800000 in
theorem encodes_walk (v : Value) (ts : List Tag) (w : World) (h : RSl (fun b => b < w.heap.size) w v ts) :
    Calls Try.prog 3 #[v] w fun e w' => e = .returned (.bool true) ∧ Below w.heap.size w w' := by
  go_enter Try.func3, Try.ntmps3
  go_wp2_with fail
  refine (few_any v ts w h).mono ?_
  rintro e w1 ⟨v1, rfl, hv1, b1⟩
  go_wp2_with fail
  refine (encode_any v1 (few ts) w1 hv1).mono ?_
  rintro e w2 ⟨v2, rfl, hv2, hb2⟩
  have b2 : Below w.heap.size w w2 := b1.trans (hb2.mono b1.size)
  go_wp2_with fail
  refine (rencode_any v1 (few ts) w2 (hv1.now hb2)).mono ?_
  rintro e w3 ⟨v3, rfl, hv3, hb3⟩
  have b3 : Below w.heap.size w w3 := b2.trans (hb3.mono b2.size)
  have q1 := (hv2.rsl.now hb3).conv (P := Try.prog) (dst := 9) Try.underlying24 Try.underlying5 Try.underlying9
  have q2 := hv3.rsl.conv (P := Try.prog) (dst := 9) Try.underlying24 Try.underlying5 Try.underlying9
  clear hv1 hv2 hv3 hb2 hb3 h
  generalize str (enc (few ts)).1 = s at *
  generalize (enc (few ts)).2 = n at *
  go_wp2_with (go_at_call 12; refine (awake_any _).mono ?_; rintro e w4 ⟨rfl, hb4⟩)
  go_ret
  exact ⟨rfl, b3.trans (hb4.mono b3.size)⟩
end Go.Proofs.Ytminoakdilbokaa
