/- The walk of the example at the head of each law. No condition. -/
import Derived.Test.YtbiohfcmjiadeaaEthF
import Derived.Lib.SlBytesConst
namespace Go.Proofs.Ytbiohfcmjiadeaa
open Go.RowKit Go.Cx

def ethA : Eth := ⟨⟨0, 0, 0, 0, 0, 0⟩, ⟨0, 0, 0, 0, 0, 0⟩, 34915, [97, 98, 99, 100]⟩
def bytesA : List UInt8 := [0, 0, 0, 0, 0, 0, 0, 0, 0, 0, 0, 0, 136, 99, 97, 98, 99, 100]
theorem enc_A : encE ethA = (bytesA, 0) := by decide +kernel
theorem dec_A : decE bytesA = (ethA, 0) := by
  show okE _ = _
  rw [okE, if_pos (by decide +kernel)]
  rfl

set_option maxRecDepth 100000 in
set_option maxHeartbeats 1600000 in
theorem awake_any (w : World) : Calls Try.prog 14 #[] w fun e w' => e = .returned (.bool true) ∧ Below w.heap.size w w' := by
  have kc := fun (w : World) (C : Array Value) (n c : Nat) => Lib.run_convert_bytes_const (P := Try.prog) w 24 5 C n c Try.underlying24 Try.underlying5
  go_enter Try.func14, Try.ntmps14
  go_wp2_with fail
  have hp : RSl (fun b => b < (w.alloc (.cells #[.int .u8 97, .int .u8 98, .int .u8 99, .int .u8 100] 5 (4, 5))).heap.size) (w.alloc (.cells #[.int .u8 97, .int .u8 98, .int .u8 99, .int .u8 100] 5 (4, 5))) (.slice (some ⟨w.heap.size, 0, none⟩) 4 4) ethA.pay :=
    rsl_block (heap_alloc_new w _) rfl rfl (by decide) (by decide) (by simp)
  refine (encode_any ethA _ _ hp (by decide)).mono ?_
  rintro e w1 ⟨vb, rfl, hvb, hb1⟩
  rw [enc_A] at hvb ⊢
  simp only at hvb ⊢
  have b1 : Below w.heap.size w w1 := ((Below.refl _ _).alloc (Nat.le_refl _) _).trans (hb1.mono (by simp))
  clear hp hb1
  go_wp2_with fail
  refine (decode_any vb bytesA w1 hvb.rsl (by decide)).mono ?_
  rintro e w2 ⟨pv, rfl, hpv, hb2⟩
  rw [dec_A] at hpv ⊢
  simp only at hpv ⊢
  have b2 : Below w.heap.size w w2 := b1.trans (hb2.mono b1.size)
  have hx := hvb.rsl.now hb2
  clear hvb hb2
  have hq := hpv.rsl
  clear hpv
  obtain ⟨pa, pc, rfl, hpr⟩ := hq.bytes
  obtain ⟨ba, bc, rfl, hbr⟩ := hx.bytes
  have hcle := hbr.cle
  have hpcl := hpr.cle
  rcases hbr.at_ with ⟨h0, _⟩ | ⟨b, off, rfl, hgb, hcc⟩
  · exact absurd h0 (by decide)
  have c12 : w2.cell? ⟨b, off + 12, none⟩ = some (.int .u8 136) := hcc 12 _ rfl
  have hcv := fun Z => (RowAt.mono (G' := fun _ => True) (w' := w2.alloc (.cells Z 26)) (fun _ _ => trivial) (fun k hk => heap_alloc_old w2 _ hk) hpr).conv (P := Try.prog) Try.underlying24 Try.underlying5 Try.underlying9 rfl
  have hxn := fun Z => hx.now ((Below.refl w2.heap.size w2).alloc (Nat.le_refl _) (.cells Z 26))
  have b3 := fun Z => b2.alloc b2.size (.cells Z 26)
  have e1 : ethA.pay.length = 4 := rfl
  have e2 : bytesA.length = 18 := rfl
  have e3 : str ethA.pay = ⟨#[97, 98, 99, 100]⟩ := rfl
  have B3 := Lib.hid b3
  have Hxn := Lib.hid hxn
  rw [e1] at hcv hpcl
  rw [e2] at hcle
  rw [e3] at hcv
  rw [e2] at Hxn
  rw [e1, e2]
  clear hbr hcc hpr hq hx b3 hxn e1 e2 e3
  unfold ethV ethC ethA
  simp only
  have h60 : (padB bytesA).length = 60 := by decide +kernel
  go_wp2_with fail
  refine (pad_any _ bytesA _ (Hxn.out _) (by decide)).mono ?_
  rintro e w3 ⟨v3, rfl, hown3, hb3⟩
  have b4 := (B3.out _).trans (hb3.mono (B3.out _).size)
  obtain ⟨va, vc, rfl⟩ := hown3.val
  rw [h60] at *
  clear hown3 hb3
  go_wp2
  go_ret
  exact ⟨rfl, b4⟩
end Go.Proofs.Ytbiohfcmjiadeaa
