/- The walk of the reference's Encode. -/
import Derived.Test.YtminoakdilbokaaTagsA
import Derived.Deep.RegionWith
set_option linter.unusedSectionVars false
set_option linter.unusedVariables false
set_option linter.unusedSimpArgs false
set_option linter.deprecated false
namespace Go.Proofs.Ytminoakdilbokaa.Raw
open Go.RowKit Go.Cx

set_option maxRecDepth 100000 in
set_option maxHeartbeats 1600000 in
theorem rencode_any (v : Value) (ts : List Tag) (w : World) (h : RSl (fun b => b < w.heap.size) w v ts) :
    Calls Try.prog 11 #[v] w fun e w' => ∃ v, e = .returned (.tuple #[v, .int .i64 (enc ts).2]) ∧ Own w' w.heap.size 5 v (enc ts).1 ∧ Below w.heap.size w w' := by
  obtain ⟨ao, cap, cells, rfl, hr, ha⟩ := h
  have hm := hr.cle
  have hM := hr.max
  unfold maxLen at hM
  by_cases h64 : (64 : Int) < (ts.length : Int)
  · go_enter Try.func11, Try.ntmps11
    go_wp2
    go_ret2
    have he : enc ts = ([], 3) := by rw [enc, if_pos (by omega)]
    exact ⟨.slice none 0 0, by rw [he]; rfl, by rw [he]; exact Own.nil _ _ _, Below.refl _ _⟩
  · go_enter Try.func11, Try.ntmps11
    go_wp2
    go_loopw [4, 5] (fun v i wr => ∃ k : Nat, k ≤ ts.length ∧ i = .int .i64 k ∧ Own wr w.heap.size 5 v (encAll (ts.take k)) ∧ (ts.take k).all okTag = true ∧ Below w.heap.size w wr) (fun _ i _ => 64 - (intOf i).toNat)
    case atStart => exact ⟨0, by omega, rfl, Own.nil _ _ _, rfl, Below.refl _ _⟩
    case round =>
      obtain ⟨k, hk, rfl, hown, hall, hb⟩ := hrel
      have hl := encAll_le _ hall
      have hl2 : (ts.take k).length ≤ 64 := by simp; omega
      have hlen : (encAll (ts.take k)).length ≤ 4194496 := Nat.le_trans hl (Nat.mul_le_mul_right _ hl2)
      have Hall := Lib.hid hall
      clear hl hl2 hall
      have hbs := hb.size
      by_cases hlt : k < ts.length
      · obtain ⟨vo, n, vc, h1, h2, hn, h3, h4⟩ := RAll.tag ha hlt
        rcases hr.at_ with ⟨h0, _⟩ | ⟨b, off, rfl, hgb, hc⟩
        · omega
        have hS : ∀ W, Below w.heap.size w W → W.cell? ⟨b, off + k * 2, none⟩ = some (.int .i64 ts[k].typ) ∧ W.cell? ⟨b, off + k * 2 + 1, none⟩ = some (.slice vo n vc) :=
          fun W hW => ⟨(hW.cell hgb).trans (hc _ _ h1), (hW.cell hgb).trans (by rw [Nat.add_assoc]; exact hc _ _ h2)⟩
        obtain ⟨c1, c2⟩ := hS wr hb
        have Hn := Lib.hid hn
        clear hn h1 h2 hc
        by_cases hok : okB ts[k].typ n = true
        · have hok2 := okB_le hok
          obtain ⟨p, hp⟩ := Int.eq_ofNat_of_zero_le (show 0 ≤ ts[k].typ by omega)
          have hs : encAll (ts.take (k + 1)) = encAll (ts.take k) ++ be 2 p ++ be 2 n ++ ts[k].val := by
            rw [List.take_succ_eq_append_getElem hlt, encAll_snoc, encOne, hp, Hn.out]; simp
          have hall' : Hid ((ts.take (k + 1)).all okTag = true) := by
            rw [List.take_succ_eq_append_getElem hlt, List.all_append, Hall.out]
            simpa [okTag, ← Hn.out, Hid] using hok
          rw [hp] at c1 hok2 hok hS
          have hp5 : (p : Int) ≤ 65535 := hok2.2.1
          have hn5 : (n : Int) ≤ 65535 := by omega
          have wp1 : IntKind.u64.wrap (p : Int) = p := IntWalk.u64_in _ (by omega)
          have wn1 : IntKind.u64.wrap (n : Int) = n := IntWalk.u64_in _ (by omega)
          have Hs := Lib.hid hs
          have HS := Lib.hid hS
          clear hs hok2 hp h3 Hall hS
          generalize encAll (ts.take k) = acc at *
          go_wp2_with (go_at_call 25; refine (is_any _ _ _ _ _).mono ?_; rintro e w0 ⟨rfl, hb0⟩)
          have b0 : Below w.heap.size w w0 := hb.trans (hb0.mono hbs)
          have hown0 := (hown.below hb0).drew
          obtain ⟨c3, c4⟩ := HS.out w0 b0
          clear hb0 hown c1 c2
          go_region_held3 (fun W => W.cell? ⟨b, off + k * 2, none⟩ = some (.int .i64 p) ∧ W.cell? ⟨b, off + k * 2 + 1, none⟩ = some (.slice vo n vc))
            (first | go_keep | exact HS.out _ b1 | exact HS.out _ b2 | exact HS.out _ b3 | exact HS.out _ b4)
            (first
              | (go_at_call_of 26 (p : Int); refine (rput_any p 2 _ (by omega) (by omega) (by omega)).mono ?_; rintro e w1 ⟨s1, rfl, hs1, hb1⟩; have hown1 := hown0.below hb1; have b1 : Below w.heap.size w w1 := b0.drew.trans (hb1.mono b0.size))
              | (go_at_call_of 26 (n : Int); refine (rput_any n 2 _ (by omega) (by omega) (by omega)).mono ?_; rintro e w3 ⟨s3, rfl, hs3, hb3⟩; have hown3 := hown2.below hb3; have b3 : Below w.heap.size w w3 := b2.trans (hb3.mono b2.size))
              | (revert hown1; intro hown1; refine step_append (α := UInt8) (base := w.heap.size) (ys := be 2 p) (by rfl) (by rfl) Try.underlying24 Try.infoU8 rfl (by rfl) (by rfl) hown1 (hs1.srcsB Try.underlying24) (by simp [be_length]; omega) (by decide) b1.size ?_; intro v2 w2 hown2 happ2; have b2 : Below w.heap.size w w2 := b1.grown happ2.by_ b1.size (fun j hj => (hown1.lt j hj).1); clear hown1 hs1 b1)
              | (revert hown3; intro hown3; refine step_append (α := UInt8) (base := w.heap.size) (ys := be 2 n) (by rfl) (by rfl) Try.underlying24 Try.infoU8 rfl (by rfl) (by rfl) hown3 (hs3.srcsB Try.underlying24) (by simp [be_length]; omega) (by decide) b3.size ?_; intro v4 w4 hown4 happ4; have b4 : Below w.heap.size w w4 := b3.grown happ4.by_ b3.size (fun j hj => (hown3.lt j hj).1)))
          clear hown0 happ2 hs3 happ4 hown2 hown3 hb1 hb3 c3 c4
          obtain ⟨c5, c6⟩ := HS.out w4 b4
          have h5 := RowAt.mono (G' := fun _ => True) (w' := w4) (fun _ _ => trivial) (fun j hj => b4.block j hj) h4
          go_wp2_with (at_builtin; refine wpList_append (α := UInt8) (base := w.heap.size) (ys := ts[k].val) rfl rfl Try.underlying24 Try.infoU8 rfl rfl rfl hown4 (h5.srcsB Try.underlying24 Hn.out) (by have := Hn.out; simp [be_length]; omega) (by decide) b4.size ?go3)
          intro v6 w6 hown6 happ6
          have b6 : Below w.heap.size w w6 := b4.grown happ6.by_ b4.size (fun j hj => (hown4.lt j hj).1)
          clear happ6 hown4 h5 c5 c6
          go_wp2
          go_roundw
          case rel => exact ⟨k + 1, by omega, by go_num, by rw [Hs.out]; simpa using hown6, hall'.out, b6⟩
          case measure => simp [intOf]; omega
        · have hok' : okB ts[k].typ n = false := by simpa using hok
          clear hok
          go_wp2_with (go_at_call 25; refine (is_any _ _ _ _ _).mono ?_; rintro e w1 ⟨rfl, hb1⟩)
          go_ret2
          have he : enc ts = ([], 50) := by
            rw [enc, if_neg (by omega), if_pos]
            rw [List.all_eq_false]
            exact ⟨ts[k], List.getElem_mem hlt, by rw [okTag, ← Hn.out, hok']; simp⟩
          exact ⟨.slice none 0 0, by rw [he]; rfl, by rw [he]; exact Own.nil _ _ _, hb.trans (hb1.mono hbs)⟩
      · have hkt : ts.take k = ts := List.take_of_length_le (by omega)
        rw [hkt] at hown hlen
        have Hall2 : Hid (ts.all okTag = true) := by have := Hall.out; rw [hkt] at this; exact this
        clear Hall hkt
        obtain ⟨vo, vc, rfl⟩ := hown.val
        by_cases hlong : (1494 : Int) < ((encAll ts).length : Int)
        · go_wp2
          go_ret2
          have he : enc ts = ([], 2) := by rw [enc, if_neg (by omega), if_neg (by rw [Hall2.out]; simp), if_pos (by omega)]
          exact ⟨.slice none 0 0, by rw [he]; rfl, by rw [he]; exact Own.nil _ _ _, hb⟩
        · go_wp2
          go_ret2
          have he : enc ts = (encAll ts, 0) := by rw [enc, if_neg (by omega), if_neg (by rw [Hall2.out]; simp), if_neg (by omega)]
          exact ⟨_, by rw [he]; rfl, by rw [he]; exact hown, hb⟩
end Go.Proofs.Ytminoakdilbokaa.Raw
