/- The walk of tags.Encode. -/
import Derived.Test.YtminoakdilbokaaTagsA
set_option linter.unusedSectionVars false
set_option linter.unusedVariables false
set_option linter.unusedSimpArgs false
set_option linter.deprecated false
namespace Go.Proofs.Ytminoakdilbokaa.Raw
open Go.RowKit Go.Cx

set_option maxRecDepth 100000 in
set_option maxHeartbeats 1600000 in
theorem encode_any (v : Value) (ts : List Tag) (w : World) (h : RSl (fun b => b < w.heap.size) w v ts) :
    Calls Try.prog 10 #[v] w fun e w' => ∃ v, e = .returned (.tuple #[v, .int .i64 (enc ts).2]) ∧ Own w' w.heap.size 5 v (enc ts).1 ∧ Below w.heap.size w w' := by
  obtain ⟨ao, cap, cells, rfl, hr, ha⟩ := h
  have hm := hr.cle
  have hM := hr.max
  unfold maxLen at hM
  by_cases h64 : (64 : Int) < (ts.length : Int)
  · go_enter Try.func10, Try.ntmps10
    go_wp2
    go_ret2
    have he : enc ts = ([], 3) := by rw [enc, if_pos (by omega)]
    exact ⟨.slice none 0 0, by rw [he]; rfl, by rw [he]; exact Own.nil _ _ _, Below.refl _ _⟩
  · go_enter Try.func10, Try.ntmps10
    go_wp2
    go_loopw [4, 15] (fun m i wr => ∃ k : Nat, k ≤ ts.length ∧ i = .int .i64 k ∧ m = .int .i64 (encAll (ts.take k)).length ∧ (ts.take k).all okTag = true ∧ Below w.heap.size w wr) (fun _ i _ => 64 - (intOf i).toNat)
    case atStart => exact ⟨0, by omega, rfl, rfl, rfl, Below.refl _ _⟩
    case round =>
      obtain ⟨k, hk, rfl, rfl, hall, hb⟩ := hrel
      have hl := encAll_le _ hall
      have hl2 : (ts.take k).length ≤ 64 := by simp; omega
      obtain ⟨m, hmm⟩ : ∃ m, m = (encAll (ts.take k)).length := ⟨_, rfl⟩
      rw [← hmm]
      have hm1 : (m : Int) ≤ 64 * 65539 := by rw [hmm]; omega
      have Hm := Lib.hid hmm
      have Hall := Lib.hid hall
      clear hmm hl hl2 hall
      by_cases hlt : k < ts.length
      · obtain ⟨vo, n, vc, h1, h2, hn, h3, h4⟩ := RAll.tag ha hlt
        rcases hr.at_ with ⟨h0, _⟩ | ⟨b, off, rfl, hgb, hc⟩
        · omega
        have c1 : wr.cell? ⟨b, off + k * 2, none⟩ = some (.int .i64 ts[k].typ) := (hb.cell hgb).trans (hc _ _ h1)
        have c2 : wr.cell? ⟨b, off + k * 2 + 1, none⟩ = some (.slice vo n vc) := (hb.cell hgb).trans (by rw [Nat.add_assoc]; exact hc _ _ h2)
        have Hn := Lib.hid hn
        clear hn
        have hbs := hb.size
        by_cases hok : okB ts[k].typ n = true
        · have hn5 : (n : Int) ≤ 65535 := by have := okB_le hok; omega
          go_wp2_with (go_at_call 23; refine (may_any _ _ _ _ _).mono ?_; rintro e w1 ⟨rfl, hb1⟩; obtain ⟨hc1, hf1⟩ := bcell hb1)
          go_roundw
          case rel =>
            refine ⟨k + 1, by omega, by go_num, ?_, ?_, (hb.alloc hbs _).trans (hb1.mono (by simp; omega))⟩
            · rw [List.take_succ_eq_append_getElem hlt, encAll_snoc, List.length_append, ← Hm.out, encOne_length, ← Hn.out]
              go_num
            · rw [List.take_succ_eq_append_getElem hlt, List.all_append, Hall.out]
              simpa [okTag, ← Hn.out] using hok
          case measure => simp [intOf]; omega
        · have hok' : okB ts[k].typ n = false := by simpa using hok
          clear hok
          go_wp2_with (go_at_call 23; refine (may_any _ _ _ _ _).mono ?_; rintro e w1 ⟨rfl, hb1⟩)
          go_ret2
          have he : enc ts = ([], 50) := by
            rw [enc, if_neg (by omega), if_pos]
            rw [List.all_eq_false]
            exact ⟨ts[k], List.getElem_mem hlt, by rw [okTag, ← Hn.out, hok']; simp⟩
          exact ⟨.slice none 0 0, by rw [he]; rfl, by rw [he]; exact Own.nil _ _ _, (hb.alloc hbs _).trans (hb1.mono (by simp; omega))⟩
      · have hkt : ts.take k = ts := List.take_of_length_le (by omega)
        have Hm2 : Hid (m = (encAll ts).length) := by have := Hm.out; rw [hkt] at this; exact this
        have Hall2 : Hid (ts.all okTag = true) := by have := Hall.out; rw [hkt] at this; exact this
        clear Hm Hall hkt
        by_cases hlong : (1494 : Int) < (m : Int)
        · go_wp2
          go_ret2
          have he : enc ts = ([], 2) := by rw [enc, if_neg (by omega), if_neg (by rw [Hall2.out]; simp), if_pos (by rw [← Hm2.out]; omega)]
          exact ⟨.slice none 0 0, by rw [he]; rfl, by rw [he]; exact Own.nil _ _ _, hb⟩
        · go_wp2
          obtain ⟨wo, rfl⟩ : ∃ wo : World, wo = wr := ⟨_, rfl⟩
          obtain ⟨ko, rfl⟩ : ∃ ko : Nat, ko = k := ⟨_, rfl⟩
          go_loopw [7, 33] (fun v i wr => ∃ k : Nat, k ≤ ts.length ∧ i = .int .i64 k ∧ Own wr w.heap.size 5 v (encAll (ts.take k)) ∧ Below w.heap.size w wr) (fun _ i _ => 64 - (intOf i).toNat)
          case atStart => exact ⟨0, by omega, rfl, Own.nil _ _ _, hb⟩
          case round =>
            obtain ⟨k, hk, rfl, hown, hb⟩ := hrel
            by_cases hlt : k < ts.length
            · obtain ⟨vo, n, vc, h1, h2, hn, h3, h4⟩ := RAll.tag ha hlt
              rcases hr.at_ with ⟨h0, _⟩ | ⟨b, off, rfl, hgb, hc⟩
              · omega
              have c1 : wr.cell? ⟨b, off + k * 2, none⟩ = some (.int .i64 ts[k].typ) := (hb.cell hgb).trans (hc _ _ h1)
              have c2 : wr.cell? ⟨b, off + k * 2 + 1, none⟩ = some (.slice vo n vc) := (hb.cell hgb).trans (by rw [Nat.add_assoc]; exact hc _ _ h2)
              have hok : okTag ts[k] = true := List.all_eq_true.1 Hall2.out _ (List.getElem_mem hlt)
              rw [okTag, ← hn] at hok
              have hok2 := okB_le hok
              obtain ⟨p, hp⟩ := Int.eq_ofNat_of_zero_le (show 0 ≤ ts[k].typ by omega)
              have hs : encAll (ts.take (k + 1)) = encAll (ts.take k) ++ be 2 p ++ be 2 n ++ ts[k].val := by
                rw [List.take_succ_eq_append_getElem hlt, encAll_snoc, encOne, hp, hn]; simp
              rw [hp] at c1 hok2
              have hp5 : (p : Int) ≤ 65535 := hok2.2.1
              have hn5 : (n : Int) ≤ 65535 := by omega
              have hlen : (encAll (ts.take k)).length ≤ 64 * 65539 := by
                have h9 : (ts.take k).all okTag = true := by
                  rw [List.all_eq_true]
                  exact fun x hx => List.all_eq_true.1 Hall2.out _ (List.mem_of_mem_take hx)
                have h10 := encAll_le _ h9
                have h11 : (ts.take k).length ≤ 64 := by simp; omega
                exact Nat.le_trans h10 (Nat.mul_le_mul_right _ h11)
              have Hs := Lib.hid hs
              have Hn := Lib.hid hn
              have hbs := hb.size
              clear hs hn hok hok2 hp h1 h2 h3
              generalize encAll (ts.take k) = acc at *
              go_wp2_with fail
              refine (put_any p 2 _ (by omega) (by omega)).mono ?_
              rintro e w1 ⟨s1, rfl, hs1, hb1⟩
              have hown1 := (hown.alloc _).below hb1
              have x1 := (hb1.block wr.heap.size (by simp)).trans (heap_alloc_new wr _)
              have n1 : some wr.heap.size ≠ u7.ownBlock := fun he => by have := (hown.lt _ he.symm).2; omega
              have z1 : w.heap.size ≤ w1.heap.size := by have := hb1.size; simp at this; omega
              have l1 : wr.heap.size < w1.heap.size := by have := hb1.size; simp at this; omega
              have b1 : Below w.heap.size w w1 := (hb.alloc hbs _).trans (hb1.mono (by simp; omega))
              clear hb1 hown
              go_wp2_with (at_builtin; refine wpList_append (α := UInt8) (base := w.heap.size) (xs := acc) (ys := be 2 p) rfl rfl Try.underlying24 Try.infoU8 rfl rfl rfl hown1 (hs1.srcsB Try.underlying24) (by rw [be_length]; omega) (by decide) z1 ?go)
              intro v2 w2 hown2 happ2
              have x2 := happ2.keep x1 n1
              have n2 := happ2.ne l1 n1
              have l2 := Nat.lt_of_lt_of_le l1 happ2.by_.size
              have d2 : w2.cell? ⟨wr.heap.size, 1, none⟩ = some (.slice vo n vc) := by rw [cell_of_row _ _ _ _ _ _ x2]; rfl
              have b2 : Below w.heap.size w w2 := b1.grown happ2.by_ z1 (fun j hj => (hown1.lt j hj).1)
              clear happ2 hown1 x1 hs1
              go_wp2_with fail
              refine (put_any n 2 _ (by omega) (by omega)).mono ?_
              rintro e w3 ⟨s3, rfl, hs3, hb3⟩
              have hown3 := hown2.below hb3
              have x3 := (hb3.block wr.heap.size l2).trans x2
              have l3 := Nat.lt_of_lt_of_le l2 hb3.size
              have b3 : Below w.heap.size w w3 := b2.trans (hb3.mono b2.size)
              clear hb3 hown2 x2 d2
              go_wp2_with (at_builtin; refine wpList_append (α := UInt8) (base := w.heap.size) (xs := acc ++ be 2 p) (ys := be 2 n) rfl rfl Try.underlying24 Try.infoU8 rfl rfl rfl hown3 (hs3.srcsB Try.underlying24) (by simp [be_length]; omega) (by decide) b3.size ?go2)
              intro v4 w4 hown4 happ4
              have x4 := happ4.keep x3 n2
              have b4 : Below w.heap.size w w4 := b3.grown happ4.by_ b3.size (fun j hj => (hown3.lt j hj).1)
              have d4 : w4.cell? ⟨wr.heap.size, 1, none⟩ = some (.slice vo n vc) := by rw [cell_of_row _ _ _ _ _ _ x4]; rfl
              clear happ4 hown3 x3
              have h5 := RowAt.mono (G' := fun _ => True) (w' := w4) (fun _ _ => trivial) (fun j hj => b4.block j hj) h4
              go_wp2_with (at_builtin; refine wpList_append (α := UInt8) (base := w.heap.size) (xs := acc ++ (be 2 p ++ be 2 n)) (ys := ts[k].val) rfl rfl Try.underlying24 Try.infoU8 rfl rfl rfl hown4 (h5.srcsB Try.underlying24 Hn.out) (by have := Hn.out; simp [be_length]; omega) (by decide) b4.size ?go3)
              intro v5 w5 hown5 happ5
              have b5 : Below w.heap.size w w5 := b4.grown happ5.by_ b4.size (fun j hj => (hown4.lt j hj).1)
              clear happ5 hown4 x4 h5 d4
              go_wp2
              go_roundw
              case rel => exact ⟨k + 1, by omega, by go_num, by rw [Hs.out]; simpa using hown5, b5⟩
              case measure => simp [intOf]; omega
            · have hkt : ts.take k = ts := List.take_of_length_le (by omega)
              rw [hkt] at hown
              clear hkt
              go_wp2
              go_ret2
              have he : enc ts = (encAll ts, 0) := by rw [enc, if_neg (by omega), if_neg (by rw [Hall2.out]; simp), if_neg (by rw [← Hm2.out]; omega)]
              exact ⟨_, by rw [he]; rfl, by rw [he]; exact hown, hb⟩
end Go.Proofs.Ytminoakdilbokaa.Raw
