/- The walk of the reference's Decode. -/
import Derived.Test.YtminoakdilbokaaTagsD2
set_option linter.unusedSectionVars false
set_option linter.unusedVariables false
set_option linter.unusedSimpArgs false
set_option linter.deprecated false
namespace Go.Proofs.Ytminoakdilbokaa.Raw
open Go.RowKit Go.Cx

set_option maxRecDepth 100000 in
set_option maxHeartbeats 1600000 in
theorem rdecode_any (v : Value) (l : List UInt8) (w : World) (h : RSl (fun b => b < w.heap.size) w v l) :
    Calls Try.prog 15 #[v] w fun e w' => ∃ v, e = .returned (.tuple #[v, .int .i64 (dec l).2]) ∧ RSl (fun b => w.heap.size ≤ b ∧ b < w'.heap.size) w' v (dec l).1 ∧ Below w.heap.size w w' := by
  obtain ⟨ao, cap, rfl, hr⟩ := h.bytes
  have hm := hr.cle
  have hM := hr.max
  unfold maxLen at hM
  by_cases hlong : (1494 : Int) < (l.length : Int)
  · go_enter Try.func15, Try.ntmps15
    go_wp2
    go_ret2
    have he : dec l = ([], 2) := by rw [dec, if_pos (by omega)]
    exact ⟨.slice none 0 0, by rw [he]; rfl, by rw [he]; exact RSl.nil _ _, Below.refl _ _⟩
  · have hd : Hid (decL (l.length + 1) l [] = dec l) := by rw [Hid, dec, if_neg (by omega)]
    go_enter Try.func15, Try.ntmps15
    go_wp2
    go_loopw [0, 4] (fun x out wr => ∃ rest acc f, RSl (fun b => b < w.heap.size) w x rest ∧ rest.length ≤ 1494 ∧ Own wr w.heap.size 34 out acc w.heap.size ∧ acc.length ≤ 64 ∧ rest.length < f ∧ Hid (decL f rest acc = dec l) ∧ Below w.heap.size w wr) (fun x _ _ => slen x)
    case atStart => exact ⟨l, [], l.length + 1, RSl.of_bytes rfl hr, by omega, Own.nil _ _ _ _, by simp, by omega, hd, Below.refl _ _⟩
    case round =>
      obtain ⟨rest, acc, f, hx, hrl, hown, hal, hf, hdec, hb⟩ := hrel
      obtain ⟨f', rfl, hst⟩ := decL_step hdec.out hf
      obtain ⟨ax, cx, rfl, hrow⟩ := hx.bytes
      clear hdec hx
      have hbs := hb.size
      obtain ⟨ao', co', rfl⟩ := hown.val
      by_cases h0 : rest.length = 0
      · rw [if_pos h0] at hst
        have h0' : ((rest.length : Nat) : Int) ≤ 0 := by omega
        have Hd := Lib.hid hst
        have H0 := Lib.hid h0
        clear hst h0
        go_wp2
        go_ret2
        exact ⟨_, by rw [← Hd.out]; rfl, by rw [← Hd.out]; exact hown.fresh_any, hb⟩
      · rw [if_neg h0] at hst
        rcases hrow.at_ with ⟨h00, _⟩ | ⟨b, off, rfl, hgb, hc⟩
        · exact absurd h00 h0
        have h0' : (0 : Int) < ((rest.length : Nat) : Int) := by omega
        by_cases h4 : rest.length < 4
        · rw [if_pos h4] at hst
          have Hd := Lib.hid hst
          clear hst
          go_wp2
          go_ret2
          exact ⟨_, by rw [← Hd.out]; rfl, by rw [← Hd.out]; exact RSl.nil _ _, hb⟩
        · rw [if_neg h4] at hst
          have hT : typOf rest = 256 * (rest[0]'(by omega)).toNat + (rest[0 + 1]'(by omega)).toNat := by rw [typOf, getD_get _ _ (by omega), getD_get _ _ (by omega)]
          have hN : lenOf rest = 256 * (rest[2]'(by omega)).toNat + (rest[2 + 1]'(by omega)).toNat := by rw [lenOf, getD_get _ _ (by omega), getD_get _ _ (by omega)]
          have c0 : wr.cell? ⟨b, off, none⟩ = some (.int .u8 ((rest[0]'(by omega)).toNat : Int)) := (hb.cell hgb).trans (hc 0 _ (by rw [List.getElem?_map, List.getElem?_eq_getElem (by omega)]; rfl))
          have c1 : wr.cell? ⟨b, off + 1, none⟩ = some (.int .u8 ((rest[0 + 1]'(by omega)).toNat : Int)) := (hb.cell hgb).trans (hc 1 _ (by rw [List.getElem?_map, List.getElem?_eq_getElem (by omega)]; rfl))
          have c2 : wr.cell? ⟨b, off + 2, none⟩ = some (.int .u8 ((rest[2]'(by omega)).toNat : Int)) := (hb.cell hgb).trans (hc 2 _ (by rw [List.getElem?_map, List.getElem?_eq_getElem (by omega)]; rfl))
          have c3 : wr.cell? ⟨b, off + 3, none⟩ = some (.int .u8 ((rest[2 + 1]'(by omega)).toNat : Int)) := (hb.cell hgb).trans (hc 3 _ (by rw [List.getElem?_map, List.getElem?_eq_getElem (by omega)]; rfl))
          have g0 := (rest[0]'(by omega)).toNat_lt
          have g1 := (rest[0 + 1]'(by omega)).toNat_lt
          have g2 := (rest[2]'(by omega)).toNat_lt
          have g3 := (rest[2 + 1]'(by omega)).toNat_lt
          generalize (rest[0]'(by omega)).toNat = x0 at *
          generalize (rest[0 + 1]'(by omega)).toNat = x1 at *
          generalize (rest[2]'(by omega)).toNat = x2 at *
          generalize (rest[2 + 1]'(by omega)).toNat = x3 at *
          have HT := Lib.hid hT
          have HN := Lib.hid hN
          clear hT hN
          generalize typOf rest = typ at *
          generalize lenOf rest = n at *
          have Hst := Lib.hid hst
          clear hst hc
          have i0 : (0 : Int) < (rest.length : Int) := by omega
          have i1 : (1 : Int) < (rest.length : Int) := by omega
          have i2 : (2 : Int) < (rest.length : Int) := by omega
          have i3 : (3 : Int) < (rest.length : Int) := by omega
          have i4 : (4 : Int) ≤ (rest.length : Int) := by omega
          have w0 : IntKind.i64.wrap (x0 : Int) = x0 := IntWalk.i64_in _ (by omega)
          have w1 : IntKind.i64.wrap (x1 : Int) = x1 := IntWalk.i64_in _ (by omega)
          have w2 : IntKind.i64.wrap (x2 : Int) = x2 := IntWalk.i64_in _ (by omega)
          have w3 : IntKind.i64.wrap (x3 : Int) = x3 := IntWalk.i64_in _ (by omega)
          have w4 : IntKind.i64.wrap (256 * (x0 : Int)) = 256 * x0 := IntWalk.i64_in _ (by omega)
          have w5 : IntKind.i64.wrap (256 * (x2 : Int)) = 256 * x2 := IntWalk.i64_in _ (by omega)
          have w6 : IntKind.i64.wrap (256 * (x0 : Int) + x1) = typ := by rw [HT.out]; exact IntWalk.i64_in _ (by omega)
          have w7 : IntKind.i64.wrap (256 * (x2 : Int) + x3) = n := by rw [HN.out]; exact IntWalk.i64_in _ (by omega)
          have hT5 : typ ≤ 65535 := by have := HT.out; omega
          have hN5 : n ≤ 65535 := by have := HN.out; omega
          clear HT HN
          have hrc := hrow.cle
          obtain ⟨A, hA, hrA⟩ := hrow.cut (lo := 4) (hi := rest.length) (by omega) (Nat.le_refl _)
          simp only [Nat.mul_one] at hA hrA
          rw [← List.map_take, ← List.map_drop, List.take_length] at hrA
          go_wp2_with fail
          go_quiet (fail)
          clear w0 w1 w2 w3 w4 w5 w6 w7 c0 c1 c2 c3
          have b2 : Below w.heap.size w (wr.drewN nq) := below_drewN hb nq
          have hown2 : Own (wr.drewN nq) w.heap.size 34 (.slice ao' acc.length co') acc w.heap.size := hown.below (below_drewN (Below.refl _ _) _)
          generalize wr.drewN nq = w2 at *
          clear hown
          by_cases ht : typ = 0
          · have ht1 : ((typ : Int) == 0) = true := by simp [ht]
            by_cases hn : n = 0
            · have hn1 : ((n : Int) != 0) = false := by simp [hn]
              have hd2 : Hid ((acc, (0 : Int)) = dec l) := by have := Hst.out; rw [if_pos ⟨ht, hn⟩] at this; exact this
              clear Hst ht hn
              go_wp2
              go_ret2
              exact ⟨_, by rw [← hd2.out]; rfl, by rw [← hd2.out]; exact hown2.fresh_any, b2⟩
            · have hn1 : ((n : Int) != 0) = true := by simp [hn]
              have hd2 : Hid ((([] : List Tag), (50 : Int)) = dec l) := by have := Hst.out; rw [if_neg (by omega), if_pos (.inl ht)] at this; exact this
              clear Hst ht hn
              go_wp2
              go_ret2
              exact ⟨_, by rw [← hd2.out]; rfl, by rw [← hd2.out]; exact RSl.nil _ _, b2⟩
          · have ht1 : ((typ : Int) == 0) = false := by simp [ht]
            by_cases hbig : rest.length - 4 < n
            · have hg1 : ((rest.length - 4 : Nat) : Int) < (n : Int) := by omega
              have hd2 : Hid ((([] : List Tag), (50 : Int)) = dec l) := by have := Hst.out; rw [if_neg (by omega), if_pos (.inr hbig)] at this; exact this
              clear Hst ht
              go_wp2
              go_ret2
              exact ⟨_, by rw [← hd2.out]; rfl, by rw [← hd2.out]; exact RSl.nil _ _, b2⟩
            · have hg1 : (n : Int) ≤ ((rest.length - 4 : Nat) : Int) := by omega
              by_cases h64 : acc.length = 64
              · have h641 : ((acc.length : Int) == 64) = true := by simp [h64]
                have hd2 : Hid ((([] : List Tag), (3 : Int)) = dec l) := by have := Hst.out; rw [if_neg (by omega), if_neg (by omega), if_pos h64] at this; exact this
                clear Hst ht h64
                go_wp2
                go_ret2
                exact ⟨_, by rw [← hd2.out]; rfl, by rw [← hd2.out]; exact RSl.nil _ _, b2⟩
              · have h641 : ((acc.length : Int) == 64) = false := by rw [beq_eq_false_iff_ne]; omega
                have hd2 : Hid (decL f' (rest.drop (4 + n)) (acc ++ [⟨typ, (rest.drop 4).take n⟩]) = dec l) := by have := Hst.out; rw [if_neg (by omega), if_neg (by omega), if_neg h64] at this; exact this
                clear Hst ht
                have hrp := hrA.front (m := n) (by omega)
                obtain ⟨A2, hA2, hrA2⟩ := hrA.cut (lo := n) (hi := rest.length - 4) (by omega) (Nat.le_refl _)
                simp only [Nat.mul_one] at hA2 hrA2 hrp
                rw [← List.map_take, ← List.map_drop] at hrA2
                rw [← List.map_take] at hrp
                have e2 : ((rest.drop 4).take (rest.length - 4)).drop n = rest.drop (4 + n) := by rw [List.take_of_length_le (by simp), List.drop_drop]
                rw [e2] at hrA2
                clear e2
                have s2 : (n : Int) ≤ ((cx - 4 : Nat) : Int) := by omega
                have s4 : ((rest.drop 4).take n).length = n := by simp; omega
                have hrp2 := RowAt.mono (G' := fun _ => True) (w' := w2.alloc (.cells #[] 5)) (fun _ _ => trivial) (fun k hk => (heap_alloc_old w2 _ (Nat.lt_of_lt_of_le hk b2.size)).trans (b2.block k hk)) hrp
                go_wp2_with (at_builtin; refine wpList_append (α := UInt8) (base := w2.heap.size) (lo := 0) (xs := []) (ys := (rest.drop 4).take n) rfl rfl Try.underlying24 Try.infoU8 rfl rfl rfl (Own.empty (heap_at_new rfl) (Nat.le_refl _)) (hrp2.srcsB Try.underlying24 s4.symm) (by simp; omega) (by decide) (by simp) ?go)
                intro vb w3 hvb hap3
                have hb3 : Below w2.heap.size w2 w3 := ((Below.refl _ _).alloc (Nat.le_refl _) _).grown hap3.by_ (by simp) (by simp [Value.ownBlock])
                obtain ⟨va, vk, hve, hrv⟩ := hvb.fresh.bytes
                try simp only [List.nil_append] at hve hrv
                rw [s4] at hve hrv
                subst hve
                have b3 : Below w.heap.size w w3 := b2.trans (hb3.mono b2.size)
                have hown3 := hown2.below hb3
                have hrd : ∀ o, Rep.rd (fun b => b < (w3.alloc o).heap.size ∧ some b ≠ (Value.slice ao' acc.length co').ownBlock ∧ w.heap.size ≤ b) (w3.alloc o) [.int .i64 (typ : Int), .slice va n vk] (⟨typ, (rest.drop 4).take n⟩ : Tag) := by
                  intro o
                  have bs2 := b2.size
                  refine ⟨_, rfl, by simp only []; omega, RSl.of_bytes s4 (hrv.mono (fun k hk => ?_) (fun k hk => heap_alloc_old w3 o hk.2))⟩
                  refine ⟨by simp; omega, fun he => ?_, by omega⟩
                  have := (hown2.lt k he.symm).2
                  omega
                clear hown2 hb3 hrA hrp hrp2 hrv hvb hap3
                go_wp2_with (at_builtin; refine wpList_append (α := Tag) (base := w.heap.size) (xs := acc) (ys := [⟨typ, (rest.drop 4).take n⟩]) rfl rfl Try.underlying22 Try.infoTag rfl rfl rfl (hown3.alloc _) (srcs_one Try.underlying22 (heap_alloc_new w3 _) (hrd _)) (by simp; omega) (by decide) (by have := b3.size; simp; omega) ?go2)
                intro v4 w4 hown4 happ4
                have b4 : Below w.heap.size w w4 := (b3.alloc b3.size _).grown happ4.by_ (by have := b3.size; simp; omega) (fun j hj => (hown3.lt j hj).1)
                clear hown3 happ4 hrd
                go_wp2
                go_roundw
                case rel => exact ⟨rest.drop (4 + n), _, f', RSl.of_bytes (by simp; omega) (by first | (rw [hA2]; exact hrA2) | exact hrA2), by simp; omega, hown4, by simp; omega, by simp; omega, hd2, b4⟩
                case measure => simp [slen]; omega
end Go.Proofs.Ytminoakdilbokaa.Raw
