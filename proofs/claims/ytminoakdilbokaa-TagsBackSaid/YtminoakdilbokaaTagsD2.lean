/- The walk of tags.Decode. -/
import Derived.Test.YtminoakdilbokaaTagsA
import Derived.Deep.RegionWith
set_option linter.unusedSectionVars false
set_option linter.unusedVariables false
set_option linter.unusedSimpArgs false
set_option linter.deprecated false
namespace Go.Proofs.Ytminoakdilbokaa.Raw
open Go.RowKit Go.Cx

set_option maxHeartbeats 400000 in
theorem number_any (v : Value) (l : List UInt8) (k : Nat) (w : World) (h : RSl (fun _ => True) w v l) (hk : k + 1 < l.length) :
    Calls Try.prog 27 #[v, .int .i64 k] w fun e w' => e = .returned (.int .i64 (256 * (l[k]'(by omega)).toNat + l[k + 1].toNat : Nat)) ∧ Below w.heap.size w w' := by
  obtain ⟨ao, cap, rfl, hr⟩ := h.bytes
  rcases hr.at_ with ⟨h0, _⟩ | ⟨b, off, rfl, _, hc⟩
  · omega
  have c1 : w.cell? ⟨b, off + k, none⟩ = some (.int .u8 ((l[k]'(by omega)).toNat : Int)) := hc k _ (by rw [List.getElem?_map, List.getElem?_eq_getElem (by omega)]; rfl)
  have c2 : w.cell? ⟨b, off + (k + 1), none⟩ = some (.int .u8 (l[k + 1].toNat : Int)) := hc (k + 1) _ (by rw [List.getElem?_map, List.getElem?_eq_getElem (by omega)]; rfl)
  have hM := hr.max
  have hcl := hr.cle
  unfold maxLen at hM
  have k1 : (k : Int) < (l.length : Int) := by omega
  have k2 : (k : Int) + 1 < (l.length : Int) := by omega
  have k3 : IntKind.i64.wrap ((k : Int) + 1) = (k : Int) + 1 := IntWalk.i64_in _ (by omega)
  have k4 : ((k : Int) + 1).toNat = k + 1 := by omega
  have k5 : 0 ≤ (k : Int) + 1 := by omega
  generalize (l[k]'(by omega)) = x at *
  generalize l[k + 1] = y at *
  have x1 := x.toNat_lt
  have y1 := y.toNat_lt
  have w1 : IntKind.i64.wrap (x.toNat : Int) = (x.toNat : Int) := IntWalk.i64_in _ (by omega)
  have w2 : IntKind.i64.wrap (y.toNat : Int) = (y.toNat : Int) := IntWalk.i64_in _ (by omega)
  have w3 : IntKind.i64.wrap ((x.toNat : Int) * 256) = (x.toNat : Int) * 256 := IntWalk.i64_in _ (by omega)
  clear hc h hr
  go_enter Try.func27, Try.ntmps27
  go_wp2_with fail
  go_quiet (fail)
  go_wp2
  go_ret
  refine ⟨?_, below_drewN (Below.refl _ _) _⟩
  rw [← or256 x y]
  rfl
end Go.Proofs.Ytminoakdilbokaa.Raw
namespace Go.Proofs.Ytminoakdilbokaa.Raw
open Go.RowKit Go.Cx

def typOf (b : List UInt8) : Nat := 256 * (b.getD 0 0).toNat + (b.getD 1 0).toNat
def lenOf (b : List UInt8) : Nat := 256 * (b.getD 2 0).toNat + (b.getD 3 0).toNat
/-- The tags of bytes, behind those that were read. -/
def decL : Nat → List UInt8 → List Tag → List Tag × Int
  | 0, _, _ => ([], -1)
  | f + 1, b, acc =>
    if b.length = 0 then (acc, 0)
    else if b.length < 4 then ([], 50)
    else if typOf b = 0 ∧ lenOf b = 0 then (acc, 0)
    else if typOf b = 0 ∨ b.length - 4 < lenOf b then ([], 50)
    else if acc.length = 64 then ([], 3)
    else decL f (b.drop (4 + lenOf b)) (acc ++ [⟨typOf b, (b.drop 4).take (lenOf b)⟩])
def dec (b : List UInt8) : List Tag × Int := if 1494 < b.length then ([], 2) else decL (b.length + 1) b []

theorem decL_step {f : Nat} {b : List UInt8} {acc : List Tag} {r : List Tag × Int} (h : decL f b acc = r) (hf : b.length < f) :
    ∃ f', f = f' + 1 ∧ (if b.length = 0 then (acc, 0)
    else if b.length < 4 then ([], 50)
    else if typOf b = 0 ∧ lenOf b = 0 then (acc, 0)
    else if typOf b = 0 ∨ b.length - 4 < lenOf b then ([], 50)
    else if acc.length = 64 then ([], 3)
    else decL f' (b.drop (4 + lenOf b)) (acc ++ [⟨typOf b, (b.drop 4).take (lenOf b)⟩])) = r := by
  match f, hf with
  | f' + 1, _ => exact ⟨f', rfl, h⟩

theorem getD_get (b : List UInt8) (k : Nat) (h : k < b.length) : b.getD k 0 = b[k] := by simp [List.getD, h]

set_option maxRecDepth 100000 in
set_option maxHeartbeats 1600000 in
theorem decode_any (v : Value) (l : List UInt8) (w : World) (h : RSl (fun b => b < w.heap.size) w v l) :
    Calls Try.prog 14 #[v] w fun e w' => ∃ v, e = .returned (.tuple #[v, .int .i64 (dec l).2]) ∧ RSl (fun b => w.heap.size ≤ b ∧ b < w'.heap.size) w' v (dec l).1 ∧ Below w.heap.size w w' := by
  obtain ⟨ao, cap, rfl, hr⟩ := h.bytes
  have hm := hr.cle
  have hM := hr.max
  unfold maxLen at hM
  by_cases hlong : (1494 : Int) < (l.length : Int)
  · go_enter Try.func14, Try.ntmps14
    go_wp2
    go_step3
    go_wp2
    rw [Exit.noGoto_ret]
    go_ret2
    have he : dec l = ([], 2) := by rw [dec, if_pos (by omega)]
    exact ⟨.slice none 0 0, by rw [he]; rfl, by rw [he]; exact RSl.nil _ _, Below.refl _ _⟩
  · have hd : Hid (decL (l.length + 1) l [] = dec l) := by rw [Hid, dec, if_neg (by omega)]
    go_enter Try.func14, Try.ntmps14
    go_wp2
    go_step3
    go_wp2
    go_step3
    go_wp2
    go_loopw [0, 4] (fun x out wr => ∃ rest acc f, RSl (fun b => b < w.heap.size) w x rest ∧ rest.length ≤ 1494 ∧ Own wr w.heap.size 34 out acc w.heap.size ∧ acc.length ≤ 64 ∧ rest.length < f ∧ Hid (decL f rest acc = dec l) ∧ Below w.heap.size w wr) (fun x _ _ => slen x)
    case atStart => exact ⟨l, [], l.length + 1, RSl.of_bytes rfl hr, by omega, Own.nil _ _ _ _, by simp, by omega, hd, Below.refl _ _⟩
    case round =>
      obtain ⟨rest, acc, f, hx, hrl, hown, hal, hf, hdec, hb⟩ := hrel
      obtain ⟨f', rfl, hst⟩ := decL_step hdec.out hf
      obtain ⟨ax, cx, rfl, hrow⟩ := hx.bytes
      clear hdec hx
      have hbs := hb.size
      obtain ⟨ao', co', rfl⟩ := hown.val
      by_cases h0 : rest.length = 0
      · rw [if_pos h0] at hst
        have h0' : ((rest.length : Nat) : Int) ≤ 0 := by omega
        have Hd := Lib.hid hst
        have H0 := Lib.hid h0
        clear hst h0
        go_wp2
        rw [Exit.noGoto_ret]
        go_ret2
        exact ⟨_, by rw [← Hd.out]; rfl, by rw [← Hd.out]; exact hown.fresh_any, hb⟩
      · rw [if_neg h0] at hst
        rcases hrow.at_ with ⟨h00, _⟩ | ⟨b, off, rfl, hgb, hc⟩
        · exact absurd h00 h0
        have h0' : (0 : Int) < ((rest.length : Nat) : Int) := by omega
        by_cases h4 : rest.length < 4
        · rw [if_pos h4] at hst
          have Hd := Lib.hid hst
          clear hst
          go_wp2
          rw [Exit.noGoto_ret]
          go_ret2
          exact ⟨_, by rw [← Hd.out]; rfl, by rw [← Hd.out]; exact RSl.nil _ _, hb⟩
        · rw [if_neg h4] at hst
          have hT : typOf rest = 256 * (rest[0]'(by omega)).toNat + (rest[0 + 1]'(by omega)).toNat := by rw [typOf, getD_get _ _ (by omega), getD_get _ _ (by omega)]
          have hN : lenOf rest = 256 * (rest[2]'(by omega)).toNat + (rest[2 + 1]'(by omega)).toNat := by rw [lenOf, getD_get _ _ (by omega), getD_get _ _ (by omega)]
          have hT5 : typOf rest ≤ 65535 := by have := (rest[0]'(by omega)).toNat_lt; have := (rest[0 + 1]'(by omega)).toNat_lt; omega
          have hN5 : lenOf rest ≤ 65535 := by have := (rest[2]'(by omega)).toNat_lt; have := (rest[2 + 1]'(by omega)).toNat_lt; omega
          have HT := Lib.hid hT
          have HN := Lib.hid hN
          clear hT hN
          generalize htt : typOf rest = typ at *
          generalize hnn : lenOf rest = n at *
          clear htt hnn
          have Hst := Lib.hid hst
          clear hst
          have hrs : ∀ W, Below w.heap.size w W → RSl (fun _ => True) W (.slice (some ⟨b, off, none⟩) rest.length cx) rest :=
            fun W hW => (RSl.of_bytes rfl hrow).mono (fun _ _ => trivial) (fun k hk => hW.block k hk)
          have Hrs := Lib.hid hrs
          clear hrs
          go_wp2_with fail
          refine (number_any _ rest 0 _ (Hrs.out _ hb) (by omega)).mono ?_
          rintro e w1 ⟨rfl, hb1⟩
          rw [← HT.out]
          have b1 : Below w.heap.size w w1 := hb.trans (hb1.mono hbs)
          have hown1 := hown.below hb1
          clear hown hb1
          go_wp2_with fail
          refine (number_any _ rest 2 _ (Hrs.out _ b1) (by omega)).mono ?_
          rintro e w2 ⟨rfl, hb2⟩
          rw [← HN.out]
          have b2 : Below w.heap.size w w2 := b1.trans (hb2.mono b1.size)
          have hown2 := hown1.below hb2
          clear hown1 hb2 HT HN
          have bs2 := b2.size
          have hlc : acc.length ≤ 64 := hal
          by_cases ht : typ = 0
          · have ht1 : ((typ : Int) == 0) = true := by simp [ht]
            by_cases hn : n = 0
            · have hn1 : ((n : Int) == 0) = true := by simp [hn]
              have hd2 : Hid ((acc, (0 : Int)) = dec l) := by have := Hst.out; rw [if_pos ⟨ht, hn⟩] at this; exact this
              clear Hst ht hn
              go_wp2
              rw [Exit.noGoto_ret]
              go_ret2
              exact ⟨_, by rw [← hd2.out]; rfl, by rw [← hd2.out]; exact hown2.fresh_any, b2⟩
            · have hn1 : ((n : Int) == 0) = false := by simp [hn]
              have hd2 : Hid ((([] : List Tag), (50 : Int)) = dec l) := by have := Hst.out; rw [if_neg (by omega), if_pos (.inl ht)] at this; exact this
              clear Hst ht hn
              go_wp2
              rw [Exit.noGoto_ret]
              go_ret2
              exact ⟨_, by rw [← hd2.out]; rfl, by rw [← hd2.out]; exact RSl.nil _ _, b2⟩
          · have ht1 : ((typ : Int) == 0) = false := by simp [ht]
            by_cases hbig : rest.length - 4 < n
            · have hg1 : (rest.length : Int) - 4 < (n : Int) := by omega
              have hd2 : Hid ((([] : List Tag), (50 : Int)) = dec l) := by have := Hst.out; rw [if_neg (by omega), if_pos (.inr hbig)] at this; exact this
              clear Hst ht
              go_wp2
              rw [Exit.noGoto_ret]
              go_ret2
              exact ⟨_, by rw [← hd2.out]; rfl, by rw [← hd2.out]; exact RSl.nil _ _, b2⟩
            · have hg1 : (n : Int) ≤ (rest.length : Int) - 4 := by omega
              by_cases h64 : acc.length = 64
              · have h641 : ((acc.length : Int) == 64) = true := by simp [h64]
                have hd2 : Hid ((([] : List Tag), (3 : Int)) = dec l) := by have := Hst.out; rw [if_neg (by omega), if_neg (by omega), if_pos h64] at this; exact this
                clear Hst ht h64
                go_wp2
                rw [Exit.noGoto_ret]
                go_ret2
                exact ⟨_, by rw [← hd2.out]; rfl, by rw [← hd2.out]; exact RSl.nil _ _, b2⟩
              · have h641 : ((acc.length : Int) == 64) = false := by rw [beq_eq_false_iff_ne]; omega
                have hd2 : Hid (decL f' (rest.drop (4 + n)) (acc ++ [⟨typ, (rest.drop 4).take n⟩]) = dec l) := by have := Hst.out; rw [if_neg (by omega), if_neg (by omega), if_neg h64] at this; exact this
                clear Hst ht
                have hrc := hrow.cle
                obtain ⟨A, hA, hrA⟩ := hrow.cut (lo := 4) (hi := 4 + n) (by omega) (by omega)
                obtain ⟨A2, hA2, hrA2⟩ := hrow.cut (lo := 4 + n) (hi := rest.length) (by omega) (Nat.le_refl _)
                simp only [Nat.mul_one, Nat.add_sub_cancel_left] at hA hrA hA2 hrA2
                rw [← List.map_take, ← List.map_drop] at hrA hrA2
                have e1 : (rest.take (4 + n)).drop 4 = (rest.drop 4).take n := by rw [List.drop_take]; simp
                have e2 : (rest.take rest.length).drop (4 + n) = rest.drop (4 + n) := by rw [List.take_length]
                rw [e1] at hrA
                rw [e2] at hrA2
                clear e1 e2
                have s1 : (0 : Int) ≤ 4 + (n : Int) := by omega
                have s2 : 4 + (n : Int) ≤ (cx : Int) := by omega
                have s3 : 4 + (n : Int) ≤ (rest.length : Int) := by omega
                have s4 : ((rest.drop 4).take n).length = n := by simp; omega
                have hcl := hrA.cle
                go_wp2_with fail
                refine (clone_any _ ((rest.drop 4).take n) _ ((RSl.of_bytes s4 hrA).mono (fun _ hk => Nat.lt_of_lt_of_le hk b2.size) (fun k hk => b2.block k hk)) (by rw [s4]; omega)).mono ?_
                rintro e w3 ⟨vc, rfl, hvc, hb3⟩
                obtain ⟨va, vk, hve, hrv⟩ := hvc.bytes
                rw [s4] at hve hrv
                subst hve
                have b3 : Below w.heap.size w w3 := b2.trans (hb3.mono b2.size)
                have hown3 := hown2.below hb3
                have hrd : ∀ o, Rep.rd (fun b => b < (w3.alloc o).heap.size ∧ some b ≠ (Value.slice ao' acc.length co').ownBlock ∧ w.heap.size ≤ b) (w3.alloc o) [.int .i64 (typ : Int), .slice va n vk] (⟨typ, (rest.drop 4).take n⟩ : Tag) := by
                  intro o
                  refine ⟨_, rfl, by simp only []; omega, RSl.of_bytes s4 (hrv.mono (fun k hk => ?_) (fun k hk => heap_alloc_old w3 o hk.2))⟩
                  refine ⟨by simp; omega, fun he => ?_, by omega⟩
                  have := (hown2.lt k he.symm).2
                  omega
                clear hown2 hb3 hrA hA hvc hrv Hrs
                go_wp2_with (at_builtin; refine wpList_append (α := Tag) (base := w.heap.size) (xs := acc) (ys := [⟨typ, (rest.drop 4).take n⟩]) rfl rfl Try.underlying22 Try.infoTag rfl rfl rfl (hown3.alloc _) (srcs_one Try.underlying22 (heap_alloc_new w3 _) (hrd _)) (by simp; omega) (by decide) (by have := b3.size; simp; omega) ?go)
                intro v4 w4 hown4 happ4
                have b4 : Below w.heap.size w w4 := (b3.alloc b3.size _).grown happ4.by_ (by have := b3.size; simp; omega) (fun j hj => (hown3.lt j hj).1)
                clear hown3 happ4 hrd
                go_wp2
                go_roundw
                case rel => exact ⟨rest.drop (4 + n), _, f', RSl.of_bytes (by simp) (by rw [hA2]; exact hrA2), by simp; omega, hown4, by simp; omega, by simp; omega, hd2, b4⟩
                case measure => simp [slen]; omega
end Go.Proofs.Ytminoakdilbokaa.Raw
