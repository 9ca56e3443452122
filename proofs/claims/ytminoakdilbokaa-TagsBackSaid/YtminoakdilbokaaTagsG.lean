/- The walk of tags.Without. -/
import Derived.Test.YtminoakdilbokaaTagsF
set_option linter.unusedSectionVars false
set_option linter.unusedVariables false
set_option linter.unusedSimpArgs false
set_option linter.deprecated false
namespace Go.Proofs.Ytminoakdilbokaa.Raw
open Go.RowKit Go.Cx

set_option maxRecDepth 100000 in
set_option maxHeartbeats 1600000 in
theorem without_any (v : Value) (ts : List Tag) (y : Int) (w : World) (h : RSl (fun b => b < w.heap.size) w v ts) (hts : ts.length ≤ 1000000) (hvs : ∀ t ∈ ts, t.val.length ≤ 1000000) :
    Calls Try.prog 21 #[v, .int .i64 y] w fun e w' => ∃ v, e = .returned v ∧ RSl (fun b => w.heap.size ≤ b ∧ b < w'.heap.size) w' v (others ts y) ∧ Below w.heap.size w w' := by
  obtain ⟨ao, cap, cells, rfl, hr, ha⟩ := h
  have hm := hr.cle
  have hM := hr.max
  unfold maxLen at hM
  go_enter Try.func21, Try.ntmps21
  go_wp2
  go_loopw [5, 10] (fun out i wr => ∃ k : Nat, k ≤ ts.length ∧ i = .int .i64 k ∧ Own wr w.heap.size 34 out (others (ts.take k) y) w.heap.size ∧ Below w.heap.size w wr) (fun _ i _ => ts.length - (intOf i).toNat)
  case atStart => exact ⟨0, by omega, rfl, Own.nil _ _ _ _, Below.refl _ _⟩
  case round =>
    obtain ⟨k, hk, rfl, hown, hb⟩ := hrel
    have hbs := hb.size
    by_cases hlt : k < ts.length
    · obtain ⟨vo, n, vc, h1, h2, hn, h3, h4⟩ := RAll.tag ha hlt
      rcases hr.at_ with ⟨h0, _⟩ | ⟨b, off, rfl, hgb, hc⟩
      · omega
      have c1 : wr.cell? ⟨b, off + k * 2, none⟩ = some (.int .i64 ts[k].typ) := (hb.cell hgb).trans (hc _ _ h1)
      have c2 : wr.cell? ⟨b, off + k * 2 + 1, none⟩ = some (.slice vo n vc) := (hb.cell hgb).trans (by rw [Nat.add_assoc]; exact hc _ _ h2)
      have hs := others_snoc (ts.take k) ts[k] y
      rw [← List.take_succ_eq_append_getElem hlt] at hs
      have hlen := others_le (ts.take k) y
      have hlen2 : (ts.take k).length ≤ 1000000 := by simp; omega
      have hvl := hvs ts[k] (List.getElem_mem hlt)
      have Hn := Lib.hid hn
      have Hs := Lib.hid hs
      clear hn hs hc h1 h2
      generalize others (ts.take k) y = acc at *
      generalize ts[k] = tk at *
      by_cases hq : (tk.typ == y) = true
      · have Hq := Lib.hid hq
        have hq2 : (tk.typ == y) = true := hq
        clear hq
        obtain ⟨ty, hty⟩ : ∃ ty, ty = tk.typ := ⟨_, rfl⟩
        rw [← hty] at c1 hq2
        clear hty
        go_wp2
        go_roundw
        case rel => exact ⟨k + 1, by omega, by go_num, by rw [Hs.out, if_pos Hq.out]; simpa using hown.alloc _, hb.alloc hbs _⟩
        case measure => simp [intOf]; omega
      · have hq2 : (tk.typ == y) = false := by simpa using hq
        have Hq := Lib.hid hq
        clear hq
        obtain ⟨ty, hty⟩ : ∃ ty, ty = tk.typ := ⟨_, rfl⟩
        rw [← hty] at c1 hq2 h3
        have Hty := Lib.hid hty
        clear hty
        obtain ⟨W0, hW0⟩ : ∃ W0, W0 = wr.alloc (.cells #[.int .i64 ty, .slice vo n vc] 34) := ⟨_, rfl⟩
        have b2 : Below w.heap.size w W0 := by rw [hW0]; exact hb.alloc hbs _
        have hown0 : Own W0 w.heap.size 34 u5 acc w.heap.size := by rw [hW0]; exact hown.alloc _
        have x0 : W0.heap[wr.heap.size]? = some (.cells #[.int .i64 ty, .slice vo n vc] 34) := by rw [hW0]; exact heap_alloc_new wr _
        have s0 : W0.heap.size = wr.heap.size + 1 := by rw [hW0]; simp
        have n0 : some wr.heap.size ≠ u5.ownBlock := fun he => by have := (hown.lt _ he.symm).2; omega
        have HW := Lib.hid hW0
        clear hW0
        have hS : ∀ W : World, W.heap[wr.heap.size]? = some (.cells #[.int .i64 ty, .slice vo n vc] 34) → W.cell? ⟨wr.heap.size, 0, none⟩ = some (.int .i64 ty) ∧ W.cell? ⟨wr.heap.size, 1, none⟩ = some (.slice vo n vc) :=
          fun W hW => ⟨by rw [cell_of_row _ _ _ _ _ _ hW]; rfl, by rw [cell_of_row _ _ _ _ _ _ hW]; rfl⟩
        go_wp2_with fail
        rw [← HW.out]
        obtain ⟨c3, c4⟩ := hS W0 x0
        have Hx0 := Lib.hid x0
        have HS := Lib.hid hS
        clear x0 hS c1 c2
        go_region_held3 (fun W => W.cell? ⟨wr.heap.size, 0, none⟩ = some (.int .i64 ty) ∧ W.cell? ⟨wr.heap.size, 1, none⟩ = some (.slice vo n vc))
          (first | go_keep | exact HS.out _ x3 | exact HS.out _ x4)
          (first
            | (go_at_call 28; refine (clone_any _ tk.val _ ?_ (by omega)).mono ?_; exact (RSl.of_bytes Hn.out.symm h4).mono (fun j hj => Nat.lt_of_lt_of_le hj b2.size) (fun j hj => b2.drew.block j hj); rintro e w3 ⟨vb, rfl, hvb, hb3⟩; obtain ⟨va, vk, hve, hrv⟩ := hvb.bytes; rw [← Hn.out] at hve hrv; subst hve; have x3 := (hb3.block wr.heap.size (by show wr.heap.size < W0.heap.size; omega)).trans Hx0.out; have b3 : Below w.heap.size w w3 := b2.drew.trans (hb3.mono b2.size); have hown3 := hown0.drew.below hb3)
            | (revert hown3; intro hown3
               have hrd : ∀ o, Rep.rd (fun b => b < (w3.alloc o).heap.size ∧ some b ≠ u5.ownBlock ∧ w.heap.size ≤ b) (w3.alloc o) [.int .i64 ty, .slice va n vk] tk := by
                 intro o
                 refine ⟨_, by rw [Hty.out], by rw [← Hty.out]; exact h3, RSl.of_bytes Hn.out.symm (hrv.mono (fun j hj => ?_) (fun j hj => heap_alloc_old w3 o hj.2))⟩
                 have hj1 := hj.1
                 have hb2s := b2.size
                 have hj2 : W0.heap.size ≤ j := hj1
                 refine ⟨by have := hj.2; simp; omega, fun he => ?_, by omega⟩
                 have := (hown0.lt j he.symm).2
                 omega
               refine step_append (α := Tag) (base := w.heap.size) (ys := [tk]) (by rfl) (by rfl) Try.underlying22 Try.infoTag rfl (by rfl) (by rfl) (hown3.alloc _) (srcs_one Try.underlying22 (heap_alloc_new w3 _) (hrd _)) (by simp; omega) (by decide) (by have := b3.size; simp; omega) ?_
               intro v4 w4 hown4 happ4
               have x4 := happ4.keep ((heap_alloc_old w3 _ (Array.getElem?_eq_some_iff.1 x3).1).trans x3) n0))
        have b4 : Below w.heap.size w w4 := (b3.alloc b3.size _).grown happ4.by_ (by have := b3.size; simp; omega) (fun j hj => (hown3.lt j hj).1)
        clear hown3 happ4 hown0 hrv hb3 c3 c4
        go_wp2
        go_roundw
        case rel => exact ⟨k + 1, by omega, by go_num, by rw [Hs.out, if_neg Hq.out]; exact hown4, b4⟩
        case measure => simp [intOf]; omega
    · have hkt : ts.take k = ts := List.take_of_length_le (by omega)
      rw [hkt] at hown
      clear hkt
      go_wp2
      go_ret
      exact ⟨_, rfl, hown.fresh_any, hb⟩
end Go.Proofs.Ytminoakdilbokaa.Raw
