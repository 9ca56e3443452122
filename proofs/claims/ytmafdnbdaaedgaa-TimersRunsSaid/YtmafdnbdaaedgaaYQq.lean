/- Timers: the sort, told to the machine over any heap. No condition. -/
import Derived.Test.YtmafdnbdaaedgaaYQp
import Derived.Test.YtmafdnbdaaedgaaYb1
set_option linter.unusedSectionVars false
set_option linter.unusedVariables false
set_option linter.unusedSimpArgs false
set_option linter.deprecated false
namespace Go.Proofs.Ytmafdnbdaaedgaa
open Go.RowKit Go.Cx Go.Am Go.Sort
theorem srtT_len (p : List It) : (srtT p).length = p.length := List.length_mergeSort ..
theorem srtT_perm (p : List It) : (srtT p).Perm p := List.mergeSort_perm ..
theorem tsort_am {H : Heap} {r : Nat} {p : List It} (hr : H[r]? = some (some (.row true 1 (nms p)))) (it : ∀ a ∈ p, ∃ i : Int, H[a.1]? = some (itO a i)) (nd : (p.map (·.2.1)).Nodup) (hl : p.length ≤ 1000000) :
    ACalls E0 23 [.hs r 1 0 p.length, .fn 24 [] []] H fun x H' => x = .tup [] ∧ H' = H.set r (some (.row true 1 (nms (srtT p)))) := by
  refine acalls_raw Try.func23 rfl (by kernel_rfl) fun w M vs hG hv => ?_
  unfold VRt VRt VRt at hv
  obtain ⟨v0, r0, rfl, k0, v1, r1, rfl, k1, rfl⟩ := hv
  unfold VR at k0 k1
  obtain ⟨us1, ks1, rfl, k2, k3⟩ := k1
  unfold VRt at k2 k3
  subst k2 k3
  obtain ⟨hrl, ao, cap, rfl, c1, c2, c3, c4⟩ := k0
  have rt : ∀ (n : Nat) (w' : World), VR M n w' (.tup []) (.tuple #[]) := fun n w' => by
    unfold VR
    exact ⟨[], rfl, by unfold VRt; rfl⟩
  cases hcase : p with
  | nil =>
    subst hcase
    refine (sortT0 ao cap w).mono ?_
    rintro e w' ⟨rfl, rfl⟩
    have e0 : H.set r (some (.row true 1 (nms (srtT ([] : List It))))) = H := by
      have e1 : srtT ([] : List It) = [] := List.length_eq_zero_iff.1 (srtT_len [])
      rw [e1]
      apply List.ext_getElem?
      intro k
      rw [List.getElem?_set]
      split
      · next e2 => subst e2; exact hr.symm
      · rfl
    exact ⟨_, _, _, M, rfl, ⟨rfl, rfl⟩, by rw [e0]; exact hG, rt _ _, by rw [e0]; exact Ext.refl _ _ _⟩
  | cons x0 xs0 =>
    rw [← hcase]
    have hpos : 0 < p.length := by rw [hcase]; exact Nat.succ_pos _
    rcases c4 with c4 | c4 | ⟨b, b1, rfl, b3⟩
    · omega
    · omega
    have hB := hG.blks r _ hr
    rcases hB with ⟨q1, _⟩ | ⟨b', cur, e, fr, us, q1, q2, q3, q4, q5, q6, q7⟩
    · rw [b1] at q1; cases q1
    rw [b1] at q1
    cases q1
    obtain ⟨hus, hin⟩ := VRss_nms q5
    subst hus
    rw [List.length_map] at q6
    have hle : p.length ≤ cur.size := by
      have := congrArg List.length q6
      simp at this
      omega
    have hblk : b < w.heap.size := (Array.getElem?_eq_some_iff.1 q2).1
    haveI : Inhabited {a : It // a ∈ p} := ⟨⟨x0, by rw [hcase]; exact List.mem_cons_self ..⟩⟩
    have hH : Holds (fun x : {a : It // a ∈ p} => ptV M x.1) w b 0 p.attach.toArray := by
      intro j hj
      have hj' : j < p.length := by simpa using hj
      have h1 : (cur.toList.take p.length)[j]? = (p.map (ptV M))[j]? := by rw [q6]
      rw [List.getElem?_take_of_lt hj'] at h1
      constructor
      · simp only [World.cell?, q2, Nat.zero_add]
        simp only [Option.isSome_none, Bool.false_eq_true, if_false]
        rw [← Array.getElem?_toList, h1, getElem!_pos _ j hj]
        simp [hj']
      · simp only [World.frozen?, q2]
        rcases q3 with rfl | q3
        · simp
        · simp
          omega
    have hcmp : CmpLays1 Try.prog 24 #[] (fun x : {a : It // a ∈ p} => ptV M x.1) (cfS p) b 0 p.attach.toArray.size w := by
      intro m os dk _ x y
      have hx (z : {a : It // a ∈ p}) : ∃ bz, M.blk z.1.1 = some bz ∧ ItW (sortWorld (fun x : {a : It // a ∈ p} => ptV M x.1) w b 0 m dk os) bz z.1.2.1 z.1.2.2 := by
        obtain ⟨hz, bz, ez⟩ := hin z.1 z.2
        obtain ⟨i, hi⟩ := it z.1 z.2
        refine ⟨bz, ez, itW_sort (itW_of hG hi ez) fun e2 => ?_⟩
        subst e2
        refine hG.far r z.1.1 _ _ _ hr hi rfl (fun e3 => ?_) b1 ez
        rw [e3, hr] at hi
        unfold itO at hi
        cases hi
      obtain ⟨bx, ex, ix⟩ := hx x
      obtain ⟨bb, ey, iy⟩ := hx y
      have hc := cmp_world ix iy
      have v (z : {a : It // a ∈ p}) (bz : Nat) (ez : M.blk z.1.1 = some bz) : ptV M z.1 = .pointer (some ⟨bz, 0, none⟩) := by
        unfold ptV
        rw [ez]
        rfl
      simp only [v x bx ex, v y bb ey]
      exact hc
    have hz : (0 : Nat) * 1 = 0 := rfl
    rw [hz]
    have hc := sortT (fun x : {a : It // a ∈ p} => ptV M x.1) (fun _ => rfl) (cfS p) (swoT p) b 0 cap p.attach.toArray w hcmp hH hblk (by simp; omega) (totT nd)
    have hsz : p.attach.toArray.size = p.length := by simp
    rw [hsz] at hc
    refine hc.mono ?_
    rintro ed w' ⟨rfl, n, os, rfl⟩
    have hsl := srtT_len p
    have hat := srt_attach p
    have hlt : p.attach.toArray.toList = p.attach := rfl
    rw [hlt]
    generalize (p.attach.mergeSort fun x y => !(ltOf (cfS p) y x)) = ts at *
    have htl : ts.length = p.length := by rw [← hsl, ← hat, List.length_map]
    obtain ⟨w1, hw1⟩ : ∃ w1, w1 = putRow (fun x : {a : It // a ∈ p} => ptV M x.1) (Sort.ahead w n) b 0 ts.toArray := ⟨_, rfl⟩
    have hw2 : sortWorld (fun x : {a : It // a ∈ p} => ptV M x.1) w b 0 n ts.toArray os = grow w1 os := by rw [hw1]; rfl
    rw [hw2]
    have hb1 : w1.heap[b]? = some (.cells (putCells (fun x : {a : It // a ∈ p} => ptV M x.1) 0 ts.toArray cur) e fr) := by
      rw [hw1]
      exact heap_sortedT _ q2
    have hoth : ∀ k, k ≠ b → w1.heap[k]? = w.heap[k]? := fun k hk => by
      rw [hw1]
      exact other_sortedT _ hk
    have hszw : w1.heap.size = w.heap.size := by rw [hw1]; simp [putRow, mapBlock, Sort.ahead]
    have hW := Gam.writeO (E := E0) (w' := w1) (B' := .row true 1 (nms (srtT p))) hG (r := r) hr rfl b1 (by rw [hw1]; rfl) ⟨by rw [hw1]; rfl, by rw [hw1]; exact Nat.le_add_right _ _⟩ (by rw [hw1]; rfl) hszw hoth (fun _ _ => .inr ⟨b, _, e, fr, (srtT p).map (ptV M), b1, hb1, by simpa [putCells] using q3, by simpa [putCells] using q4, VRss_ptv (fun a ha => hin a ((srtT_perm p).mem_iff.1 ha)), by
        rw [List.length_map, hsl, ← htl, take_putCellsT cur ts (by omega), ← hat, List.map_map]
        rfl, fun h => by cases h⟩)
    have hgr : w1.grownBy (grow w1 os) none := ⟨rfl, rfl, rfl, by simp [grow], fun k hk _ => heap_grow_old w1 os hk⟩
    refine ⟨_, _, _, M, rfl, ⟨rfl, rfl⟩, hW.1.other hgr (by simp) (by simp), rt _ _, hW.2.trans ⟨rfl, ⟨rfl, Nat.le_refl _⟩, rfl, hgr.size, fun _ h => h, fun _ h => .inl h, fun k hk _ => hgr.block k hk (by simp), Nat.le_refl _, fun _ _ => rfl, fun _ _ => rfl, fun _ h => .inl h⟩⟩
end Go.Proofs.Ytmafdnbdaaedgaa
