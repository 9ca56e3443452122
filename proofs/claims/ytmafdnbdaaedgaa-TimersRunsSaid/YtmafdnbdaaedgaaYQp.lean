/- Timers: the sort, told to the machine. No condition. -/
import Derived.Test.YtmafdnbdaaedgaaYQo
import Derived.Test.YtmafdnbdaaedgaaYb1
set_option linter.unusedSectionVars false
set_option linter.unusedVariables false
set_option linter.unusedSimpArgs false
set_option linter.deprecated false
namespace Go.Proofs.Ytmafdnbdaaedgaa
open Go.RowKit Go.Cx Go.Am Go.Sort
def ptV (M : Mem) (a : It) : Value := .pointer (some ⟨(M.blk a.1).getD 0, 0, none⟩)
theorem VRss_nms {M : Mem} {n : Nat} {w : World} : ∀ {p : List It} {us : List Value}, VRss M n w 1 (nms p) us → us = p.map (ptV M) ∧ ∀ a ∈ p, a.1 < n ∧ ∃ b, M.blk a.1 = some b
  | [], us, h => by
    unfold nms VRss at h
    exact ⟨by simpa using h, fun a ha => by cases ha⟩
  | x :: p, us, h => by
    have h' : VRss M n w 1 ([.ptr x.1 0] :: nms p) us := h
    unfold VRss at h'
    obtain ⟨c, r, rfl, _, h2, h3⟩ := h'
    unfold VRs at h2
    obtain ⟨u, r', rfl, _, h4, h5⟩ := h2
    unfold VRs at h5
    subst h5
    unfold VR at h4
    obtain ⟨hx, b, hb, rfl⟩ := h4
    obtain ⟨e, g⟩ := VRss_nms h3
    refine ⟨by rw [e]; unfold ptV; simp [hb], fun a ha => ?_⟩
    rcases List.mem_cons.1 ha with ha | ha
    · rw [ha]; exact ⟨hx, b, hb⟩
    · exact g a ha
theorem VRss_ptv {M : Mem} {n : Nat} {w : World} : ∀ {p : List It}, (∀ a ∈ p, a.1 < n ∧ ∃ b, M.blk a.1 = some b) → VRss M n w 1 (nms p) (p.map (ptV M))
  | [], _ => by
    unfold nms VRss
    rfl
  | x :: p, h => by
    obtain ⟨hx, b, hb⟩ := h x (List.mem_cons_self ..)
    show VRss M n w 1 ([.ptr x.1 0] :: nms p) ([ptV M x] ++ p.map (ptV M))
    unfold VRss
    refine ⟨_, _, rfl, rfl, ?_, VRss_ptv fun a ha => h a (List.mem_cons_of_mem _ ha)⟩
    unfold VRs
    refine ⟨_, [], rfl, rfl, ?_, ?_⟩
    · unfold VR ptV
      exact ⟨hx, b, hb, by rw [hb]; rfl⟩
    · unfold VRs
      rfl
/-- A timer of the machine lies in the world. -/
theorem itW_of {M : Mem} {w : World} {H : Heap} (hG : Gam E0.gl M w H) {a : It} {i : Int} (h : H[a.1]? = some (itO a i)) {b : Nat} (hb : M.blk a.1 = some b) : ItW w b a.2.1 a.2.2 := by
  unfold itO at h
  have hB := hG.blks _ _ h
  obtain ⟨b', cur, t, fr, q1, q2, q3, q4, q5⟩ := hB
  rw [hb] at q1
  cases q1
  refine ⟨(Array.getElem?_eq_some_iff.1 q2).1, i, ?_⟩
  unfold VRs VRs VRs VRs at q5
  obtain ⟨u0, r0, e0, _, v0, u1, r1, e1, _, v1, u2, r2, e2, _, v2, e3⟩ := q5
  unfold VR at v0 v1 v2
  subst v0 v1 v2 e3 e2 e1
  have hc (k : Nat) : w.cell? ⟨b, k, none⟩ = cur[k]? := by
    unfold World.cell?
    rw [q2]
    rfl
  rw [hc, hc, hc, ← Array.getElem?_toList, ← Array.getElem?_toList, ← Array.getElem?_toList, e0]
  exact ⟨rfl, rfl, rfl⟩
/-- The worlds of the sort hold the timers still. -/
theorem itW_sort {α : Type} [Inhabited α] {enc : α → Value} {w : World} {blk m b : Nat} {os : Array Obj} {d : Array α} {k t : Int} (h : ItW w b k t) (hb : b ≠ blk) : ItW (sortWorld enc w blk 0 m d os) b k t := by
  obtain ⟨h0, i, h1, h2, h3⟩ := h
  have e (o : Nat) : (sortWorld enc w blk 0 m d os).cell? ⟨b, o, none⟩ = w.cell? ⟨b, o, none⟩ := by
    unfold sortWorld
    have h1 : (grow (putRow enc (Sort.ahead w m) blk 0 d) os).heap[b]? = w.heap[b]? := by
      rw [heap_grow_old _ _ (by simpa using h0)]
      unfold putRow mapBlock
      simp only [heap_ahead]
      rw [Array.getElem?_modify, if_neg (Ne.symm hb)]
    unfold World.cell?
    rw [h1]
  refine ⟨?_, i, by rw [e]; exact h1, by rw [e]; exact h2, by rw [e]; exact h3⟩
  unfold sortWorld grow
  simp
  omega
section
variable {α : Type} [Inhabited α] {enc : α → Value}
theorem heap_sortedT {w : World} {g n : Nat} {cur : Array Value} {e : TypeId} {fr : Nat × Nat} (d : Array α) (hb : w.heap[g]? = some (.cells cur e fr)) : (putRow enc (Sort.ahead w n) g 0 d).heap[g]? = some (.cells (putCells enc 0 d cur) e fr) := by
  simp [putRow, mapBlock, Sort.ahead, Array.getElem?_modify, hb, onCells]
theorem other_sortedT {w : World} {g n k : Nat} (d : Array α) (hk : k ≠ g) : (putRow enc (Sort.ahead w n) g 0 d).heap[k]? = w.heap[k]? := by
  simp [putRow, mapBlock, Sort.ahead, Array.getElem?_modify, Ne.symm hk]
theorem take_putCellsT (cur : Array Value) (ts : List α) (h : ts.length ≤ cur.size) : (putCells enc 0 ts.toArray cur).toList.take ts.length = ts.map enc := by
  apply List.ext_getElem?
  intro j
  by_cases hj : j < ts.length
  · rw [List.getElem?_take_of_lt hj, Array.getElem?_toList]
    simp [putCells, hj, show j < cur.size by omega]
  · rw [List.getElem?_take_eq_none (by omega), List.getElem?_eq_none (by simp; omega)]
end
end Go.Proofs.Ytmafdnbdaaedgaa
