/- The abstract machine: a row of one's own, sorted by the library. No condition. -/
import Derived.Sort.OwnSortedInts
import Derived.Test.YtckppkimjiifpaaQb1
import Derived.Test.YtckppkimjiifpaaQMq
set_option linter.unusedSectionVars false
set_option linter.unusedVariables false
set_option linter.unusedSimpArgs false
set_option linter.deprecated false
namespace Go.Am
open Go.RowKit Go.Cx Go.Sort Go.Proofs Go.ChangeShapes Go.WideShapes
theorem VRss_ints {M : Mem} {n : Nat} {w : World} : ∀ {l : List Int} {us : List Value}, VRss M n w 1 (cels l) us → us = l.map (Value.int .i64)
  | [], us, h => by
    unfold cels VRss at h
    simpa using h
  | x :: l, us, h => by
    have h' : VRss M n w 1 ([.v (.int .i64 x)] :: cels l) us := h
    unfold VRss at h'
    obtain ⟨c, r, rfl, _, h2, h3⟩ := h'
    unfold VRs at h2
    obtain ⟨u, r', rfl, _, h4, h5⟩ := h2
    unfold VRs at h5
    subst h5
    unfold VR at h4
    subst h4
    rw [VRss_ints h3]
    rfl
theorem VRss_int {M : Mem} {n : Nat} {w : World} : ∀ l : List Int, VRss M n w 1 (cels l) (l.map (Value.int .i64))
  | [] => by
    unfold cels VRss
    rfl
  | x :: l => by
    show VRss M n w 1 ([.v (.int .i64 x)] :: cels l) ([.int .i64 x] ++ l.map (Value.int .i64))
    unfold VRss
    refine ⟨_, _, rfl, rfl, ?_, VRss_int l⟩
    unfold VRs
    refine ⟨_, [], rfl, rfl, by unfold VR; rfl, ?_⟩
    unfold VRs
    rfl
def srtI (l : List Int) : List Int := l.mergeSort fun x y => decide (x ≤ y)
theorem srtI_len (l : List Int) : (srtI l).length = l.length := List.length_mergeSort ..
theorem sort_am {E : Env} {f g : FuncId} {fn : Func} {c : Code} (hf : E.P.funcs[f]? = some fn) (hb : fn.body = some c) (hn : (fn.name == "runtime.NumGoroutine") = false)
    (hS : ∀ (b cap : Nat) (d : Array Int) (w : World), Holds (Value.int .i64) w b 0 d → b < w.heap.size → d.size < 4611686018427387904 → Calls E.P f #[.slice (some ⟨b, 0, none⟩) d.size cap, .func (.func g) #[] #[]] w fun e w' => e = .returned (.tuple #[]) ∧ ∃ n os, w' = grow (putRow (Value.int .i64) (Sort.ahead w n) b 0 (srtI d.toList).toArray) os)
    (h0 : ∀ (p : Option Addr) (cap : Nat) (w : World), Calls E.P f #[.slice p 0 cap, .func (.func g) #[] #[]] w fun e w' => e = .returned (.tuple #[]) ∧ w' = w)
    (l : List Int) (hl : l.length < 4611686018427387904) : ACalls E f [.hs 0 1 0 l.length, .fn g [] []] [some (.row true 1 (cels l))] fun r H' => r = .tup [] ∧ H' = [some (.row true 1 (cels (srtI l)))] := by
  refine acalls_raw hf hb hn fun w M vs hG hv => ?_
  unfold VRt VRt VRt at hv
  obtain ⟨v0, r0, rfl, k0, v1, r1, rfl, k1, rfl⟩ := hv
  unfold VR at k0 k1
  obtain ⟨us1, ks1, rfl, k2, k3⟩ := k1
  unfold VRt at k2 k3
  subst k2 k3
  obtain ⟨_, ao, cap, rfl, c1, c2, c3, c4⟩ := k0
  have rt : ∀ w' : World, VR M [some (Blk.row true 1 (cels (srtI l)))].length w' (.tup []) (.tuple #[]) := fun w' => by
    unfold VR
    exact ⟨[], rfl, by unfold VRt; rfl⟩
  cases hcase : l with
  | nil =>
    subst hcase
    refine (h0 ao cap w).mono ?_
    rintro e w' ⟨rfl, rfl⟩
    have e0 : srtI ([] : List Int) = [] := by simp [srtI]
    rw [e0] at rt
    exact ⟨_, _, _, M, rfl, ⟨rfl, by rw [e0]⟩, hG, rt w', Ext.refl _ _ _⟩
  | cons x xs =>
    rw [← hcase]
    have hpos : 0 < l.length := by rw [hcase]; exact Nat.succ_pos _
    rcases c4 with c4 | c4 | ⟨b, b1, rfl, b3⟩
    · omega
    · omega
    have hB := hG.blks 0 _ rfl
    rcases hB with ⟨q1, _⟩ | ⟨b', cur, e, fr, us, q1, q2, q3, q4, q5, q6, q7⟩
    · rw [b1] at q1; cases q1
    rw [b1] at q1
    cases q1
    have hus := VRss_ints q5
    subst hus
    rw [List.length_map] at q6
    have hle : l.length ≤ cur.size := by
      have := congrArg List.length q6
      simp at this
      omega
    have hblk : b < w.heap.size := (Array.getElem?_eq_some_iff.1 q2).1
    have hH : Holds (Value.int .i64) w b 0 l.toArray := by
      intro j hj
      have hj' : j < l.length := by simpa using hj
      have h1 : (cur.toList.take l.length)[j]? = (l.map (Value.int .i64))[j]? := by rw [q6]
      rw [List.getElem?_take_of_lt hj'] at h1
      constructor
      · simp only [World.cell?, q2, Nat.zero_add]
        simp only [Option.isSome_none, Bool.false_eq_true, if_false]
        rw [← Array.getElem?_toList, h1]
        simp [hj']
      · simp only [World.frozen?, q2]
        rcases q3 with rfl | q3
        · simp
        · simp
          omega
    have hz : (0 : Nat) * 1 = 0 := rfl
    rw [hz]
    have hc := hS b cap l.toArray w hH hblk (by simpa using hl)
    have hsz : l.toArray.size = l.length := by simp
    rw [hsz] at hc
    refine hc.mono ?_
    rintro ed w' ⟨rfl, n, os, rfl⟩
    have hsl := srtI_len l
    obtain ⟨w1, hw1⟩ : ∃ w1, w1 = putRow (Value.int .i64) (Sort.ahead w n) b 0 (srtI l).toArray := ⟨_, rfl⟩
    have hw2 : putRow (Value.int .i64) (Sort.ahead w n) b 0 (srtI l.toArray.toList).toArray = w1 := by rw [hw1]
    rw [hw2]
    have hb1 : w1.heap[b]? = some (.cells (putCells (Value.int .i64) 0 (srtI l).toArray cur) e fr) := by
      have := heap_sortedI (n := n) (os := #[]) (srtI l).toArray q2
      rw [grow_empty, ← hw1] at this
      exact this
    have hgb : w.grownBy w1 (some b) := by
      have := grownBy_sortedI (w := w) (g := b) (n := n) (os := #[]) (srtI l).toArray
      rw [grow_empty, ← hw1] at this
      exact this
    have hszw : w1.heap.size = w.heap.size := by rw [hw1]; simp [putRow, mapBlock, Sort.ahead]
    have hW := Gam.writeO (E := E) (w' := w1) (B' := .row true 1 (cels (srtI l))) hG (r := 0) rfl rfl b1 hgb.os hgb.tape hgb.output hszw (fun k hk => by
      by_cases hkl : k < w.heap.size
      · exact hgb.block k hkl (fun e => hk (by cases e; rfl))
      · rw [Array.getElem?_eq_none (by omega), Array.getElem?_eq_none (by omega)]) (fun _ _ => .inr ⟨b, _, e, fr, (srtI l).map (Value.int .i64), b1, hb1, by simpa [putCells] using q3, by simpa [putCells] using q4, VRss_int _, by
        rw [List.length_map]
        exact take_putCellsI cur (srtI l) (by omega), fun h => by cases h⟩)
    have hgr : w1.grownBy (grow w1 os) none := ⟨rfl, rfl, rfl, by simp [grow], fun k hk _ => heap_grow_old w1 os hk⟩
    refine ⟨_, _, _, M, rfl, ⟨rfl, rfl⟩, hW.1.other hgr (by simp) (by simp), rt _, hW.2.trans ⟨rfl, rfl, rfl, hgr.size, fun _ h => h, fun _ h => .inl h, fun k hk _ => hgr.block k hk (by simp), Nat.le_refl _, fun _ _ => rfl, fun _ _ => rfl, fun _ h => .inl h⟩⟩
end Go.Am
