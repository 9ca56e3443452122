/- slices.Delete of one need, from a row of one's own. No condition. -/
import Derived.Test.YtjfoicebdjonfaaProg
import Derived.Shelf.RegionOpenPlain
import Derived.WalkKit
import Derived.Deep.LoopGhost
import Derived.Deep.RegionLaw
import Derived.Lib.Walk
import Derived.Lib.SliceRun
import Derived.Deep.MidRow
import Derived.StillTailTactics
import Derived.Deep.RegionHeld3
import Derived.BigQuiet
import Derived.Test.YtjfoicebdjonfaaQb2
set_option linter.unusedSectionVars false
set_option linter.unusedVariables false
set_option linter.unusedSimpArgs false
set_option linter.deprecated false
namespace Go.Proofs.Ytjfoicebdjonfaa
open Go.RowKit Go.Lib Go.Proofs
theorem infoN : (Try.prog.info? 45).map (fun i => (i.zero, i.size, i.bytes)) = some (some (.agg #[.int .i64 0, .bool false]), 2, 16) := by kernel_rfl
theorem run_clear1 (w : World) (ty b o c : Nat) (hc : ∀ j, j < 2 → (w.cell? ⟨b, o + j, none⟩).isSome = true) (hf : ∀ j, j < 2 → w.frozen? ⟨b, o + j, none⟩ = false) :
    (Builtin.clear_ #[31] ty #[.slice (some ⟨b, o, none⟩) 1 c]).run Try.prog w = .ok (.tuple #[]) (w.setCells b o [.int .i64 0, .bool false]) := by
  have hst := run_storeCells_cells (P := Try.prog) b o [.int .i64 0, .bool false] 0 w (by simpa using hc) (by simpa using hf) (by simp [Value.oneCell'])
  simp only [Nat.add_zero] at hst
  have hz : (zeroValue 45).run Try.prog w = .ok (.agg #[.int .i64 0, .bool false]) w := Try.zeroValue45 w
  have hzc : (Builtin.zeroCells (Value.agg #[.int .i64 0, .bool false]).cells 1).toList = [.int .i64 0, .bool false] := by
    simp [Builtin.zeroCells, Value.cells]
    rfl
  simp [Builtin.clear_, run_underlying Try.underlying31, hz, hzc, hst]
set_option maxHeartbeats 4000000 in
set_option maxRecDepth 1000000 in
theorem delete_raw (b n cap k : Nat) (cur : Array Value) (e : TypeId) (fr : Nat × Nat) (w : World) (hcur : w.heap[b]? = some (.cells cur e fr)) (hfr : fr = (0, 0) ∨ cur.size ≤ fr.1) (hk : k < n) (hn : n ≤ cap) (hcs : cap * 2 ≤ cur.size) (hm : cap ≤ 9223372036854775807) (hone : ∀ u ∈ cur.toList.take (n * 2), u.oneCell' = true) :
    Calls Try.prog 78 #[.slice (some ⟨b, 0, none⟩) n cap, .int .i64 (k : Int), .int .i64 ((k + 1 : Nat) : Int)] w fun e w' => e = .returned (.slice (some ⟨b, 0, none⟩) (n - 1) cap) ∧ w' = (w.drew.setCells b (k * 2) ((cur.toList.take (n * 2)).drop ((k + 1) * 2))).setCells b ((n - 1) * 2) [.int .i64 0, .bool false] := by
  obtain ⟨i0, hi0, hz0, hz1, hz2⟩ := info_parts infoN
  obtain ⟨j, hj⟩ : ∃ j, j = k + 1 := ⟨_, rfl⟩
  rw [← hj]
  obtain ⟨news, hnews⟩ : ∃ news, news = (cur.toList.take (n * 2)).drop (j * 2) := ⟨_, rfl⟩
  rw [← hnews]
  have hlen : news.length = (n - j) * 2 := by rw [hnews]; simp; omega
  have hat : ∀ t, w.cell? ⟨b, t, none⟩ = cur[t]? := fun t => by simp [World.cell?, hcur]
  have hget : ∀ t u, news[t]? = some u → w.cell? ⟨b, j * 2 + t, none⟩ = some u := by
    intro t u hu
    rw [hat, ← hu, hnews, List.getElem?_drop, List.getElem?_take]
    have hlt : t < news.length := (List.getElem?_eq_some_iff.1 hu).1
    rw [hlen] at hlt
    rw [if_pos (by omega), Array.getElem?_toList]
  have hsome : ∀ t, t < cur.size → (w.cell? ⟨b, t, none⟩).isSome = true := fun t ht => by rw [hat, Array.getElem?_eq_getElem ht]; rfl
  have hfrz : ∀ t, t < cur.size → w.frozen? ⟨b, t, none⟩ = false := fun t ht => by
    simp only [World.frozen?, hcur]
    rcases hfr with rfl | h
    · simp
    · simp; omega
  obtain ⟨A, hA, hsrc⟩ : ∃ A : Addr, (if cap = j then some (⟨b, 0, none⟩ : Addr) else some ⟨b, j * 2, none⟩) = some A ∧ Hid (∀ t u, news[t]? = some u → w.drew.cell? (A.add t) = some u) := by
    by_cases h : cap = j
    · refine ⟨⟨b, 0, none⟩, by simp [h], fun t u hu => ?_⟩
      have h0 : news.length = 0 := by rw [hlen]; omega
      rw [List.length_eq_zero_iff.1 h0] at hu
      simp at hu
    · refine ⟨⟨b, j * 2, none⟩, by simp [h], fun t u hu => ?_⟩
      rw [Addr.add_lit]
      exact hget t u hu
  have s1 : Hid (news.length = (n - j) * 2) := hlen
  have s2 : Hid (∀ u ∈ news, u.oneCell' = true) := fun u hu => hone u (by rw [hnews] at hu; exact List.mem_of_mem_drop hu)
  have s3 : Hid (∀ t, t < news.length → (w.drew.cell? ⟨b, 0 + k * 2 + t, none⟩).isSome = true ∧ w.drew.frozen? ⟨b, 0 + k * 2 + t, none⟩ = false) := by
    intro t ht
    rw [hlen] at ht
    exact ⟨hsome _ (by omega), hfrz _ (by omega)⟩
  obtain ⟨W1, hW1⟩ : ∃ W1, W1 = w.drew.setCells b (0 + k * 2) news := ⟨_, rfl⟩
  have hcl : ∀ ty, (Builtin.clear_ #[31] ty #[.slice (some ⟨b, (k + (n - j)) * 2, none⟩) (n - (k + (n - j))) (cap - (k + (n - j)))]).run Try.prog W1 = .ok (.tuple #[]) (W1.setCells b ((k + (n - j)) * 2) [.int .i64 0, .bool false]) := fun ty => by
    rw [show n - (k + (n - j)) = 1 by omega]
    exact run_clear1 W1 ty b _ _ (fun t ht => by rw [hW1]; exact Go.World.isSome_setCells b _ _ _ _ (hsome _ (by omega))) (fun t ht => by rw [hW1, World.frozen?_setCells]; exact hfrz _ (by omega))
  have hW : Hid (W1 = w.drew.setCells b (0 + k * 2) news) := hW1
  rw [show w.drew.setCells b (k * 2) news = W1 by rw [hW1, Nat.zero_add]]
  have hkc : k ≤ cap := by omega
  have hjc : j ≤ cap := by omega
  have hjn : j ≤ n := by omega
  have hkj : k ≠ j := by omega
  have hkj2 : k ≤ j := by omega
  have hj2 : Hid (j = k + 1) := hj
  have hkn : Hid (k + (n - j) = n - 1) := by have : k + (n - j) = n - 1 := by omega
                                             exact this
  rw [show (n - 1) * 2 = (k + (n - j)) * 2 by omega, show n - 1 = k + (n - j) by omega]
  clear hW1 hnews hlen hat hget hsome hfrz hcur hone hj
  have mixed : Try.prog.follows .mixedOrders = true := by kernel_rfl
  go_enter Try.func78, Try.ntmps78
  go_wp2_with fail
  · go_region_law (refine step_append_room rfl (.tmp 22) (.tmp 25) 31 rfl 45 i0 2 Try.underlying31 hi0 hz1 b 0 k cap (by simp [Act.eval, Act.put]) A (n - j) (cap - j) news (by simp [Act.eval, Act.put]) s1.out hsrc.out s2.out (by omega) s3.out ?_; rw [← hW.out])
    go_wp2
    go_ret
    exact ⟨rfl, rfl⟩
end Go.Proofs.Ytjfoicebdjonfaa
