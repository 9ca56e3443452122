/- The walks of tags.All, Find, Without and of the reference's All, Without. -/
import Derived.Test.YtminoakdilbokaaTagsA
import Derived.Deep.RegionWith
set_option linter.unusedSectionVars false
set_option linter.unusedVariables false
set_option linter.unusedSimpArgs false
set_option linter.deprecated false
namespace Go.Proofs.Ytminoakdilbokaa.Raw
open Go.RowKit Go.Cx

theorem Try.infoB : (Try.prog.info? 24).map (fun i => (i.zero, i.size, i.bytes)) = some (some (.slice none 0 0), 1, 24) := by kernel_rfl

def vals (ts : List Tag) (y : Int) : List (List UInt8) := (ts.filter fun t => t.typ == y).map (·.val)
def others (ts : List Tag) (y : Int) : List Tag := ts.filter fun t => !(t.typ == y)
theorem vals_snoc (ts : List Tag) (t : Tag) (y : Int) : vals (ts ++ [t]) y = vals ts y ++ (if t.typ == y then [t.val] else []) := by
  simp only [vals, List.filter_append, List.map_append, List.filter_cons, List.filter_nil]
  split <;> simp
theorem vals_le (ts : List Tag) (y : Int) : (vals ts y).length ≤ ts.length := by simp [vals]; exact List.length_filter_le _ _
theorem others_snoc (ts : List Tag) (t : Tag) (y : Int) : others (ts ++ [t]) y = others ts y ++ (if t.typ == y then [] else [t]) := by
  simp only [others, List.filter_append, List.filter_cons, List.filter_nil]
  cases t.typ == y <;> simp
theorem others_le (ts : List Tag) (y : Int) : (others ts y).length ≤ ts.length := List.length_filter_le _ _

set_option maxRecDepth 100000 in
set_option maxHeartbeats 1600000 in
theorem all_any (v : Value) (ts : List Tag) (y : Int) (w : World) (h : RSl (fun b => b < w.heap.size) w v ts) (hts : ts.length ≤ 1000000) (hvs : ∀ t ∈ ts, t.val.length ≤ 1000000) :
    Calls Try.prog 20 #[v, .int .i64 y] w fun e w' => ∃ v, e = .returned v ∧ RSl (fun b => w.heap.size ≤ b ∧ b < w'.heap.size) w' v (vals ts y) ∧ Below w.heap.size w w' := by
  obtain ⟨ao, cap, cells, rfl, hr, ha⟩ := h
  have hm := hr.cle
  have hM := hr.max
  unfold maxLen at hM
  go_enter Try.func20, Try.ntmps20
  go_wp2
  go_loopw [5, 10] (fun out i wr => ∃ k : Nat, k ≤ ts.length ∧ i = .int .i64 k ∧ Own wr w.heap.size 24 out (vals (ts.take k) y) w.heap.size ∧ Below w.heap.size w wr) (fun _ i _ => ts.length - (intOf i).toNat)
  case atStart => exact ⟨0, by omega, rfl, Own.nil _ _ _ _, Below.refl _ _⟩
  case round =>
    obtain ⟨k, hk, rfl, hown, hb⟩ := hrel
    have hbs := hb.size
    by_cases hlt : k < ts.length
    · obtain ⟨vo, n, vc, h1, h2, hn, h3, h4⟩ := RAll.tag ha hlt
      rcases hr.at_ with ⟨h0, _⟩ | ⟨b, off, rfl, hgb, hc⟩
      · omega
      have c1 : wr.cell? ⟨b, off + k * 2, none⟩ = some (.int .i64 ts[k].typ) := (hb.cell hgb).trans (hc _ _ h1)
      have c2 : wr.cell? ⟨b, off + k * 2 + 1, none⟩ = some (.slice vo n vc) := (hb.cell hgb).trans (by rw [Nat.add_assoc]; exact hc _ _ h2)
      have hs := vals_snoc (ts.take k) ts[k] y
      rw [← List.take_succ_eq_append_getElem hlt] at hs
      have hlen := vals_le (ts.take k) y
      have hlen2 : (ts.take k).length ≤ 1000000 := by simp; omega
      have hvl := hvs ts[k] (List.getElem_mem hlt)
      have Hn := Lib.hid hn
      have Hs := Lib.hid hs
      clear hn hs hc h1 h2
      generalize vals (ts.take k) y = acc at *
      generalize hty : ts[k].typ = ty at *
      clear hty
      by_cases hq : (ty == y) = true
      · go_wp2_with fail
        refine (clone_any _ ts[k].val _ ((RSl.of_bytes Hn.out.symm h4).mono (fun j hj => by simp; omega) (fun j hj => (heap_alloc_old wr _ (by omega)).trans (hb.block j hj))) (by omega)).mono ?_
        rintro e w3 ⟨vb, rfl, hvb, hb3⟩
        obtain ⟨va, vk, hve, hrv⟩ := hvb.bytes
        rw [← Hn.out] at hve hrv
        subst hve
        have b2 : Below w.heap.size w (wr.alloc (.cells #[.int .i64 ty, .slice vo n vc] 34)) := hb.alloc hbs _
        have b3 : Below w.heap.size w w3 := b2.trans (hb3.mono (by simp; omega))
        have hown3 := (hown.alloc (.cells #[.int .i64 ty, .slice vo n vc] 34)).below hb3
        have hrd : ∀ o, Rep.rd (fun b => b < (w3.alloc o).heap.size ∧ some b ≠ u5.ownBlock ∧ w.heap.size ≤ b) (w3.alloc o) [.slice va n vk] ts[k].val := by
          intro o
          refine ⟨_, rfl, RSl.of_bytes Hn.out.symm (hrv.mono (fun j hj => ?_) (fun j hj => heap_alloc_old w3 o hj.2))⟩
          have hj1 := hj.1
          simp at hj1
          refine ⟨by have := hj.2; simp; omega, fun he => ?_, by omega⟩
          have := (hown.lt j he.symm).2
          omega
        clear hown hb3 hvb hrv h4 b2 c1 c2
        go_wp2_with (at_builtin; refine wpList_append (α := List UInt8) (base := w.heap.size) (xs := acc) (ys := [ts[k].val]) rfl rfl Try.underlying45 Try.infoB rfl rfl rfl (hown3.alloc _) (srcs_one Try.underlying45 (heap_alloc_new w3 _) (hrd _)) (by simp; omega) (by decide) (by have := b3.size; simp; omega) ?go2)
        intro v4 w4 hown4 happ4
        have b4 : Below w.heap.size w w4 := (b3.alloc b3.size _).grown happ4.by_ (by have := b3.size; simp; omega) (fun j hj => (hown3.lt j hj).1)
        clear hown3 happ4 hrd
        go_wp2
        go_roundw
        case rel => exact ⟨k + 1, by omega, by go_num, by rw [Hs.out, if_pos hq]; exact hown4, b4⟩
        case measure => simp [intOf]; omega
      · have hq' : (ty == y) = false := by simpa using hq
        clear hq
        go_wp2
        go_roundw
        case rel => exact ⟨k + 1, by omega, by go_num, by rw [Hs.out, hq']; simpa using hown.alloc _, hb.alloc hbs _⟩
        case measure => simp [intOf]; omega
    · have hkt : ts.take k = ts := List.take_of_length_le (by omega)
      rw [hkt] at hown
      clear hkt
      go_wp2
      go_ret
      exact ⟨_, rfl, hown.fresh_any, hb⟩

set_option maxRecDepth 100000 in
set_option maxHeartbeats 1600000 in
theorem rall_any (v : Value) (ts : List Tag) (y : Int) (w : World) (h : RSl (fun b => b < w.heap.size) w v ts) (hts : ts.length ≤ 1000000) :
    Calls Try.prog 17 #[v, .int .i64 y] w fun e w' => ∃ v, e = .returned v ∧ RSl (fun b => b < w'.heap.size) w' v (vals ts y) ∧ Below w.heap.size w w' := by
  obtain ⟨ao, cap, cells, rfl, hr, ha⟩ := h
  have hm := hr.cle
  have hM := hr.max
  unfold maxLen at hM
  go_enter Try.func17, Try.ntmps17
  go_wp2
  go_loopw [5, 6] (fun out i wr => ∃ k : Nat, k ≤ ts.length ∧ i = .int .i64 k ∧ Own wr w.heap.size 24 out (vals (ts.take k) y) ∧ Below w.heap.size w wr) (fun _ i _ => ts.length - (intOf i).toNat)
  case atStart => exact ⟨0, by omega, rfl, Own.nil _ _ _ _, Below.refl _ _⟩
  case round =>
    obtain ⟨k, hk, rfl, hown, hb⟩ := hrel
    have hbs := hb.size
    by_cases hlt : k < ts.length
    · obtain ⟨vo, n, vc, h1, h2, hn, h3, h4⟩ := RAll.tag ha hlt
      rcases hr.at_ with ⟨h0, _⟩ | ⟨b, off, rfl, hgb, hc⟩
      · omega
      have c1 : wr.cell? ⟨b, off + k * 2, none⟩ = some (.int .i64 ts[k].typ) := (hb.cell hgb).trans (hc _ _ h1)
      have c2 : wr.cell? ⟨b, off + k * 2 + 1, none⟩ = some (.slice vo n vc) := (hb.cell hgb).trans (by rw [Nat.add_assoc]; exact hc _ _ h2)
      have hs := vals_snoc (ts.take k) ts[k] y
      rw [← List.take_succ_eq_append_getElem hlt] at hs
      have hlen := vals_le (ts.take k) y
      have hlen2 : (ts.take k).length ≤ 1000000 := by simp; omega
      have Hn := Lib.hid hn
      have Hs := Lib.hid hs
      clear hn hs hc h1 h2
      generalize vals (ts.take k) y = acc at *
      generalize hty : ts[k].typ = ty at *
      clear hty
      by_cases hq : (ty == y) = true
      · have hrd : ∀ o, Rep.rd (fun b => b < (wr.alloc o).heap.size ∧ some b ≠ u5.ownBlock ∧ 0 ≤ b) (wr.alloc o) [.slice vo n vc] ts[k].val := by
          intro o
          refine ⟨_, rfl, RSl.of_bytes Hn.out.symm (h4.mono (fun j hj => ?_) (fun j hj => (heap_alloc_old wr o (by omega)).trans (hb.block j hj)))⟩
          have := hown.avoid hbs j hj
          exact ⟨by simp; omega, this.2, Nat.zero_le _⟩
        go_wp2_with (at_builtin; refine wpList_append (α := List UInt8) (base := w.heap.size) (xs := acc) (ys := [ts[k].val]) rfl rfl Try.underlying45 Try.infoB rfl rfl rfl (hown.alloc _) (srcs_one Try.underlying45 (heap_alloc_new wr _) (hrd _)) (by simp; omega) (by decide) (by simp; omega) ?go2)
        intro v4 w4 hown4 happ4
        have b4 : Below w.heap.size w w4 := (hb.alloc hbs _).grown happ4.by_ (by simp; omega) (fun j hj => (hown.lt j hj).1)
        clear hown happ4 hrd c1 c2
        go_wp2
        go_roundw
        case rel => exact ⟨k + 1, by omega, by go_num, by rw [Hs.out, if_pos hq]; exact hown4, b4⟩
        case measure => simp [intOf]; omega
      · have hq' : (ty == y) = false := by simpa using hq
        clear hq
        go_wp2
        go_roundw
        case rel => exact ⟨k + 1, by omega, by go_num, by rw [Hs.out, hq']; simpa using hown, hb⟩
        case measure => simp [intOf]; omega
    · have hkt : ts.take k = ts := List.take_of_length_le (by omega)
      rw [hkt] at hown
      clear hkt
      go_wp2
      go_ret
      exact ⟨_, rfl, hown.rsl, hb⟩

set_option maxRecDepth 100000 in
set_option maxHeartbeats 1600000 in
theorem rwithout_any (v : Value) (ts : List Tag) (y : Int) (w : World) (h : RSl (fun b => b < w.heap.size) w v ts) (hts : ts.length ≤ 1000000) :
    Calls Try.prog 22 #[v, .int .i64 y] w fun e w' => ∃ v, e = .returned v ∧ RSl (fun b => b < w'.heap.size) w' v (others ts y) ∧ Below w.heap.size w w' := by
  obtain ⟨ao, cap, cells, rfl, hr, ha⟩ := h
  have hm := hr.cle
  have hM := hr.max
  unfold maxLen at hM
  go_enter Try.func22, Try.ntmps22
  go_wp2
  go_loopw [5, 6] (fun out i wr => ∃ k : Nat, k ≤ ts.length ∧ i = .int .i64 k ∧ Own wr w.heap.size 34 out (others (ts.take k) y) ∧ Below w.heap.size w wr) (fun _ i _ => ts.length - (intOf i).toNat)
  case atStart => exact ⟨0, by omega, rfl, Own.nil _ _ _ _, Below.refl _ _⟩
  case round =>
    obtain ⟨k, hk, rfl, hown, hb⟩ := hrel
    have hbs := hb.size
    by_cases hlt : k < ts.length
    · obtain ⟨vo, n, vc, h1, h2, hn, h3, h4⟩ := RAll.tag ha hlt
      rcases hr.at_ with ⟨h0, _⟩ | ⟨b, off, rfl, hgb, hc⟩
      · omega
      have c1 : wr.cell? ⟨b, off + k * 2, none⟩ = some (.int .i64 ts[k].typ) := (hb.cell hgb).trans (hc _ _ h1)
      have c2 : wr.cell? ⟨b, off + k * 2 + 1, none⟩ = some (.slice vo n vc) := (hb.cell hgb).trans (by rw [Nat.add_assoc]; exact hc _ _ h2)
      have hs := others_snoc (ts.take k) ts[k] y
      rw [← List.take_succ_eq_append_getElem hlt] at hs
      have hlen := others_le (ts.take k) y
      have hlen2 : (ts.take k).length ≤ 1000000 := by simp; omega
      have hrd : ∀ o, Rep.rd (fun b => b < (wr.alloc o).heap.size ∧ some b ≠ u5.ownBlock ∧ 0 ≤ b) (wr.alloc o) [.int .i64 ts[k].typ, .slice vo n vc] ts[k] := by
        intro o
        refine ⟨_, rfl, h3, RSl.of_bytes hn.symm (h4.mono (fun j hj => ?_) (fun j hj => (heap_alloc_old wr o (by omega)).trans (hb.block j hj)))⟩
        have := hown.avoid hbs j hj
        exact ⟨by simp; omega, this.2, Nat.zero_le _⟩
      have Hs := Lib.hid hs
      clear hn hs hc h1 h2 h3
      generalize others (ts.take k) y = acc at *
      generalize ts[k] = tk at *
      generalize hty : tk.typ = ty at *
      clear hty
      by_cases hq : (ty == y) = true
      · have hq' : (ty != y) = false := by simpa using hq
        go_wp2
        go_roundw
        case rel => exact ⟨k + 1, by omega, by go_num, by rw [Hs.out, hq]; simpa using hown, hb⟩
        case measure => simp [intOf]; omega
      · have hq' : (ty != y) = true := by simpa using hq
        have Hq := Lib.hid hq
        clear hq
        go_wp2_with (at_builtin; refine wpList_append (α := Tag) (base := w.heap.size) (xs := acc) (ys := [tk]) rfl rfl Try.underlying22 Try.infoTag rfl rfl rfl (hown.alloc _) (srcs_one Try.underlying22 (heap_alloc_new wr _) (hrd _)) (by simp; omega) (by decide) (by simp; omega) ?go2)
        intro v4 w4 hown4 happ4
        have b4 : Below w.heap.size w w4 := (hb.alloc hbs _).grown happ4.by_ (by simp; omega) (fun j hj => (hown.lt j hj).1)
        clear hown happ4 hrd c1 c2
        go_wp2
        go_roundw
        case rel => exact ⟨k + 1, by omega, by go_num, by rw [Hs.out, if_neg Hq.out]; exact hown4, b4⟩
        case measure => simp [intOf]; omega
    · have hkt : ts.take k = ts := List.take_of_length_le (by omega)
      rw [hkt] at hown
      clear hkt
      go_wp2
      go_ret
      exact ⟨_, rfl, hown.rsl, hb⟩

set_option maxHeartbeats 400000 in
theorem find_any (v : Value) (ts : List Tag) (y : Int) (w : World) (h : RSl (fun b => b < w.heap.size) w v ts) (hts : ts.length ≤ 1000000) (hvs : ∀ t ∈ ts, t.val.length ≤ 1000000) :
    Calls Try.prog 18 #[v, .int .i64 y] w fun e w' => ∃ v, e = .returned (.tuple #[v, .bool (!(vals ts y).isEmpty)]) ∧ RSl (fun b => w.heap.size ≤ b ∧ b < w'.heap.size) w' v ((vals ts y).headD []) ∧ Below w.heap.size w w' := by
  go_enter Try.func18, Try.ntmps18
  go_wp2_with fail
  refine (all_any v ts y w h hts hvs).mono ?_
  rintro e w1 ⟨va, rfl, hva, hb1⟩
  obtain ⟨ao, cap, cells, rfl, hr, ha⟩ := hva
  cases hvl : vals ts y with
  | nil =>
    rw [hvl] at hr ha
    go_wp2
    go_ret2
    exact ⟨_, by rw [hvl]; rfl, by rw [hvl]; exact RSl.nil _ _, hb1⟩
  | cons x xs =>
    rw [hvl] at hr ha
    obtain ⟨c, r, rfl, ⟨vx, rfl, hx⟩, _⟩ := ha
    rcases hr.at_ with ⟨h0, _⟩ | ⟨b, off, rfl, hgb, hc⟩
    · simp at h0
    have c1 : w1.cell? ⟨b, off, none⟩ = some vx := hc 0 vx rfl
    obtain ⟨xo, xc, rfl, hxr⟩ := hx.bytes
    have hne : (((x :: xs).length : Int) == 0) = false := by rw [beq_eq_false_iff_ne]; simp only [List.length_cons]; omega
    have hpos : (0 : Int) < ((x :: xs).length : Int) := by simp only [List.length_cons]; omega
    generalize (x :: xs).length = n at *
    go_wp2
    go_ret2
    exact ⟨_, by rw [hvl]; rfl, by rw [hvl]; exact RSl.of_bytes rfl hxr, hb1⟩
end Go.Proofs.Ytminoakdilbokaa.Raw
