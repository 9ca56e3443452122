/- The walks of package slices: Clone, Grow, Concat over bytes. No condition but bounds of lengths. -/
import Derived.Test.YtoeheoihdoaplaaOct
import Derived.Lib.AppendZeros
set_option linter.unusedSectionVars false
set_option linter.unusedVariables false
set_option linter.unusedSimpArgs false
set_option linter.deprecated false
namespace Go.Proofs.Ytoeheoihdoaplaa
open Go.RowKit Go.Cx

set_option maxHeartbeats 400000 in
theorem sclone_any (v : Value) (l : List UInt8) (w : World) (h : RSl (fun b => b < w.heap.size) w v l) (hl : l.length ≤ 68719476736) :
    Calls Try.prog 32 #[v] w fun e w' => ∃ v, e = .returned v ∧ Own w' w.heap.size 5 v l ∧ Below w.heap.size w w' := by
  have hq := fun (w : World) a n c n' c' => Lib.run_eql_slice_nil (P := Try.prog) w 22 5 a n c n' c' Try.underlying22
  obtain ⟨ao, cap, rfl, hr⟩ := h.bytes
  cases ao with
  | none =>
    have h0 : l.length = 0 ∧ cap = 0 := by
      rcases hr.at_ with ⟨h0, h1⟩ | ⟨b, off, h0, _⟩
      · exact ⟨h0, h1 rfl⟩
      · cases h0
    obtain ⟨h0, rfl⟩ := h0
    obtain rfl : l = [] := List.eq_nil_of_length_eq_zero h0
    clear hr h
    go_enter Try.func32, Try.ntmps32
    go_wp2
    go_ret
    exact ⟨_, rfl, Own.nil _ _ _, Below.refl _ _⟩
  | some a =>
    have hr2 := RowAt.mono (G := fun b => b < w.heap.size) (G' := fun _ => True) (w' := w.alloc (.cells #[] 5)) (fun _ _ => trivial) (fun b hb => heap_alloc_old w _ hb) hr
    go_enter Try.func32, Try.ntmps32
    go_wp2_with (at_builtin; refine wpList_append (α := UInt8) (base := w.heap.size) (lo := 0) (xs := []) (ys := l) rfl rfl Try.underlying22 Try.infoU8 rfl rfl rfl ?hown (hr2.srcsB Try.underlying22 rfl) ?hn (by decide) ?hbase ?go)
    case hown => exact Own.empty (heap_at_new rfl) (Nat.le_refl _)
    case hn => simp; omega
    case hbase => simp
    case go =>
      intro v w1 hown happ
      go_wp2
      go_ret
      exact ⟨_, rfl, hown, ((Below.refl _ _).alloc (Nat.le_refl _) _).grown happ.by_ (by simp) (by simp [Value.ownBlock])⟩

set_option maxHeartbeats 400000 in
theorem grow_nil (n : Nat) (w : World) (hn : n ≤ 137438953472) :
    Calls Try.prog 44 #[.slice none 0 0, .int .i64 n] w fun e w' => ∃ v, e = .returned v ∧ Own w' w.heap.size 5 v ([] : List UInt8) ∧ Below w.heap.size w w' := by
  obtain ⟨i0, hi, hz0, hz1, hz2⟩ := info_parts Try.infoU8
  by_cases h0 : n = 0
  · subst h0
    go_enter Try.func44, Try.ntmps44
    go_wp2
    go_ret
    exact ⟨_, rfl, Own.nil _ _ _, Below.refl _ _⟩
  · have hpos : 0 < n := by omega
    have happ := Lib.run_append_nil_zeros (P := Try.prog) w 22 3 22 5 i0 (.int .u8 0) .i64 .i64 Try.underlying22 Try.underlying3 hi hz0 n (by omega) (by omega) (by omega) (by rw [hz2]; omega)
    generalize hcap : grownCap w n 0 5 = cap2 at happ
    have hcapge : n ≤ cap2 := by rw [← hcap]; exact grownCap_ge w _ 0 5
    have hcaple : cap2 ≤ maxLen := by rw [← hcap]; exact grownCap_le_maxLen w _ 0 5 (by unfold maxLen; omega)
    generalize hZ : (Builtin.zeroCells (Value.int .u8 0).cells n ++ Builtin.zeroCells (Value.int .u8 0).cells (cap2 - n)) = Z at happ
    have hZs : Z.size = cap2 := by rw [← hZ]; simp [size_zeroCells, Value.cells]; omega
    clear hcap hZ
    unfold maxLen at hcaple
    go_enter Try.func44, Try.ntmps44
    go_wp2_with (at_builtin; refine Lib.wpList_append_run _ rfl _ _ _ _ rfl _ _ rfl rfl _ _ happ ?_)
    go_ret
    refine ⟨_, rfl, ⟨[], ⟨by simp, .inr ⟨w.heap.size, cap2, Z, rfl, Nat.le_refl _, heap_alloc_new w.drew _, Nat.zero_le _, by unfold maxLen; omega, by simp [hZs, Rep.sz], by simp⟩⟩, rfl⟩, ?_⟩
    exact ⟨rfl, rfl, rfl, by simp, fun k hk => heap_alloc_old w.drew _ hk⟩

theorem flatten_take_succ (xss : List (List UInt8)) (k : Nat) (h : k < xss.length) : (xss.take (k + 1)).flatten = (xss.take k).flatten ++ xss[k] := by
  rw [List.take_succ_eq_append_getElem h, List.flatten_append]
  simp

theorem flatten_take_le (xss : List (List UInt8)) (k : Nat) : (xss.take k).flatten.length ≤ xss.flatten.length := by
  conv => rhs; rw [← List.take_append_drop k xss, List.flatten_append, List.length_append]
  omega

theorem RAll_rows {G : Nat → Prop} {w : World} {xss : List (List UInt8)} {cs : List Value} (h : RAll G w cs xss) {k : Nat} (hk : k < xss.length) :
    ∃ vo n c, cs[k]? = some (.slice vo n c) ∧ n = xss[k].length ∧ n ≤ c ∧ c ≤ maxLen ∧ RSl G w (.slice vo n c) xss[k] := by
  have hx : xss[k]? = some xss[k] := by simp [hk]
  obtain ⟨v, h1, h2⟩ := RAll.get h hx
  obtain ⟨ao, cap, cells, rfl, h3, h4⟩ := h2
  refine ⟨ao, _, cap, ?_, rfl, h3.cle, h3.max, ao, cap, cells, rfl, h3, h4⟩
  have h5 : (cs.drop (k * 1)).take 1 = [.slice ao xss[k].length cap] := h1
  have h6 : ((cs.drop (k * 1)).take 1)[0]? = some (.slice ao xss[k].length cap) := by rw [h5]; rfl
  simpa using h6

set_option maxHeartbeats 1600000 in
theorem concat_any (v : Value) (xss : List (List UInt8)) (w : World) (h : RSl (fun b => b < w.heap.size) w v xss) (hl : xss.flatten.length ≤ 1073741824) :
    Calls Try.prog 29 #[v] w fun e w' => ∃ v, e = .returned v ∧ Own w' w.heap.size 5 v xss.flatten ∧ Below w.heap.size w w' := by
  obtain ⟨ao, cap, cells, rfl, hr, ha⟩ := h
  have hm := hr.cle
  have hM := hr.max
  unfold maxLen at hM
  have hcl : cells.length = xss.length := by have := hr.len; simpa [Rep.sz] using this
  go_enter Try.func29, Try.ntmps29
  go_wp2
  go_loopw [3, 11] (fun m i wr => ∃ k : Nat, k ≤ xss.length ∧ i = .int .i64 k ∧ m = .int .i64 (xss.take k).flatten.length ∧ w = wr) (fun _ i _ => xss.length - (intOf i).toNat)
  case atStart => exact ⟨0, by omega, rfl, rfl, rfl⟩
  case round =>
    obtain ⟨k, hk, rfl, rfl, rfl⟩ := hrel
    by_cases hlt : k < xss.length
    · obtain ⟨vo, n, c, h1, hn, h2, h3, _⟩ := RAll_rows ha hlt
      have hs := flatten_take_succ xss k hlt
      have hle := flatten_take_le xss (k + 1)
      rw [hs, List.length_append, ← hn] at hle
      obtain ⟨m, hmm⟩ : ∃ m, m = (xss.take k).flatten.length := ⟨_, rfl⟩
      rw [← hmm] at hle ⊢
      have Hs := Lib.hid hs
      have Hm := Lib.hid hmm
      have Hn := Lib.hid hn
      clear hs hmm hn
      rcases hr.at_ with ⟨h0, _⟩ | ⟨b, off, rfl, hgb, hc⟩
      · omega
      have c1 : w.cell? ⟨b, off + k, none⟩ = some (.slice vo n c) := hc _ _ h1
      clear h1 hc hr ha
      go_wp2
      go_roundw
      case rel => exact ⟨k + 1, by omega, by go_num, by rw [Hs.out, List.length_append, ← Hm.out, ← Hn.out]; go_num, trivial⟩
      case measure => simp [intOf]; omega
    · have hkl : k = xss.length := by omega
      have hall : (xss.take k).flatten.length = xss.flatten.length := by rw [hkl, List.take_length]
      rw [hall]
      obtain ⟨tot, htot⟩ : ∃ t, t = xss.flatten.length := ⟨_, rfl⟩
      rw [← htot] at hl ⊢
      clear hall
      have hge : xss.length ≤ k := by omega
      have Htot := Lib.hid htot
      clear htot hkl
      go_wp2_with (go_at_call 44; refine (grow_nil tot w (by omega)).mono ?_; rintro e w1 ⟨v1, rfl, hown1, hb1⟩)
      go_loopw [6, 27] (fun o i wr => ∃ k : Nat, k ≤ xss.length ∧ i = .int .i64 k ∧ Own wr w.heap.size 5 o (xss.take k).flatten ∧ Below w.heap.size w wr) (fun _ i _ => xss.length - (intOf i).toNat)
      case atStart => exact ⟨0, by omega, rfl, hown1, hb1⟩
      case round =>
        obtain ⟨k, hk, rfl, hown, hb⟩ := hrel
        have hbs := hb.size
        by_cases hlt : k < xss.length
        · obtain ⟨vo, n, c, h1, hn, h2, h3, h4⟩ := RAll_rows ha hlt
          have hs := flatten_take_succ xss k hlt
          have hle := flatten_take_le xss (k + 1)
          rw [hs, List.length_append, ← Htot.out] at hle
          have Hs := Lib.hid hs
          have hx := h4.now hb
          clear hs
          rcases hr.at_ with ⟨h0, _⟩ | ⟨b, off, rfl, hgb, hc⟩
          · omega
          have c1 : wr.cell? ⟨b, off + k, none⟩ = some (.slice vo n c) := (hb.cell hgb).trans (hc _ _ h1)
          clear h1 hc
          subst hn
          obtain ⟨oa, oc, rfl⟩ := hown.val
          generalize (xss.take k).flatten = sofar at *
          go_wp2_with (at_builtin; refine wpList_append (α := UInt8) (base := w.heap.size) (lo := 0) (xs := sofar) (ys := xss[k]) rfl rfl Try.underlying22 Try.infoU8 rfl rfl rfl hown (hx.srcsB Try.underlying22) (by omega) (by decide) hbs ?go)
          intro v2 w2 hown2 happ2
          go_wp2
          go_roundw
          case rel => exact ⟨k + 1, by omega, by go_num, by rw [Hs.out]; exact hown2, hb.grown happ2.by_ hbs (fun j hj => (hown.lt j hj).1)⟩
          case measure => simp [intOf]; omega
        · have hkl : k = xss.length := by omega
          have hall : (xss.take k).flatten = xss.flatten := by rw [hkl, List.take_length]
          rw [hall] at hown
          clear hall
          go_wp2
          go_ret
          exact ⟨_, rfl, hown, hb⟩
end Go.Proofs.Ytoeheoihdoaplaa
