/- conciergelaw05's law TagsFind: the walk. -/
import Derived.Test.YtminoakdilbokaaTagsN
namespace Go.Proofs.Ytminoakdilbokaa
open Go.RowKit Go.Cx

set_option maxRecDepth 100000 in
set_option maxHeartbeats 1600000 in
theorem samebytes_yes (va vb : Value) (ls : List (List UInt8)) (w : World) (h : RSl (fun _ => True) w va ls) (h' : RSl (fun _ => True) w vb ls) :
    Calls Try.prog 19 #[va, vb] w fun e w' => e = .returned (.bool true) ∧ Below w.heap.size w w' := by
  obtain ⟨aa, ca, ka, rfl, hra, haa⟩ := h
  obtain ⟨ab, cb, kb, rfl, hrb, hab⟩ := h'
  have hm := hra.cle
  have hM := hra.max
  unfold maxLen at hM
  go_enter Try.func19, Try.ntmps19
  go_wp2
  go_loopw [5] (fun i wr => ∃ (k nn : Nat), k ≤ ls.length ∧ i = .int .i64 k ∧ wr = w.drewN nn) (fun i _ => ls.length - (intOf i).toNat)
  case atStart => exact ⟨0, 0, by omega, rfl, rfl⟩
  case round =>
    obtain ⟨k, nn, hk, rfl, rfl⟩ := hrel
    by_cases hlt : k < ls.length
    · obtain ⟨x, ex, hx⟩ := haa.get (i := k) (x := ls[k]) (List.getElem?_eq_getElem hlt)
      obtain ⟨y, ey, hy⟩ := hab.get (i := k) (x := ls[k]) (List.getElem?_eq_getElem hlt)
      have h1 : ka[k]? = some x := by
        have := congrArg (fun l : List Value => l[0]?) ex
        simpa [Rep.sz] using this
      have h2 : kb[k]? = some y := by
        have := congrArg (fun l : List Value => l[0]?) ey
        simpa [Rep.sz] using this
      rcases hra.at_ with ⟨h0, _⟩ | ⟨b, off, rfl, _, hc⟩
      · omega
      rcases hrb.at_ with ⟨h0, _⟩ | ⟨b', off', rfl, _, hc'⟩
      · omega
      have c1 : w.cell? ⟨b, off + k, none⟩ = some x := hc _ _ h1
      have c3 : w.cell? ⟨b', off' + k, none⟩ = some y := hc' _ _ h2
      obtain ⟨vo, vc, rfl, gx⟩ := hx.bytes
      obtain ⟨xo, xc, rfl, gy⟩ := hy.bytes
      have v1 := fun q => (gx.drewN q).conv (P := Try.prog) (dst := 9) Try.underlying24 Try.underlying5 Try.underlying9 rfl
      have v2 := fun q => (gy.drewN q).conv (P := Try.prog) (dst := 9) Try.underlying24 Try.underlying5 Try.underlying9 rfl
      have k0 : (0 : Int) ≤ (k : Int) := by omega
      have k1 : (k : Int) < (ls.length : Int) := by omega
      clear h1 h2 hx hy gx gy hc hc' haa hab ex ey
      generalize str ls[k] = sx at *
      generalize (ls[k]).length = nx at *
      go_wp2_with fail
      go_quiet (fail)
      go_wp2
      go_roundw
      case rel => exact ⟨k + 1, nn + nq, by omega, by go_num, rfl⟩
      case measure => simp [intOf]; omega
    · go_wp2
      go_ret
      exact ⟨rfl, below_drewN (Below.refl _ _) _⟩

theorem few_len (ts : List Tag) : (few ts).length ≤ 1000000 := by simp [few]; omega
theorem few_val (ts : List Tag) : ∀ t ∈ few ts, t.val.length ≤ 1000000 := by
  intro t ht
  simp only [few, List.mem_map] at ht
  obtain ⟨x, _, rfl⟩ := ht
  simp [cutTag]
  omega

set_option maxRecDepth 100000 in
set_option maxHeartbeats 1600000 in
theorem find_walk (v : Value) (ts : List Tag) (y : Int) (w : World) (h : RSl (fun b => b < w.heap.size) w v ts) :
    Calls Try.prog 8 #[v, .int .i64 y] w fun e w' => e = .returned (.bool true) ∧ Below w.heap.size w w' := by
  go_enter Try.func8, Try.ntmps8
  go_wp2_with fail
  refine (few_any v ts w h).mono ?_
  rintro e w1 ⟨v1, rfl, hv1, b1⟩
  have hfl := few_len ts
  have hfv := few_val ts
  generalize few ts = fs at *
  go_wp2_with fail
  refine (rall_any v1 fs y w1 hv1 hfl).mono ?_
  rintro e w2 ⟨v2, rfl, hv2, hb2⟩
  have b2 : Below w.heap.size w w2 := b1.trans (hb2.mono b1.size)
  have hv1' := hv1.now hb2
  go_wp2_with fail
  refine (find_any v1 fs y w2 hv1' hfl hfv).mono ?_
  rintro e w3 ⟨v3, rfl, hv3, hb3⟩
  have b3 : Below w.heap.size w w3 := b2.trans (hb3.mono b2.size)
  have hv1'' := hv1'.now hb3
  have hv2' := hv2.now hb3
  obtain ⟨a2, c2, k2, rfl, hr2, ha2⟩ := hv2'
  obtain ⟨a3, c3, rfl, hr3⟩ := hv3.old.bytes
  clear hv2 hv3 hv1 hv1' hb2 hb3 h
  have main : ∀ (n : Nat), Calls Try.prog 20 #[v1, .int .i64 y] (w3.drewN n) fun e w' => ∃ v, e = .returned v ∧ RSl (fun _ => True) w' v (vals fs y) ∧ RSl (fun _ => True) w' (.slice a2 (vals fs y).length c2) (vals fs y) ∧ RSl (fun b => b < w'.heap.size) w' v1 fs ∧ Below w.heap.size w w' := by
    intro n
    have hbn : Below w3.heap.size w3 (w3.drewN n) := below_drewN (Below.refl _ _) n
    refine (all_any v1 fs y _ (hv1''.now hbn) hfl hfv).mono ?_
    rintro e w4 ⟨v4, rfl, hv4, hb4⟩
    have hb34 : Below w3.heap.size w3 w4 := hbn.trans hb4
    refine ⟨v4, rfl, hv4.mono (fun _ _ => trivial) (fun _ _ => rfl), ?_, hv1''.now hb34, b3.trans (hb34.mono b3.size)⟩
    exact RSl.below ⟨a2, c2, k2, rfl, hr2, ha2⟩ hb34 (fun _ hb => hb)
  have Main := Lib.hid main
  clear main
  have tail : ∀ (w4 : World) (v4 : Value), RSl (fun b => b < w4.heap.size) w4 v1 fs → Below w.heap.size w w4 →
      Calls Try.prog 21 #[v1, .int .i64 y] w4 fun e w' => ∃ v, e = .returned v ∧ RSl (fun b => b < w'.heap.size) w' v (others fs y) ∧ RSl (fun b => b < w'.heap.size) w' v1 fs ∧ Below w.heap.size w w' := by
    intro w4 v4 h1 h2
    refine (without_any v1 fs y w4 h1 hfl hfv).mono ?_
    rintro e w5 ⟨v5, rfl, hv5, hb5⟩
    exact ⟨v5, rfl, hv5.old, h1.now hb5, h2.trans (hb5.mono h2.size)⟩
  have Tail := Lib.hid tail
  clear tail
  obtain ⟨n2, hn2⟩ : ∃ n2, n2 = (vals fs y).length := ⟨_, rfl⟩
  rw [← hn2] at Main hr2 ⊢
  have Hn2 := Lib.hid hn2
  by_cases hz : n2 = 0
  · have hvl : vals fs y = [] := List.eq_nil_of_length_eq_zero (by omega)
    rw [hvl] at hr3 ⊢
    clear hn2
    subst hz
    go_wp2_with fail
    go_quiet (fail)
    go_wp2_with fail
    refine (Main.out _).mono ?_
    rintro e w4 ⟨v4, rfl, q1, q2, q3, b4⟩
    go_wp2_with fail
    refine (samebytes_yes _ _ _ w4 q1 q2).mono ?_
    rintro e w5 ⟨rfl, hb5⟩
    have b5 : Below w.heap.size w w5 := b4.trans (hb5.mono b4.size)
    have q4 := q3.now hb5
    clear q1 q2 q3 hb5
    go_wp2_with fail
    refine (Tail.out w5 v4 q4 b5).mono ?_
    rintro e w6 ⟨v6, rfl, q6, q7, b6⟩
    go_wp2_with fail
    refine (rwithout_any v1 fs y w6 q7 hfl).mono ?_
    rintro e w7 ⟨v7, rfl, q8, hb7⟩
    have b7 : Below w.heap.size w w7 := b6.trans (hb7.mono b6.size)
    have q9 := q6.now hb7
    go_wp2_with fail
    refine (same_yes v6 v7 _ w7 (q9.mono (fun _ _ => trivial) (fun _ _ => rfl)) (q8.mono (fun _ _ => trivial) (fun _ _ => rfl))).mono ?_
    rintro e w8 ⟨rfl, hb8⟩
    have b8 : Below w.heap.size w w8 := b7.trans (hb8.mono b7.size)
    go_wp2_with (go_at_call 12; refine (awake_any _).mono ?_; rintro e w9 ⟨rfl, hb9⟩)
    go_ret
    exact ⟨rfl, b8.trans (hb9.mono b8.size)⟩
  · have hgt : (vals fs y) ≠ [] := fun he => hz (by rw [hn2, he]; rfl)
    obtain ⟨x, xs, hvl⟩ := List.exists_cons_of_ne_nil hgt
    rw [hvl] at hr3 ha2 ⊢
    obtain ⟨c, r, rfl, ⟨vx, rfl, hx⟩, _⟩ := ha2
    rcases hr2.at_ with ⟨h0, _⟩ | ⟨b, off, rfl, hgb, hc⟩
    · omega
    have c1 : w3.cell? ⟨b, off, none⟩ = some vx := hc 0 vx rfl
    obtain ⟨xo, xc, rfl, hxr⟩ := hx.bytes
    have v8 := fun q => (hxr.drewN q).conv (P := Try.prog) (dst := 9) Try.underlying24 Try.underlying5 Try.underlying9 rfl
    have v9 := fun q => (RowAt.drewN hr3 q).conv (P := Try.prog) (dst := 9) Try.underlying24 Try.underlying5 Try.underlying9 rfl
    simp only [List.headD_cons] at v9 ⊢
    have n21 : (0 : Int) < (n2 : Int) := by omega
    have n23 : decide (0 < n2) = true := by simp; omega
    clear hn2 hz hgt hr3 hxr hx hc
    generalize str x = sx at *
    generalize x.length = nx at *
    go_wp2_with fail
    go_quiet (fail)
    clear v8 v9 c1
    go_wp2_with fail
    refine (Main.out _).mono ?_
    rintro e w4 ⟨v4, rfl, q1, q2, q3, b4⟩
    go_wp2_with fail
    refine (samebytes_yes _ _ _ w4 q1 q2).mono ?_
    rintro e w5 ⟨rfl, hb5⟩
    have b5 : Below w.heap.size w w5 := b4.trans (hb5.mono b4.size)
    have q4 := q3.now hb5
    clear q1 q2 q3 hb5
    go_wp2_with fail
    refine (Tail.out w5 v4 q4 b5).mono ?_
    rintro e w6 ⟨v6, rfl, q6, q7, b6⟩
    go_wp2_with fail
    refine (rwithout_any v1 fs y w6 q7 hfl).mono ?_
    rintro e w7 ⟨v7, rfl, q8, hb7⟩
    have b7 : Below w.heap.size w w7 := b6.trans (hb7.mono b6.size)
    have q9 := q6.now hb7
    go_wp2_with fail
    refine (same_yes v6 v7 _ w7 (q9.mono (fun _ _ => trivial) (fun _ _ => rfl)) (q8.mono (fun _ _ => trivial) (fun _ _ => rfl))).mono ?_
    rintro e w8 ⟨rfl, hb8⟩
    have b8 : Below w.heap.size w w8 := b7.trans (hb8.mono b7.size)
    go_wp2_with (go_at_call 12; refine (awake_any _).mono ?_; rintro e w9 ⟨rfl, hb9⟩)
    go_ret
    exact ⟨rfl, b8.trans (hb9.mono b8.size)⟩
end Go.Proofs.Ytminoakdilbokaa
