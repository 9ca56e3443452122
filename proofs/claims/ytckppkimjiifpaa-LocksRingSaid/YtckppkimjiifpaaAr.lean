/- The abstract machine: the model does what it says; builds, appends, calls, regions, code. No condition. -/
import Derived.Test.YtckppkimjiifpaaAq
set_option linter.unusedSectionVars false
set_option linter.unusedVariables false
set_option linter.unusedSimpArgs false
set_option linter.deprecated false
namespace Go.Am
open Go.RowKit Go.Cx

section
variable {E : Env} {M : Mem} {w : World} {H : Heap}

theorem len_sound {ts : List TypeId} {ty : TypeId} {as : List AV} {us : List Value} {K : AV → Heap → Prop} (hG : Gam E.gl M w H) (ha : VRt M H.length w as us) (h : alenB E.P ts as fun v => K v H) : Yields E M w H (Builtin.len_ ts.toArray ty us.toArray) K := by
  unfold alenB at h
  split at h
  · next t s =>
    obtain ⟨hu, hK⟩ := h
    unfold VRt at ha
    obtain ⟨u, r, rfl, h1, h2⟩ := ha
    unfold VRt at h2
    subst h2
    unfold VR at h1
    subst h1
    refine .pure hG ?_ (by simp [VR]; rfl) hK
    simp [Builtin.len_, run_underlying hu, goInt]
  · next t a _ =>
    obtain ⟨⟨e, sz, hs⟩, n, hn, hK⟩ := h
    obtain ⟨hu, _⟩ := slI_out hs
    unfold VRt at ha
    obtain ⟨u, r, rfl, h1, h2⟩ := ha
    unfold VRt at h2
    subst h2
    obtain ⟨ao, cap, rfl, _⟩ := alen_out h1 hn
    refine .pure hG ?_ (by simp [VR]; rfl) hK
    simp [Builtin.len_, run_underlying hu, goInt]
  · exact h.elim

theorem concl_out {M : Mem} {n : Nat} {w : World} : ∀ {as : List AV} {l us : List Value}, concl as = some l → VRt M n w as us → us = l
  | [], l, us, h, k => by unfold concl at h; unfold VRt at k; cases h; exact k
  | a :: r, l, us, h, k => by
    unfold concl at h
    split at h
    case h_2 => cases h
    case h_1 x l' hx hl =>
    cases h
    unfold VRt at k
    obtain ⟨u, r', rfl, h3, h4⟩ := k
    rw [conc_out hx h3, concl_out hl h4]

theorem dest_out {sz : Nat} {a : AV} {H1 : Heap} {old : List (List AV)} {u : Value} (hG : Gam E.gl M w H) (ha : VR M H.length w a u) (h : dest H sz a = some (H1, old)) :
    Gam E.gl M w H1 ∧ Ext M w H M w H1 ∧ H1.length = H.length ∧ ∃ ao cap us, u = .slice ao old.length cap ∧ old.length ≤ cap ∧ cap ≤ maxLen ∧ VRss M H.length w sz old us ∧
      ((ao = none ∨ cap = 0 ∧ old = []) ∧ cap = 0 ∧ us = [] ∨ ∃ b cur e fr, ao = some ⟨b, 0, none⟩ ∧ (∃ r, r < H.length ∧ M.blk r = some b ∧ M.bsz r = cur.size ∧ (∀ r' B', H1[r']? = some (some B') → M.blk r' ≠ some b) ∧ Hot M H b) ∧ ¬ M.G b ∧ w.heap[b]? = some (.cells cur e fr) ∧ (fr = (0, 0) ∨ cur.size ≤ fr.1) ∧
        cap * sz ≤ cur.size ∧ cur.toList.take us.length = us) := by
  unfold dest at h
  split at h
  · cases h
    unfold VR at ha
    subst ha
    exact ⟨hG, Ext.refl _ _ _, rfl, none, 0, [], rfl, Nat.le_refl _, Nat.zero_le _, by simp [VRss], .inl ⟨.inl rfl, rfl, rfl⟩⟩
  · cases h
    unfold VR at ha
    obtain ⟨ao, rfl⟩ := ha
    exact ⟨hG, Ext.refl _ _ _, rfl, ao, 0, [], rfl, Nat.le_refl _, Nat.zero_le _, by simp [VRss], .inl ⟨.inr ⟨rfl, rfl⟩, rfl, rfl⟩⟩
  · next r sz' off n =>
    split at h
    case h_2 => cases h
    case h_1 sz2 es hr =>
    split at h
    case isFalse => cases h
    case isTrue hc =>
    obtain ⟨rfl, rfl, rfl, hle⟩ := hc
    simp only [Option.some.injEq, Prod.mk.injEq] at h
    obtain ⟨rfl, rfl⟩ := h
    obtain ⟨hG1, hE1⟩ := hG.kill r
    unfold VR at ha
    obtain ⟨k0, ao, cap, rfl, k1, k2, k3, k4⟩ := ha
    have hel : (es.take n).length = n := by simp; omega
    refine ⟨hG1, hE1, by simp, ao, cap, ?_⟩
    rw [hel]
    have hrl : r < H.length := k0
    rcases hG.blks r _ hr with ⟨h1, h2⟩ | ⟨b, cur, e, fr, us, j1, j2, j3, j4, j5, j6, j7⟩
    · subst h2
      have hn : n = 0 := by simpa using hle
      subst hn
      rcases k4 with ⟨_, k4⟩ | ⟨_, k4⟩ | ⟨b, k5, _⟩
      · exact absurd rfl k4
      · subst k4
        refine ⟨[], rfl, k1, k2, by simp [VRss], .inl ⟨.inr ⟨rfl, by simp⟩, rfl, rfl⟩⟩
      · rw [h1] at k5; cases k5
    · rcases k4 with ⟨_, k4⟩ | ⟨k5, k4⟩ | ⟨b', k5, k6, k7⟩
      · exact absurd rfl k4
      · subst k4
        subst k5
        refine ⟨[], rfl, k1, k2, by simp [VRss], .inl ⟨.inr ⟨rfl, by simp⟩, rfl, rfl⟩⟩
      · rw [k5] at j1
        cases j1
        refine ⟨us.take (n * sz2), rfl, k1, k2, VRss.take n j5, .inr ⟨b, cur, e, fr, by rw [k6]; simp, ⟨r, hrl, k5, j4.symm, fun r' B' hr' hb' => ?_, ⟨r, _, hr, rfl, k5⟩⟩, hG.sep r _ b hr rfl k5, j2, j3, ?_, ?_⟩⟩
        · rw [getElem?_set' _ _ _ _ hrl] at hr'
          split at hr'
          · cases hr'
          · next hne => exact hG.far r r' _ B' b hr hr' rfl hne k5 hb'
        · rw [j4]
          simpa using k7
        · have hl := VRss.len j5
          have : (us.take (n * sz2)).length = n * sz2 := by
            rw [List.length_take, hl, Nat.min_eq_left (Nat.mul_le_mul_right _ hle)]
          rw [this, ← j6, List.take_take, Nat.min_eq_left (by rw [hl]; exact Nat.mul_le_mul_right _ hle)]
  · cases h

/-- A name for a block that has lost its own. -/
theorem Gam.rename {b : Nat} {B : Blk} {w1 : World} {s : Nat} (hG : Gam E.gl M w H) (hnG : ¬ M.G b) (hfree : ∀ r' B', H[r']? = some (some B') → M.blk r' ≠ some b)
    (hw1 : w1.os = w.os ∧ w1.tape = w.tape ∧ w1.output = w.output ∧ w1.heap.size = w.heap.size) (hoth : ∀ k, k ≠ b → w1.heap[k]? = w.heap[k]?)
    (hB : ∀ M', (∀ r, r < H.length → M'.blk r = M.blk r ∧ M'.bsz r = M.bsz r) → M'.G = M.G → M'.blk H.length = some b → M'.bsz H.length = s → BR M' (H.length + 1) w1 H.length B) :
    Gam E.gl (M.push H.length b s) w1 (H ++ [some B]) := by
  have hGw : ∀ k, M.G k → w1.heap[k]? = w.heap[k]? := fun k hk => hoth k (fun e => hnG (e ▸ hk))
  have hbl : ∀ r, r < H.length → (M.push H.length b s).blk r = M.blk r ∧ (M.push H.length b s).bsz r = M.bsz r := fun r hr => by
    simp only [Mem.push]
    rw [if_neg (by omega), if_neg (by omega)]
    exact ⟨rfl, rfl⟩
  have hnb : (M.push H.length b s).blk H.length = some b := by simp [Mem.push]
  have hin : ∀ {r B}, H[r]? = some (some B) → r < H.length := fun h => (List.getElem?_eq_some_iff.1 h).1
  refine ⟨fun g => VR.mono (M := M) (M' := M.push H.length b s) (n := 0) (w := w) (fun _ h => h) hGw (Nat.le_refl _) (fun r hr => absurd hr (Nat.not_lt_zero r)) (hG.glob g), fun k hk => by rw [hw1.2.2.2]; exact hG.inG k hk, fun r B' hr => ?_, fun r B' c hr hh hb => ?_, fun r r' B1 B2 c hr hr' hh hne hb => ?_⟩
  · rw [List.length_append, List.length_singleton]
    rw [getElem?_snoc] at hr
    split at hr
    · next he =>
      cases hr
      subst he
      exact hB _ hbl rfl hnb (by simp [Mem.push])
    · have hr2 := hin hr
      exact BR.mono (M := M) (n := H.length) (w := w) (r := r) (fun _ h => h) hGw (Nat.le_succ _) hbl (hbl r hr2).1 (hbl r hr2).2 (fun c hc => hoth c (fun e => hfree r B' hr (e ▸ hc))) (hG.blks r B' hr)
  · rw [getElem?_snoc] at hr
    split at hr
    · next he =>
      subst he
      rw [hnb] at hb
      cases hb
      exact hnG
    · rw [(hbl r (hin hr)).1] at hb
      exact hG.sep r B' c hr hh hb
  · rw [getElem?_snoc] at hr hr'
    split at hr
    · next he =>
      subst he
      rw [hnb] at hb
      cases hb
      rw [if_neg hne] at hr'
      rw [(hbl r' (hin hr')).1]
      exact hfree r' B2 hr'
    · have hr3 := hin hr
      rw [(hbl r hr3).1] at hb
      split at hr'
      · next he' =>
        subst he'
        rw [hnb]
        intro hc
        cases hc
        exact hfree r B1 hr hb
      · rw [(hbl r' (hin hr')).1]
        exact hG.far r r' B1 B2 c hr hr' hh hne hb

theorem append_sound {ts : List TypeId} {ty : TypeId} {as : List AV} {us : List Value} {K : AV → Heap → Prop} (hG : Gam E.gl M w H) (ha : VRt M H.length w as us) (h : aappend E.P ts as H K) : Yields E M w H (Builtin.append_ ts.toArray ty us.toArray) K := by
  unfold aappend at h
  split at h
  case h_2 => exact h.elim
  case h_1 t tx s x =>
  obtain ⟨e, sz, hs, H1, old, hd, new, hsrc, hn, hK⟩ := h
  obtain ⟨hu, hsz, i, zv, hi, hz, his, hzs, hby⟩ := slI_out hs
  unfold VRt at ha
  obtain ⟨u1, r1, rfl, h1, h2⟩ := ha
  unfold VRt at h2
  obtain ⟨u2, r2, rfl, h3, h4⟩ := h2
  unfold VRt at h4
  subst h4
  obtain ⟨news, hS, hnv⟩ := source_out hG h3 hsrc
  obtain ⟨hG1, hE1, hlen, ao, cap, os, rfl, hc1, hc2, hov, hcase⟩ := dest_out hG h1 hd
  have hS' : Src E.P i.size tx u2 new.length news w := by rw [his]; exact hS
  have hnl := VRss.len hnv
  have hol := VRss.len hov
  have hboth := VRss.append hov hnv
  have grow : cap < old.length + new.length → (Builtin.firstCells i.size old.length (.slice ao old.length cap)).run E.P w.drew = .ok os.toArray w.drew → Yields E M w H (Builtin.append_ [t, tx].toArray ty [Value.slice ao old.length cap, u2].toArray) K := by
    intro hlt hfc
    have hr := run_append_grow_src (P := E.P) w t tx ty e i zv hu hi hz ao old.length cap os hfc u2 new.length news hS' hlt (by omega) (growslice_fits hlt (Nat.le_trans (Nat.mul_le_mul hn hby) (by omega)))
    have hge := grownCap_ge w (old.length + new.length) cap e
    have hcm : grownCap w (old.length + new.length) cap e ≤ maxLen := grownCap_le_maxLen w _ cap e (by unfold maxLen; omega)
    have hcur : ((os ++ news).toArray ++ Builtin.zeroCells zv.cells (grownCap w (old.length + new.length) cap e - (old.length + new.length))).size = grownCap w (old.length + new.length) cap e * sz := by
      rw [Array.size_append, List.size_toArray, size_zeroCells, hzs, List.length_append, hol, hnl, ← Nat.add_mul, ← Nat.add_mul]
      congr 1
      omega
    rw [← hlen] at hboth
    obtain ⟨u, w', v, M', H', m1, m2, m3, m4, m5⟩ := hs_new (E := E) (M := M) (w := w) (H := H1) (K := K) (w1 := w.drew) (fr := (0, 0)) (k := old.length + new.length) (cap := grownCap w (old.length + new.length) cap e) (sz := sz) (es := old ++ new) hG1 rfl rfl rfl rfl (.inl rfl) hboth
      (by rw [Array.toList_append, List.take_left']; rfl) hge hcm (by rw [hcur]; exact Nat.le_refl _) hr (by rw [hlen]; exact hK)
    exact ⟨u, w', v, M', H', m1, m2, m3, m4, hE1.trans m5⟩
  rcases hcase with ⟨hnil, rfl, rfl⟩ | ⟨b, cur, e2, fr, rfl, ⟨r, hrl, hblk, hbsz, hfree, hhotb⟩, hnG, hg, hfr, hcs, htake⟩
  · have hold : old = [] := List.eq_nil_of_length_eq_zero (by omega)
    subst hold
    by_cases hm : new = []
    · -- nothing is appended: the slice as it was, under a name without a block
      subst hm
      simp only [List.length_nil, Nat.add_zero, List.append_nil] at hK hS' ⊢
      have hnl0 : news = [] := List.eq_nil_of_length_eq_zero (by simpa using hnl)
      subst hnl0
      have hrun : (Builtin.append_ [t, tx].toArray ty [Value.slice ao 0 0, u2].toArray).run E.P w = .ok (.slice ao 0 0) w := by
        have hl := hS'.len
        have hc := hS'.cells
        rcases hS'.kind with ⟨e', hk⟩ | hk <;> cases ao <;> simp [Builtin.append_, run_underlying hu, run_underlying hk, sizeOf, typeInfo, hi, hl, hc, storeCells]
      refine ⟨_, w, _, { M with blk := fun r => if r = H.length then none else M.blk r }, _, hrun, hK, ?_, ?_, ?_⟩
      · have hbl : ∀ r, r < H.length → (if r = H.length then none else M.blk r) = M.blk r := fun r hr => by rw [if_neg (by omega)]
        have hin : ∀ {r B}, H1[r]? = some (some B) → r < H.length := fun h => by have := (List.getElem?_eq_some_iff.1 h).1; omega
        refine ⟨fun g => VR.mono (M := M) (M' := { M with blk := fun r => if r = H.length then none else M.blk r }) (n := 0) (w := w) (fun _ h => h) (fun _ _ => rfl) (Nat.le_refl _) (fun r hr => absurd hr (Nat.not_lt_zero r)) (hG1.glob g), hG1.inG, fun r B hr => ?_, fun r B c hr hh hb => ?_, fun r r' B1 B2 c hr hr' hh hne hb => ?_⟩
        · rw [getElem?_snoc] at hr
          split at hr
          · next he =>
            cases hr
            exact .inl ⟨by simp only; rw [if_pos (by omega)], rfl⟩
          · have h5 := hin hr
            exact BR.mono (M := M) (n := H1.length) (w := w) (r := r) (fun _ h => h) (fun _ _ => rfl) (by simp) (fun r hr => ⟨hbl r (by omega), rfl⟩) (hbl r h5) rfl (fun _ _ => rfl) (hG1.blks r B hr)
        · rw [getElem?_snoc] at hr
          split at hr
          · next he =>
            simp only at hb
            rw [if_pos (by omega)] at hb
            cases hb
          · simp only at hb
            rw [hbl r (hin hr)] at hb
            exact hG1.sep r B c hr hh hb
        · rw [getElem?_snoc] at hr hr'
          simp only at hb ⊢
          split at hr
          · next he =>
            rw [if_pos (by omega)] at hb
            cases hb
          · rw [hbl r (hin hr)] at hb
            split at hr'
            · next he => rw [if_pos (by omega)]; simp
            · rw [hbl r' (hin hr')]
              exact hG1.far r r' B1 B2 c hr hr' hh hne hb
      · unfold VR
        refine ⟨by simp; omega, ao, 0, rfl, Nat.le_refl _, Nat.zero_le _, fun _ => rfl, .inr (.inl ⟨rfl, rfl⟩)⟩
      · refine hE1.trans ⟨rfl, rfl, rfl, Nat.le_refl _, fun _ h => h, fun _ h => .inl h, fun _ _ _ => rfl, by simp, fun r hr => by simp only; rw [if_neg (by omega)], fun _ _ => rfl, fun c hc => ?_⟩
        obtain ⟨k, B, q1, q2, q3⟩ := hc
        rw [getElem?_snoc] at q1
        simp only at q3
        split at q1
        · next he =>
          rw [if_pos (by omega)] at q3
          cases q3
        · rw [if_neg (by have := (List.getElem?_eq_some_iff.1 q1).1; omega)] at q3
          exact .inl ⟨k, B, q1, q2, q3⟩
    · have hpos : 0 < new.length := List.length_pos_iff.2 hm
      refine grow (by simpa using hpos) ?_
      cases ao with
      | none => exact run_firstCells_none w.drew i.size _ _ _
      | some a => simp [Builtin.firstCells, loadCells, loadCellsFrom]
  · have hul : os.length ≤ cur.size := by
      have := congrArg List.length htake
      simp at this
      omega
    by_cases hroom : old.length + new.length ≤ cap
    · -- in place
      have hfit : old.length * sz + news.length ≤ cur.size := by
        rw [hnl, ← Nat.add_mul]
        exact Nat.le_trans (Nat.mul_le_mul_right _ hroom) hcs
      have hst := run_storeCells_gen E.P b (old.length * sz) e2 fr news 0 cur w hg hfr (by simpa using hfit) hS.one
      simp only [Nat.add_zero] at hst
      have hr : (Builtin.append_ [t, tx].toArray ty [Value.slice (some ⟨b, 0, none⟩) old.length cap, u2].toArray).run E.P w =
          .ok (.slice (some ⟨b, 0, none⟩) (old.length + new.length) cap) (w.setRow b (cur.toList.take (old.length * sz) ++ news ++ cur.toList.drop (old.length * sz + news.length)).toArray) := by
        have hl := hS.len
        have hc := hS.cells
        rcases hS.kind with ⟨e', hk⟩ | hk <;> simp [Builtin.append_, run_underlying hu, run_underlying hk, sizeOf, typeInfo, hi, his, hl, hroom, hc, addr_add, hst]
      have hoth : ∀ k, k ≠ b → (w.setRow b (cur.toList.take (old.length * sz) ++ news ++ cur.toList.drop (old.length * sz + news.length)).toArray).heap[k]? = w.heap[k]? := fun k hk => setRow_other w b k _ hk
      have hsz2 : (w.setRow b (cur.toList.take (old.length * sz) ++ news ++ cur.toList.drop (old.length * sz + news.length)).toArray).heap.size = w.heap.size := by simp [World.setRow]
      have hcsz : (cur.toList.take (old.length * sz) ++ news ++ cur.toList.drop (old.length * sz + news.length)).toArray.size = cur.size := by simp; omega
      have hGw : ∀ k, M.G k → (w.setRow b (cur.toList.take (old.length * sz) ++ news ++ cur.toList.drop (old.length * sz + news.length)).toArray).heap[k]? = w.heap[k]? := fun k hk => hoth k (fun e => hnG (e ▸ hk))
      refine ⟨_, _, _, M.push H1.length b cur.size, _, hr, hK, ?_, ?_, ?_⟩
      · refine Gam.rename (b := b) hG1 hnG hfree ⟨rfl, rfl, rfl, hsz2⟩ hoth (fun M' hM hMG hb hs2 => ?_)
        refine .inr ⟨b, (cur.toList.take (old.length * sz) ++ news ++ cur.toList.drop (old.length * sz + news.length)).toArray, e2, fr, os ++ news, hb, ?_, ?_, ?_, ?_, ?_, fun hh => by cases hh⟩
        · have := setRow_heap w b cur (cur.toList.take (old.length * sz) ++ news ++ cur.toList.drop (old.length * sz + news.length)).toArray e2 fr hg
          exact this
        · rw [hcsz]; exact hfr
        · rw [hcsz, hs2]
        · rw [← hlen] at hboth
          exact VRss.mono (M := M) (fun k hk => by rw [hMG]; exact hk) hGw (by omega) hM hboth
        · have : cur.toList.take (old.length * sz) = os := by rw [← hol]; exact htake
          rw [this]
          simp only [List.append_assoc]
          rw [← List.append_assoc, List.take_left']
          rfl
      · unfold VR
        refine ⟨by simp; omega, _, cap, rfl, hroom, hc2, (fun h => by cases h), .inr (.inr ⟨b, by simp [Mem.push, hlen], by simp, ?_⟩)⟩
        simp [Mem.push, hlen]
        exact hcs
      · refine ⟨rfl, rfl, rfl, by omega, fun _ h => h, fun _ h => .inl h, fun k hk hn => hoth k (fun e => hn (e ▸ hhotb)), by simp; omega, fun r hr => ?_, fun r hr => ?_, fun c hc => ?_⟩
        · simp only [Mem.push]; rw [if_neg (by omega)]
        · simp only [Mem.push]; rw [if_neg (by omega)]
        · obtain ⟨k, B, q1, q2, q3⟩ := hc
          rw [getElem?_snoc] at q1
          simp only [Mem.push] at q3
          split at q1
          · next he =>
            rw [if_pos he] at q3
            cases q3
            exact .inl hhotb
          · next he =>
            rw [if_neg he] at q3
            rcases hE1.hot c ⟨k, B, q1, q2, q3⟩ with q | q
            · exact .inl q
            · exact .inr q
    · refine grow (by omega) ?_
      have hcells : ∀ j u, os[j]? = some u → w.drew.cell? ((⟨b, 0, none⟩ : Addr).add j) = some u := by
        intro j u hj
        rw [addr_add, Nat.zero_add]
        show w.cell? _ = _
        rw [cell_of_row w b j cur e2 fr hg]
        rw [← htake, List.getElem?_take] at hj
        split at hj
        · simpa using hj
        · cases hj
      exact run_firstCells_some w.drew i.size old.length ⟨b, 0, none⟩ old.length cap os (by rw [hol, his]) hcells
end
end Go.Am
