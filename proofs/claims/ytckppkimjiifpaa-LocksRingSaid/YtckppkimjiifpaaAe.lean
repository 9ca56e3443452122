/- The abstract machine: statements whose order Go leaves open; the model does what it says, whatever the order. No condition. -/
import Derived.Test.YtckppkimjiifpaaAu
set_option linter.unusedSectionVars false
set_option linter.unusedVariables false
set_option linter.unusedSimpArgs false
set_option linter.deprecated false
namespace Go.Am
open Go.RowKit Go.Cx

theorem countP_less {p : Nat → Bool} {i : Nat} : ∀ (l : List Nat), l.Nodup → i ∈ l → p i = true → l.countP (fun j => p j && !(j == i)) + 1 = l.countP p
  | [], _, h, _ => by cases h
  | x :: l, hn, h, hp => by
    rw [List.nodup_cons] at hn
    by_cases hx : x = i
    · subst hx
      rw [List.countP_cons_of_pos hp, List.countP_cons_of_neg (by simp)]
      congr 1
      refine List.countP_congr fun j hj => ?_
      have : j ≠ x := fun e => hn.1 (e ▸ hj)
      simp [this]
    · have hi : i ∈ l := by
        rcases List.mem_cons.1 h with h | h
        · exact absurd h.symm hx
        · exact h
      have ih := countP_less l hn.2 hi hp
      by_cases hpx : p x = true
      · rw [List.countP_cons_of_pos hpx, List.countP_cons_of_pos (by simp [hpx, hx])]
        omega
      · rw [List.countP_cons_of_neg hpx, List.countP_cons_of_neg (by simp [hpx])]
        exact ih

section
variable {E : Env} {M : Mem} {w : World} {H : Heap}
mutual
theorem nb.mono {n m : Nat} (hnm : n ≤ m) : ∀ {a : AV}, nb n a → nb m a
  | .any, _ => trivial
  | .v _, _ => trivial
  | .mt, _ => trivial
  | .sl sz es, h => by unfold nb at h ⊢; exact nbss.mono hnm h
  | .hs .., h => by unfold nb at h ⊢; omega
  | .os .., h => by unfold nb at h ⊢; omega
  | .ptr .., h => by unfold nb at h ⊢; omega
  | .rp .., h => by unfold nb at h ⊢; omega
  | .cptr cs, h => by unfold nb at h ⊢; exact nbs.mono hnm h
  | .agg cs, h => by unfold nb at h ⊢; exact nbs.mono hnm h
  | .tup vs, h => by unfold nb at h ⊢; exact nbs.mono hnm h
  | .fn _ a b, h => by unfold nb at h ⊢; exact ⟨nbs.mono hnm h.1, nbs.mono hnm h.2⟩
  | .mp .., h => by unfold nb at h ⊢; omega
  | .ifp .., h => by unfold nb at h ⊢; omega
theorem nbs.mono {n m : Nat} (hnm : n ≤ m) : ∀ {l : List AV}, nbs n l → nbs m l
  | [], _ => by unfold nbs; trivial
  | a :: l, h => by unfold nbs at h ⊢; exact ⟨nb.mono hnm h.1, nbs.mono hnm h.2⟩
theorem nbss.mono {n m : Nat} (hnm : n ≤ m) : ∀ {l : List (List AV)}, nbss n l → nbss m l
  | [], _ => by unfold nbss; trivial
  | a :: l, h => by unfold nbss at h ⊢; exact ⟨nbs.mono hnm h.1, nbss.mono hnm h.2⟩
end

theorem buildSlice_zero {P : Program} {t e : TypeId} {sz : Nat} {ps : Array (Nat × Value)} {us' : Array Value} (hu : P.underlying t = some (.slice e)) (hsz : ∀ w, (sizeOf e).run P w = .ok sz w)
    (k1 : Instr.fill (fun i => some (i * sz, sz)) #[] ps.toList = some us') (w : World) {u : Value} {w' : World} (h : (Instr.buildSlice t 0 ps).run P w = .ok u w') : ∃ ao, u = .slice ao 0 0 := by
  unfold Instr.buildSlice at h
  simp only [Sem.run_bind, run_underlying hu, Result.andThen_ok, hsz w, Nat.zero_mul] at h
  simp only [Array.range_zero', List.map_toArray, List.map_nil, if_true, Nat.not_lt_zero, gt_iff_lt, if_false, Sem.run_pure, Result.andThen_ok, Sem.run_bind] at h
  rw [k1] at h
  simp [newRow, newObj, Sem.run] at h
  exact ⟨_, h.1.symm⟩

theorem born_sound {t : TypeId} {len : Nat} {ps : Array (Nat × Operand)} {ty : TypeId} {ρ : Operand → AV} {ε : Operand → Value} {K : AV → Prop} (hG : Gam E.gl M w H) (hev : ∀ x, VR M H.length w (ρ x) (ε x))
    (h : aborn E.P (.buildSlice t len ps) ρ K) : Yields E M w H (Instr.buildSlice t len (ps.map fun (i, x) => (i, ε x))) fun v H' => K v ∧ H' = H := by
  obtain ⟨e, sz, hs, g, z, ht, hpos, hbig, es, hfill, hK⟩ := h
  obtain ⟨hu, hsz, i, zv, hi, hz, his, hzs, hby⟩ := slI_out hs
  obtain ⟨_, _, i2, d, zv2, hi2, hd, hz2, his2, hzs2, hone, rfl, _⟩ := tyI_out ht
  rw [hi] at hi2
  cases hi2
  rw [hz] at hz2
  cases hz2
  have hps : (ps.map fun (i, x) => (i, ε x)).toList = ps.toList.map fun p => (p.1, ε p.2) := by simp
  have hz0 := zeros_out (M := M) (n := H.length) (w := w) (zs := zv.cells) (all_one hone) len
  rw [hzs] at hz0
  obtain ⟨k0, us', k1, k2⟩ := bfill_out hev ps.toList _ ((Array.range (len * sz)).map fun i => zv.cells[i % zv.cells.size]!) es (by rw [hzs]; simpa using hz0) hfill
  have hle : es.length = len := by simpa using k0
  have hnb : nbss H.length es := VRss.nbOf k2
  obtain ⟨u, w', v, M', H', hrun, ⟨rfl, rfl⟩, hG', hv, hE⟩ := buildSlice_sound (K := fun v H' => v = .hs H.length sz 0 len ∧ H' = H ++ [some (.row true sz es)]) hG hev ⟨e, sz, hs, g, _, ht, hpos, hbig, es, hfill, rfl, rfl⟩
  have hG2 := hG'.drop (fun k B hk => BR.nbOf (hG.blks k B hk))
  have hEx : Ext M w H (M'.shut H [some (.row true sz es)]) w' H := ⟨hE.os, hE.tape, hE.output, hE.size, fun b hb => .inl (hE.G b hb), fun b hb => by
      rcases hb with hb | ⟨r, B, q1, q2, q3⟩
      · exact hE.gnew b hb
      · exact shut_hot hG' hE q2 q3, hE.block, Nat.le_refl _, fun r hr => hE.blk r hr, fun r hr => hE.bsz r hr, fun b hb => by
      obtain ⟨k, B, q1, q2, q3⟩ := hb
      exact hE.hot b ⟨k, B, by rw [List.getElem?_append_left (List.getElem?_eq_some_iff.1 q1).1]; exact q1, q2, q3⟩⟩
  by_cases h0 : len = 0
  · subst h0
    rw [if_pos rfl] at hK
    rw [Nat.zero_mul] at k1
    obtain ⟨ao, rfl⟩ := buildSlice_zero (us' := us') hu hsz (by rw [hps]; simp only [Array.range_zero', List.map_toArray, List.map_nil] at k1; exact k1) w hrun
    exact ⟨_, w', .mt, _, H, hrun, ⟨hK, rfl⟩, hG2, by unfold VR; exact ⟨ao, rfl⟩, hEx⟩
  · rw [if_neg h0] at hK
    refine ⟨u, w', .sl sz es, _, H, hrun, ⟨hK, rfl⟩, hG2, ?_, hEx⟩
    have h1 := VR.frz hG' 1 hv
    unfold frz at h1
    rw [if_neg (Nat.lt_irrefl _)] at h1
    simp only [Nat.sub_self, List.getElem?_cons_zero, hle, Nat.zero_add, Nat.le_refl, and_self, if_true, List.drop_zero, maps_frz0] at h1
    rw [List.take_of_length_le (by omega)] at h1
    exact VR.down (by unfold nb; exact hnb) h1
end
/-! ### a row that is born, and not yet told -/
def u8N (n : Int) : Value := .int .u8 n
def Pd (w0 w : World) (M : Mem) (H : Heap) (l : List Int) (u : Value) : Prop :=
  ∃ b cap cur e2 fr, u = .slice (some ⟨b, 0, none⟩) l.length cap ∧ l.length ≤ cap ∧ cap ≤ maxLen ∧ (0 + cap) * 1 ≤ cur.size ∧ w.heap[b]? = some (.cells cur e2 fr) ∧ (fr = (0, 0) ∨ cur.size ≤ fr.1) ∧
    cur.toList.take l.length = l.map u8N ∧ w0.heap.size ≤ b ∧ ¬ M.G b ∧ ¬ Hot M H b
theorem VRss_N {M : Mem} {n : Nat} {w : World} : ∀ {l : List Int} {us : List Value}, VRss M n w 1 (l.map bcN) us → us = l.map u8N
  | [], us, h => by simpa [VRss] using h
  | x :: l, us, h => by
    simp only [List.map_cons, VRss] at h
    obtain ⟨c, r, rfl, hc, h1, h2⟩ := h
    unfold bcN at h1
    simp only [VRs] at h1
    obtain ⟨u, r2, rfl, _, h3, rfl⟩ := h1
    unfold VR at h3
    subst h3
    rw [VRss_N h2]
    rfl
theorem N_VRss {M : Mem} {n : Nat} {w : World} : ∀ (l : List Int), VRss M n w 1 (l.map bcN) (l.map u8N)
  | [] => by simp [VRss]
  | x :: l => by
    simp only [List.map_cons, VRss]
    refine ⟨[u8N x], l.map u8N, rfl, rfl, ?_, N_VRss l⟩
    unfold bcN
    simp only [VRs]
    exact ⟨_, [], rfl, rfl, by unfold VR; rfl, rfl⟩
theorem nbss_N {n : Nat} : ∀ (l : List Int), nbss n (l.map bcN)
  | [] => by simp [nbss]
  | x :: l => by
    simp only [List.map_cons, nbss]
    exact ⟨⟨trivial, trivial⟩, nbss_N l⟩
theorem Pd.keep {w0 w w' : World} {M M' : Mem} {H H' : Heap} {l : List Int} {u : Value} (h : Pd w0 w M H l u) (hE : Ext M w H M' w' H') : Pd w0 w' M' H' l u := by
  obtain ⟨b, cap, cur, e2, fr, h1, h2, h3, h4, h5, h6, h7, h8, h9, h10⟩ := h
  have hlt : b < w.heap.size := (Array.getElem?_eq_some_iff.1 h5).1
  refine ⟨b, cap, cur, e2, fr, h1, h2, h3, h4, (hE.block b hlt h10).trans h5, h6, h7, h8, fun hg => ?_, fun hh => ?_⟩
  · rcases hE.gnew b hg with q | q | q
    · exact h9 q
    · exact h10 q
    · omega
  · rcases hE.hot b hh with q | q
    · exact h10 q
    · omega
section
variable {E : Env} {M : Mem} {w : World} {H : Heap}
theorem Gam.less0 {L : Heap} (hG' : Gam E.gl M w (H ++ L)) (hB : ∀ (k : Nat) (B : Blk), H[k]? = some (some B) → nbB H.length B) : Gam E.gl M w H := by
  have hget : ∀ (k : Nat) (B : Blk), H[k]? = some (some B) → (H ++ L)[k]? = some (some B) := by
    intro k B hk
    rw [List.getElem?_append_left (List.getElem?_eq_some_iff.1 hk).1]
    exact hk
  exact ⟨hG'.glob, hG'.inG, fun k B hk => BR.down (hB k B hk) (hG'.blks k B (hget k B hk)), fun k B b hk hh hb => hG'.sep k B b (hget k B hk) hh hb, fun k k' B B' b hk hk' => hG'.far k k' B B' b (hget k B hk) (hget k' B' hk')⟩
theorem born_pend {w0 : World} {t : TypeId} {len : Nat} {ps : Array (Nat × Operand)} {ρ : Operand → AV} {ε : Operand → Value} {l : List Int} (hG : Gam E.gl M w H) (hev : ∀ x, VR M H.length w (ρ x) (ε x)) (h0 : w0.heap.size ≤ w.heap.size) (hl : 0 < l.length)
    (h : aborn E.P (.buildSlice t len ps) ρ fun v => v = .sl 1 (l.map bcN)) : ∃ u w' M', (Instr.buildSlice t len (ps.map fun (i, x) => (i, ε x))).run E.P w = .ok u w' ∧ Gam E.gl M' w' H ∧ Ext M w H M' w' H ∧ Pd w0 w' M' H l u := by
  obtain ⟨e, sz, hs, g, z, ht, hpos, hbig, es, hfill, hK⟩ := h
  split at hK
  · cases hK
  next hlen =>
  cases hK
  obtain ⟨u, w', v, M', H', hrun, ⟨rfl, rfl⟩, hG', hv, hE⟩ := buildSlice_sound (K := fun v H' => v = .hs H.length 1 0 len ∧ H' = H ++ [some (.row true 1 (l.map bcN))]) hG hev ⟨e, 1, hs, g, _, ht, hpos, hbig, _, hfill, rfl, rfl⟩
  have hB : ∀ (k : Nat) (B : Blk), H[k]? = some (some B) → nbB H.length B := fun k B hk => BR.nbOf (hG.blks k B hk)
  have hG2 := hG'.less0 hB
  have hE2 : Ext M w H M' w' H := ⟨hE.os, hE.tape, hE.output, hE.size, hE.G, hE.gnew, hE.block, Nat.le_refl _, hE.blk, hE.bsz, fun b hb => by
    obtain ⟨k, B, q1, q2, q3⟩ := hb
    exact hE.hot b ⟨k, B, by rw [List.getElem?_append_left (List.getElem?_eq_some_iff.1 q1).1]; exact q1, q2, q3⟩⟩
  refine ⟨u, w', M', hrun, hG2, hE2, ?_⟩
  have hrow : (H ++ [some (Blk.row true 1 (l.map bcN))])[H.length]? = some (some (.row true 1 (l.map bcN))) := by simp
  unfold VR at hv
  obtain ⟨_, ao, cap, rfl, k1, k2, k3, k4⟩ := hv
  rcases hG'.blks _ _ hrow with ⟨q1, q2⟩ | ⟨b, cur, et, fr, us, j1, j2, j3, j4, j5, j6, j7⟩
  · have : l = [] := by simpa using q2
    rw [this] at hl
    simp at hl
  have hus := VRss_N j5
  subst hus
  have hll : len = l.length := by
    obtain ⟨hu, hsz, i, zv, hi, hz, his, hzs, hby⟩ := slI_out hs
    obtain ⟨_, _, i2, d, zv2, hi2, hd, hz2, his2, hzs2, hone, hzz, _⟩ := tyI_out ht
    have hz0 := zeros_out (M := M) (n := H.length) (w := w) (zs := zv2.cells) (all_one hone) len
    rw [hzs2, ← hzz] at hz0
    obtain ⟨k0, _⟩ := bfill_out hev ps.toList _ _ _ (by simpa using hz0) hfill
    simpa using k0.symm
  subst hll
  rcases k4 with ⟨k4, _⟩ | ⟨k4, _⟩ | ⟨b', k5, k6, k7⟩
  · omega
  · omega
  rw [k5] at j1
  cases j1
  subst k6
  have hnh : ¬ Hot M' H b := fun ⟨r, B, q1, q2, q3⟩ => by
    have hlt := (List.getElem?_eq_some_iff.1 q1).1
    exact hG'.far _ r _ B b hrow (by rw [List.getElem?_append_left hlt]; exact q1) rfl (by omega) k5 q3
  have hnew : w.heap.size ≤ b := by
    rcases hE.hot b ⟨_, _, hrow, rfl, k5⟩ with ⟨r, B, q1, q2, q3⟩ | q
    · have hlt := (List.getElem?_eq_some_iff.1 q1).1
      exact absurd ⟨r, B, q1, q2, by rw [hE.blk r hlt]; exact q3⟩ hnh
    · exact q
  exact ⟨b, cap, cur, et, fr, by rw [Nat.zero_mul], k1, k2, by rw [j4]; exact k7, j2, j3, by simpa using j6, Nat.le_trans h0 hnew, hG'.sep _ _ b hrow rfl k5, hnh⟩
theorem conv_pend {M0 : Mem} {w0 : World} {H0 : Heap} {l : List Int} {u : Value} {s t : TypeId} {x : Operand} (hG : Gam E.gl M w H) (hl : 0 < l.length) (hP : Pd w0 w M H l u) (hc : convT E.P (.convert s t x)) (hE0 : Ext M0 w0 H0 M w H) :
    ∃ w' M', (convert s t u).run E.P w = .ok u w' ∧ Gam E.gl M' w' H ∧ VR M' H.length w' (.sl 1 (l.map bcN)) u ∧ (∀ b, M.G b → w'.heap[b]? = w.heap[b]?) ∧ (∀ b, M.G b → M'.G b) ∧ (∀ r, r < H.length → M'.blk r = M.blk r ∧ M'.bsz r = M.bsz r) ∧ Ext M0 w0 H0 M' w' H := by
  obtain ⟨b, cap, cur, e2, fr, rfl, h2, h3, h4, h5, h6, h7, h8, h9, h10⟩ := hP
  unfold convT at hc
  obtain ⟨rfl, hc⟩ := hc
  split at hc
  case h_2 => exact hc.elim
  next e he =>
  obtain ⟨w', fr', m1, m2, m3, m4, m5, m6, m7, m8⟩ := World.marked E.P w s e e2 b 0 l.length cap cur fr he hc h5
  have hfree : ∀ r' B', H[r']? = some (some B') → M.blk r' ≠ some b := fun r B hr hb => by
    cases hh : B.isHot with
    | true => exact h10 ⟨r, B, hr, hh, hb⟩
    | false =>
      cases B with
      | obj cs => cases hh
      | map ks vs st => cases hh
      | iter m bs c seen => cases hh
      | row hot sz es =>
        rcases hG.blks r _ hr with ⟨q1, _⟩ | ⟨b', cur', e', fr', us, j1, j2, j3, j4, j5, j6, j7⟩
        · rw [hb] at q1; cases q1
        · rw [hb] at j1
          cases j1
          exact h9 (j7 hh)
  have hG2 := Gam.rename (b := b) (B := .row true 1 (l.map bcN)) (w1 := w') (s := cur.size) hG h9 hfree ⟨m2, m3, m4, m5⟩ m6 (fun M2 a1 a2 a3 a4 =>
    .inr ⟨b, cur, e2, fr', l.map u8N, a3, m7, .inr (m8 h6), a4.symm, N_VRss l, by simpa using h7, fun hh => by cases hh⟩)
  have hB : ∀ (k : Nat) (B : Blk), H[k]? = some (some B) → nbB H.length B := fun k B hk => BR.nbOf (hG.blks k B hk)
  have hG3 := hG2.drop hB
  have hpb : ∀ r, r < H.length → (M.push H.length b cur.size).blk r = M.blk r ∧ (M.push H.length b cur.size).bsz r = M.bsz r := fun r hr => by
    simp only [Mem.push]
    rw [if_neg (by omega), if_neg (by omega)]
    exact ⟨rfl, rfl⟩
  have hGw : ∀ k, M.G k → w'.heap[k]? = w.heap[k]? := fun k hk => m6 k (fun e => h9 (e ▸ hk))
  refine ⟨w', _, m1, hG3, ?_, hGw, fun k hk => .inl hk, hpb, ?_⟩
  · have hv : VR (M.push H.length b cur.size) (H ++ [some (Blk.row true 1 (l.map bcN))]).length w' (.hs H.length 1 0 l.length) (.slice (some ⟨b, 0, none⟩) l.length cap) := by
      unfold VR
      refine ⟨by simp, _, cap, rfl, h2, h3, fun h => (by cases h), .inr (.inr ⟨b, by simp [Mem.push], by rw [Nat.zero_mul], ?_⟩)⟩
      simp only [Mem.push, if_true]
      exact h4
    have q1 := VR.frz hG2 1 hv
    unfold frz at q1
    rw [if_neg (Nat.lt_irrefl _)] at q1
    simp only [Nat.sub_self, List.getElem?_cons_zero, List.length_map, Nat.zero_add, Nat.le_refl, and_self, if_true, List.drop_zero, maps_frz0] at q1
    rw [List.take_of_length_le (by simp)] at q1
    exact VR.down (by unfold nb; exact nbss_N l) q1
  · refine ⟨m2.trans hE0.os, m3.trans hE0.tape, m4.trans hE0.output, by rw [m5]; exact hE0.size, fun k hk => .inl (hE0.G k hk), fun k hk => ?_, fun k hk hn => ?_, hE0.len, fun r hr => ?_, fun r hr => ?_, fun k hk => ?_⟩
    · rcases hk with hk | ⟨r, B, q1, q2, q3⟩
      · exact hE0.gnew k hk
      · have hr2 : r < (H ++ [some (Blk.row true 1 (l.map bcN))]).length := (List.getElem?_eq_some_iff.1 q2).1
        rw [List.length_append, List.length_singleton] at hr2
        have : r = H.length := by omega
        subst this
        simp only [Mem.push, if_true, Option.some.injEq] at q3
        subst q3
        exact .inr (.inr h8)
    · rw [m6 k (fun e => by omega)]
      exact hE0.block k hk hn
    · exact (hpb r (Nat.lt_of_lt_of_le hr hE0.len)).1.trans (hE0.blk r hr)
    · exact (hpb r (Nat.lt_of_lt_of_le hr hE0.len)).2.trans (hE0.bsz r hr)
    · obtain ⟨r, B, q1, q2, q3⟩ := hk
      refine hE0.hot k ⟨r, B, q1, q2, ?_⟩
      rw [← (hpb r (List.getElem?_eq_some_iff.1 q1).1).1]
      exact q3
end
section
variable {E : Env} {ops : Array Oper} {ks : List Kd} {N : Nat} {T v : Nat → AV} {hp : Nat → Heap}

theorem hp_const (hf : ∀ j o, ops[j]? = some o → Fact E ops ks T v hp j o) : ∀ (k a : Nat), a + k ≤ ops.size → (∀ j, a ≤ j → j < a + k → (ks.getD j .q).eff = false) → hp (a + k) = hp a
  | 0, _, _, _ => rfl
  | k + 1, a, hk, h => by
    have hlt : a + k < ops.size := by omega
    rw [← Nat.add_assoc, (hf (a + k) ops[a + k] (by simp [hlt])).1 (h (a + k) (by omega) (by omega))]
    exact hp_const hf k a (by omega) (fun j h1 h2 => h j h1 (by omega))

/-- Blocks are added alone. -/
theorem hp_grow (hf : ∀ j o, ops[j]? = some o → Fact E ops ks T v hp j o) : ∀ (k : Nat), k ≤ ops.size → (∀ j, j < k → (ks.getD j .q).eff = true → (ks.getD j .q).isG = true) → ∃ L, hp k = hp 0 ++ L
  | 0, _, _ => ⟨[], by simp⟩
  | k + 1, hk, h => by
    obtain ⟨L, hL⟩ := hp_grow hf k (by omega) (fun j h1 h2 => h j (by omega) h2)
    obtain ⟨f1, ⟨f2, _⟩, _⟩ := hf k ops[k] (by simp)
    cases hc : (ks.getD k .q).eff with
    | false => exact ⟨L, by rw [f1 hc, hL]⟩
    | true =>
      obtain ⟨L2, hL2⟩ := f2 (h k (by omega) hc)
      exact ⟨L ++ L2, by rw [hL2, hL, List.append_assoc]⟩

theorem hp_same (hf : ∀ j o, ops[j]? = some o → Fact E ops ks T v hp j o) {p i : Nat} (hp1 : p ≤ ops.size) (hi : i ≤ ops.size) (h : ∀ e, e < ops.size → (ks.getD e .q).eff = true → (e < p ↔ e < i)) : hp p = hp i := by
  have key : ∀ a b, a ≤ b → b ≤ ops.size → (∀ e, e < ops.size → (ks.getD e .q).eff = true → (e < a ↔ e < b)) → hp a = hp b := by
    intro a b hab hb hh
    obtain ⟨k, rfl⟩ := Nat.exists_eq_add_of_le hab
    refine (hp_const hf k a hb fun j h1 h2 => ?_).symm
    cases hc : (ks.getD j .q).eff with
    | false => rfl
    | true =>
      have := (hh j (by omega) hc).2 h2
      omega
  rcases Nat.le_total p i with hpi | hpi
  · exact key p i hpi hi h
  · exact (key i p hpi hp1 fun e h1 h2 => (h e h1 h2).symm).symm

theorem Kd.apart_out {k m : Kd} (h : k.apart m = true) : ∃ r, k = .m r ∧ ∃ s, m = .f s ∧ r ∈ s := by
  cases k <;> cases m <;> simp [Kd.apart] at h
  next r s => exact ⟨r, rfl, s, rfl, h⟩
theorem Kd.clash6 {k m : Kd} (h1 : k.eff = true) (h2 : k.apart m = true) : False := by obtain ⟨r, rfl, _⟩ := Kd.apart_out h2; cases h1
theorem Kd.clash7 {k m : Kd} (h1 : k.isL = true) (h2 : k.apart m = true) : False := by obtain ⟨r, rfl, _⟩ := Kd.apart_out h2; cases h1
/-- A block that is left alone between two places. -/
theorem hp_keep (hf : ∀ j o, ops[j]? = some o → Fact E ops ks T v hp j o) {s p i : Nat} (hp1 : p ≤ ops.size) (hi : i ≤ ops.size) (h : ∀ e, e < ops.size → (ks.getD e .q).eff = true → (e < p ↔ e < i) ∨ ∃ t, ks.getD e .q = .f t ∧ s ∈ t) : (hp p)[s]? = (hp i)[s]? := by
  have const : ∀ (k a : Nat), a + k ≤ ops.size → (∀ j, a ≤ j → j < a + k → (ks.getD j .q).eff = true → ∃ t, ks.getD j .q = .f t ∧ s ∈ t) → (hp (a + k))[s]? = (hp a)[s]? := by
    intro k
    induction k with
    | zero => intro a _ _; rfl
    | succ k ih =>
      intro a hk h
      have hlt : a + k < ops.size := by omega
      obtain ⟨f1, ⟨_, f3⟩, _⟩ := hf (a + k) ops[a + k] (by simp [hlt])
      rw [← Nat.add_assoc, ← ih a (by omega) (fun j h1 h2 => h j h1 (by omega))]
      cases hc : (ks.getD (a + k) .q).eff with
      | false => rw [f1 hc]
      | true =>
        obtain ⟨t, h1, h2⟩ := h (a + k) (by omega) (by omega) hc
        exact f3 t h1 s h2
  have key : ∀ a b, a ≤ b → b ≤ ops.size → (∀ e, e < ops.size → (ks.getD e .q).eff = true → (e < a ↔ e < b) ∨ ∃ t, ks.getD e .q = .f t ∧ s ∈ t) → (hp a)[s]? = (hp b)[s]? := by
    intro a b hab hb hh
    obtain ⟨k, rfl⟩ := Nat.exists_eq_add_of_le hab
    refine (const k a hb fun j h1 h2 hc => ?_).symm
    rcases hh j (by omega) hc with h3 | h3
    · have := h3.2 h2
      omega
    · exact h3
  rcases Nat.le_total p i with hpi | hpi
  · exact key p i hpi hi h
  · exact (key i p hpi hp1 fun e h1 h2 => (h e h1 h2).imp Iff.symm id).symm

theorem Kd.clash1 {k : Kd} (h1 : k.eff = true) (h2 : k.isB = true) : False := by cases k <;> simp [Kd.eff, Kd.isB] at h1 h2
theorem Kd.clash2 {k : Kd} (h1 : k.eff = true) (h2 : k.isQ = true) : False := by cases k <;> simp [Kd.eff, Kd.isQ] at h1 h2
theorem Kd.clash3 {k : Kd} (h1 : k.eff = true) (h2 : k.isL = true) : False := by cases k <;> simp [Kd.eff, Kd.isL] at h1 h2
theorem Kd.clash4 {k : Kd} (h1 : k.isL = true) (h2 : k.isB = true) : False := by cases k <;> simp [Kd.isL, Kd.isB] at h1 h2
theorem Kd.clash5 {k : Kd} (h1 : k.isL = true) (h2 : k.isQ = true) : False := by cases k <;> simp [Kd.isL, Kd.isQ] at h1 h2

def ordB (ops : Array Oper) (i j : Nat) : Bool := (((ancs ops.toList []).getD i []).contains j && decide (j < i)) || (((ancs ops.toList []).getD j []).contains i && decide (i < j))

theorem drawOk_out (h : drawOk ops ks = true) : ∀ i o, ops[i]? = some o →
    (∀ j ∈ dirs o, j < i) ∧ ∀ j p, ops[j]? = some p → i ≠ j → (∀ d, p.dst = some d → d ∈ names ops o → ordB ops i j = true) ∧
      ((ks.getD j .q).eff = true → (ks.getD i .q).isB = true ∨ ((ks.getD i .q).isQ = true ∧ still o.op = true) ∨ (ks.getD i .q).apart (ks.getD j .q) = true ∨ ((ks.getD i .q).isL = true ∧ ((ks.getD j .q).isG = true ∨ ((ancs ops.toList []).getD j []).contains i = true)) ∨ ((ks.getD i .q).isL = false ∧ ordB ops i j = true)) := by
  unfold drawOk at h
  simp only [Bool.and_eq_true] at h
  intro i o ho
  have hi : i < ops.size := (Array.getElem?_eq_some_iff.1 ho).1
  have h1 := List.all_eq_true.1 h.2 i (List.mem_range.2 hi)
  rw [ho] at h1
  simp only [Bool.and_eq_true] at h1
  obtain ⟨h2, h3⟩ := h1
  refine ⟨fun j hj => of_decide_eq_true (List.all_eq_true.1 h2 j hj), fun j p hp hij => ?_⟩
  have hj : j < ops.size := (Array.getElem?_eq_some_iff.1 hp).1
  have h4 := List.all_eq_true.1 h3 j (List.mem_range.2 hj)
  rw [hp] at h4
  simp only [Bool.or_eq_true, beq_iff_eq, hij, false_or, Bool.and_eq_true, Bool.not_eq_true'] at h4
  obtain ⟨h5, h6⟩ := h4
  refine ⟨fun d hd hdn => ?_, fun he => ?_⟩
  · rw [hd] at h5
    simp only [Bool.or_eq_true, Bool.not_eq_true'] at h5
    rcases h5 with h5 | h5
    · rw [List.contains_iff_mem.2 hdn] at h5; cases h5
    · unfold ordB
      simpa using h5
  · rcases h6 with ((((h6 | h6) | h6) | hap) | h6) | h6
    · rw [he] at h6; cases h6
    · exact .inl h6
    · exact .inr (.inl h6)
    · exact .inr (.inr (.inl hap))
    · refine .inr (.inr (.inr (.inl ⟨h6.1, ?_⟩)))
      rcases h6.2 with h7 | h7
      · exact .inl h7
      · exact .inr h7.1
    · refine .inr (.inr (.inr (.inr ⟨h6.1, ?_⟩)))
      unfold ordB
      simpa using h6.2

theorem lets_congr {o : Oper} {T1 T2 : Nat → AV} (h : ∀ t ∈ names ops o, T1 t = T2 t) : lets ops o T1 = lets ops o T2 := by
  unfold lets
  cases hg : o.guard with
  | none => rfl
  | some g =>
    obtain ⟨j, b⟩ := g
    simp only
    have : ayield ops T1 j = ayield ops T2 j := by
      unfold ayield
      cases hd : (ops[j]?).bind (·.dst) with
      | none => rfl
      | some d =>
        simp only
        rw [h d (by simp [names, Oper.looksAt, hg, hd])]
    rw [this]

theorem ev_congr {gl : Nat → AV} {o : Oper} {T1 T2 : Nat → AV} (h : ∀ t ∈ names ops o, T1 t = T2 t) : ∀ x ∈ o.op.operands, ev gl T1 x = ev gl T2 x := by
  intro x hx
  cases x with
  | tmp t => exact h t (by
      simp only [names, Oper.looksAt, List.mem_append, List.mem_filterMap]
      exact .inl (.inl ⟨.tmp t, by simpa using hx, rfl⟩))
  | _ => rfl

theorem run_sound {M : Mem} {w : World} {X X' : Heap} {k : Kd} {o : Oper} {a : Act} {x : AV} {next : Act → World → Prop} {Q : Exit → Act → World → Prop} {T : Nat → AV} (hk : k.isP = false) (hG : Gam E.gl M w X) (hT : TR M X.length w N T a) (h : RunAt E k o (ev E.gl T) x X X')
    (hn : ∀ u w' M', Gam E.gl M' w' X' → VR M' X'.length w' x u → Ext M w X M' w' X' → next (a.put o.dst u) w') : o.wp E.P a w next Q := by
  unfold RunAt at h
  split at h
  · obtain ⟨rfl, h⟩ := h
    have hev := ev_out hG hT
    cases ho : o.op with
    | buildSlice t len ps =>
      rw [ho] at h
      refine yields_wp (by unfold execOp; simp only [ho]) (born_sound (ty := 0) hG hev h) ?_
      rintro v u w' M' H' ⟨rfl, rfl⟩ h2 h3 h4
      exact hn u w' M' h2 h3 h4
    | _ => rw [ho] at h; exact h.elim
  · cases hk
  · cases hk
  · refine op_sound hG hT h ?_
    rintro v u w' M' H' ⟨rfl, rfl⟩ h2 h3 h4
    exact hn u w' M' h2 h3 h4

theorem RunAt.congr {k : Kd} {o : Oper} {ρ ρ' : Operand → AV} {x : AV} {X X' : Heap} (h : ∀ y ∈ o.op.operands, ρ y = ρ' y) : RunAt E k o ρ x X X' = RunAt E k o ρ' x X X' := by
  cases k <;> simp only [RunAt] <;> first | rw [aop_congr h] | rw [aborn_congr h]

theorem RunAt.free {k : Kd} {o : Oper} {ρ : Operand → AV} {x : AV} {X X2 : Heap} (hk : k.isB = true ∨ (k.isQ = true ∧ still o.op = true)) (h : RunAt E k o ρ x X X) : RunAt E k o ρ x X2 X2 := by
  cases k with
  | b => exact ⟨rfl, h.2⟩
  | p l => exact ⟨rfl, h.2⟩
  | c j l => exact ⟨rfl, h.2⟩
  | q =>
    rcases hk with hk | ⟨_, hs⟩
    · cases hk
    · exact aop_quiet hs h
  | _ => rcases hk with hk | ⟨hk, _⟩ <;> cases hk

theorem pend_out (h : drawOk ops ks = true) : pendOk ops ks = true := by
  unfold drawOk at h
  simp only [Bool.and_eq_true] at h
  exact h.1.1
theorem pend_p (h : pendOk ops ks = true) {i : Nat} {o : Oper} {l : List Int} (ho : ops[i]? = some o) (hk : ks.getD i .q = .p l) : o.guard = none ∧ 0 < l.length ∧ ∀ j q, ops[j]? = some q → i ≠ j → (∀ l', ks.getD j .q ≠ .p l') ∧ ∀ d, o.dst = some d → q.dst ≠ some d := by
  have hi : i < ops.size := (Array.getElem?_eq_some_iff.1 ho).1
  have h1 := List.all_eq_true.1 h i (List.mem_range.2 hi)
  rw [ho] at h1
  simp only [hk, Bool.and_eq_true, Option.isNone_iff_eq_none, decide_eq_true_eq] at h1
  obtain ⟨⟨h2, h3⟩, h4⟩ := h1
  refine ⟨h2, h3, fun j q hj hij => ?_⟩
  have h5 := List.all_eq_true.1 h4 j (List.mem_range.2 (Array.getElem?_eq_some_iff.1 hj).1)
  rw [hj] at h5
  simp only [Bool.or_eq_true, beq_iff_eq, hij, false_or, Bool.and_eq_true, Bool.not_eq_true'] at h5
  obtain ⟨h6, h7⟩ := h5
  refine ⟨fun l' e => ?_, fun d hd e => ?_⟩
  · rw [e] at h6
    cases h6
  · rw [hd, e] at h7
    simp at h7
theorem pend_c (h : pendOk ops ks = true) {i j : Nat} {o : Oper} {l : List Int} (ho : ops[i]? = some o) (hk : ks.getD i .q = .c j l) : o.guard = none ∧ j < i ∧ j ∈ (ancs ops.toList []).getD i [] ∧ ks.getD j .q = .p l ∧ (∀ k, k < ops.size → k ≠ i → ∀ j' l', ks.getD k .q ≠ .c j' l') ∧
    ∃ q s t d, ops[j]? = some q ∧ q.dst = some d ∧ o.op = .convert s t (.tmp d) := by
  have hi : i < ops.size := (Array.getElem?_eq_some_iff.1 ho).1
  have h1 := List.all_eq_true.1 h i (List.mem_range.2 hi)
  rw [ho] at h1
  simp only [hk, Bool.and_eq_true, Option.isNone_iff_eq_none, decide_eq_true_eq] at h1
  obtain ⟨⟨⟨⟨⟨h2, h3⟩, h4⟩, h5⟩, h6⟩, h7⟩ := h1
  refine ⟨h2, h3, by simpa using h4, ?_, fun k hk2 hki j' l' e => ?_, ?_⟩
  · split at h5
    · next l' hl' =>
      rw [hl']
      simp only [beq_iff_eq] at h5
      rw [h5]
    · cases h5
  · have h8 := List.all_eq_true.1 h6 k (List.mem_range.2 hk2)
    rw [e] at h8
    simp only [Bool.or_eq_true, beq_iff_eq, Bool.not_true, Bool.false_eq_true, or_false] at h8
    exact hki h8.symm
  · split at h7
    · cases h7
    · next q hq =>
      split at h7
      · next s t d d' t' n ps e1 e2 e3 =>
        simp only [Bool.and_eq_true, beq_iff_eq] at h7
        obtain ⟨rfl, _⟩ := h7
        exact ⟨q, _, _, _, hq, e2, e1⟩
      · cases h7
/-- What has been born and not yet been told. -/
def PendI (ops : Array Oper) (ks : List Kd) (w0 : World) (listed : Array Bool) (a : Act) (M : Mem) (w : World) (H : Heap) : Prop :=
  ∀ j o d l, ops[j]? = some o → o.dst = some d → ks.getD j .q = .p l → listed.getD j false = true → (∀ i, i < ops.size → ks.getD i .q = .c j l → listed.getD i false = false) → Pd w0 w M H l (a.tmps.getD d undef)
theorem put_other {a : Act} {d : Tmp} {d2 : Option Tmp} {u : Value} (h : d2 ≠ some d) : (a.put d2 u).tmps.getD d undef = a.tmps.getD d undef := by
  cases d2 with
  | none => rfl
  | some d2 =>
    simp only [Act.put, Array.getD_eq_getD_getElem?, Array.getElem?_setIfInBounds]
    rw [if_neg (fun e => h (by rw [e]))]
theorem run_wp {o : Oper} {a : Act} {m : Sem Value} {u : Value} {w w' : World} {next : Act → World → Prop} {Q : Exit → Act → World → Prop} (he : execOp a.eval o = (do pure (Next.value (← m)))) (hr : m.run E.P w = .ok u w') (hn : next (a.put o.dst u) w') : o.wp E.P a w next Q := by
  unfold Oper.wp
  rw [he, Sem.run_bind, hr]
  exact hn
set_option maxHeartbeats 2000000 in
theorem draw_sound (hdst : (ops.toList.all fun o => dstOk N o.dst) = true) (hok : drawOk ops ks = true) {K : (Nat → AV) → Heap → Prop} {Q : Exit → Act → World → Prop} {M : Mem} {w : World} {H : Heap} {ds : List Deferred} (hp0 : hp 0 = H)
    (hf : ∀ j o, ops[j]? = some o → Fact E ops ks T v hp j o) (hK : K (Tof ops T v (fun j => decide (j < ops.size)) ops.size) (hp ops.size))
    (hQ : ∀ T' H' M' a' w', K T' H' → Gam E.gl M' w' H' → TR M' H'.length w' N T' a' → a'.defers = ds → Ext M w H M' w' H' → Q .normal a' w') :
    ∀ (fuel : Nat) (listed : Array Bool) (a1 : Act) (w1 : World) (M1 : Mem) (p : Nat), listed.size = ops.size → ((List.range ops.size).countP fun j => !(listed.getD j false)) = fuel → p ≤ ops.size → Gam E.gl M1 w1 (hp p) →
      TR M1 (hp p).length w1 N (Tof ops T v (fun j => listed.getD j false) ops.size) a1 → a1.defers = ds → Ext M w H M1 w1 (hp p) → PendI ops ks w listed a1 M1 w1 (hp p) → (∀ e, e < ops.size → (ks.getD e .q).eff = true → (listed.getD e false = true ↔ e < p)) →
      (∀ i o, ops[i]? = some o → listed.getD i false = true → ∀ j ∈ dirs o, listed.getD j false = true) → wpAny E.P .any ops Q fuel listed a1 w1 := by
  have hord := drawOk_out hok
  have hpend := pend_out hok
  -- when all have had their turn
  have fin : ∀ (listed : Array Bool) (a1 : Act) (w1 : World) (M1 : Mem) (p : Nat), listed.size = ops.size → (∀ j, j < ops.size → listed.getD j false = true) → p ≤ ops.size → Gam E.gl M1 w1 (hp p) →
      TR M1 (hp p).length w1 N (Tof ops T v (fun j => listed.getD j false) ops.size) a1 → a1.defers = ds → Ext M w H M1 w1 (hp p) → (∀ e, e < ops.size → (ks.getD e .q).eff = true → (listed.getD e false = true ↔ e < p)) → Q .normal a1 w1 := by
    intro listed a1 w1 M1 p hls hall hpl hG hT hds hE hpe
    have hpp : hp p = hp ops.size := hp_same hf hpl (Nat.le_refl _) fun e he hc => by
      have := (hpe e he hc).1 (hall e he)
      omega
    rw [hpp] at hG hT hE
    rw [Tof_eq (v2 := v) (S2 := fun j => decide (j < ops.size)) ops.size (fun j hj => ⟨by show listed.getD j false = decide (j < ops.size); rw [hall j hj]; simp [hj], rfl⟩)] at hT
    exact hQ _ _ M1 a1 w1 hK hG hT hds hE
  have unl : ∀ (listed : Array Bool), listed.size = ops.size → (∀ j, j < ops.size → listed.getD j false = true) ∨ ∃ j, j < ops.size ∧ listed.getD j false = false ∧ ∀ k, k < j → listed.getD k false = true := by
    intro listed hls
    by_cases h : ∃ j, j < ops.size ∧ listed.getD j false = false
    · obtain ⟨j, ⟨h1, h2⟩, h3⟩ := exists_least h
      refine .inr ⟨j, h1, h2, fun k hk => ?_⟩
      cases hc : listed.getD k false with
      | true => rfl
      | false => have := h3 k ⟨by omega, hc⟩; omega
    · refine .inl fun j hj => ?_
      cases hc : listed.getD j false with
      | true => rfl
      | false => exact absurd ⟨j, hj, hc⟩ h
  have noready : ∀ (listed : Array Bool), listed.size = ops.size → Region.ready .any ops listed = [] → ∀ j, j < ops.size → listed.getD j false = true := by
    intro listed hls hr
    rcases unl listed hls with h | ⟨j, h1, h2, h3⟩
    · exact h
    · exfalso
      have : j ∈ Region.ready .any ops listed := by
        rw [mem_ready]
        refine ⟨?_, ops[j], by simp [h1], fun e he hb => h3 _ ?_⟩
        · have hjl : j < listed.size := by omega
          simp only [Array.getD_eq_getD_getElem?, Array.getElem?_eq_getElem hjl, Option.getD_some] at h2 ⊢
          exact h2
        · refine (hord j ops[j] (by simp [h1])).1 e.on ?_
          unfold dirs
          exact List.mem_map.2 ⟨e, List.mem_filter.2 ⟨by simpa using he, hb⟩, rfl⟩
      rw [hr] at this
      cases this
  intro fuel
  induction fuel with
  | zero =>
    intro listed a1 w1 M1 p hls hcnt hpl hG hT hds hE hPI hpe hshut
    have hall : ∀ j, j < ops.size → listed.getD j false = true := by
      intro j hj
      have := List.countP_eq_zero.1 hcnt j (List.mem_range.2 hj)
      simpa using this
    refine ⟨?_, fin listed a1 w1 M1 p hls hall hpl hG hT hds hE hpe⟩
    cases hr : Region.ready .any ops listed with
    | nil => rfl
    | cons i l =>
      have hi : i ∈ Region.ready .any ops listed := by rw [hr]; simp
      rw [mem_ready] at hi
      obtain ⟨h1, o, ho, _⟩ := hi
      have hil : i < ops.size := (Array.getElem?_eq_some_iff.1 ho).1
      have hjl : i < listed.size := by omega
      have h2 := hall i hil
      simp only [Array.getD_eq_getD_getElem?, Array.getElem?_eq_getElem hjl, Option.getD_some] at h1 h2
      rw [h1] at h2
      cases h2
  | succ fuel ih =>
    intro listed a1 w1 M1 p hls hcnt hpl hG hT hds hE hPI hpe hshut
    refine ⟨fun hr => fin listed a1 w1 M1 p hls (noready listed hls hr) hpl hG hT hds hE hpe, fun i hi => ?_⟩
    rw [mem_ready] at hi
    obtain ⟨hun, o, ho, hdeps⟩ := hi
    have hil : i < ops.size := (Array.getElem?_eq_some_iff.1 ho).1
    have hill : i < listed.size := by omega
    have hSi : listed.getD i false = false := by
      simp only [Array.getD_eq_getD_getElem?, Array.getElem?_eq_getElem hill, Option.getD_some] at hun ⊢
      exact hun
    obtain ⟨hdl, hpair⟩ := hord i o ho
    have hS' : ∀ j, (listed.setIfInBounds i true).getD j false = if j = i then true else listed.getD j false := by
      intro j
      simp only [Array.getD_eq_getD_getElem?, Array.getElem?_setIfInBounds]
      by_cases hj : i = j
      · subst hj; simp [hill]
      · rw [if_neg hj, if_neg (fun e => hj e.symm)]
    have hshut' : ∀ k q, ops[k]? = some q → (listed.setIfInBounds i true).getD k false = true → ∀ j ∈ dirs q, (listed.setIfInBounds i true).getD j false = true := by
      intro k q hk hkS j hj
      rw [hS'] at hkS ⊢
      by_cases hji : j = i
      · rw [if_pos hji]
      · rw [if_neg hji]
        by_cases hki : k = i
        · subst hki
          rw [ho] at hk
          cases hk
          unfold dirs at hj
          obtain ⟨e, he, rfl⟩ := List.mem_map.1 hj
          obtain ⟨he1, he2⟩ := List.mem_filter.1 he
          exact hdeps e (by simpa using he1) he2
        · rw [if_neg hki] at hkS
          exact hshut k q hk hkS j hj
    have anc1 := ancs_shut (S := fun j => listed.getD j false) hshut ops.toList [] rfl (by simp)
    have anc2 := ancs_shut (S := fun j => (listed.setIfInBounds i true).getD j false) hshut' ops.toList [] rfl (by simp)
    -- an operation that is ordered with this one has had its turn just if it stands ahead of it
    have hoS : ∀ j, i ≠ j → ordB ops i j = true → listed.getD j false = decide (j < i) := by
      intro j hij h
      unfold ordB at h
      simp only [Bool.or_eq_true, Bool.and_eq_true, decide_eq_true_eq, List.contains_iff_mem] at h
      rcases h with ⟨h1, h2⟩ | ⟨h1, h2⟩
      · have h3 : (listed.setIfInBounds i true).getD j false = true := anc2 i (by show (listed.setIfInBounds i true).getD i false = true; rw [hS', if_pos rfl]) j h1
        rw [hS', if_neg (fun e => hij e.symm)] at h3
        have this := h3
        rw [this]
        simp [h2]
      · have : ¬ j < i := by omega
        simp only [this, decide_false]
        cases hc : listed.getD j false with
        | false => rfl
        | true =>
          have this : listed.getD i false = true := anc1 j hc i h1
          rw [hSi] at this
          cases this
    have hTn : ∀ t ∈ names ops o, Tof ops T v (fun j => listed.getD j false) ops.size t = Tof ops T v (fun q => decide (q < i)) i t := by
      intro t ht
      rw [← Tof_stop ops.size (Nat.le_of_lt hil)]
      refine Tof_agree ops.size fun j hj hd => ?_
      by_cases hji : i = j
      · subst hji
        simp [hSi]
      · obtain ⟨q, hq, hqd⟩ := Option.bind_eq_some_iff.1 hd
        exact hoS j hji ((hpair j q hq hji).1 t hqd ht)
    obtain ⟨heff, _, r, hlets, hrun, hskip⟩ := hf i o ho
    rw [← lets_congr hTn] at hlets
    have hdo : dstOk N o.dst = true := List.all_eq_true.1 hdst o (by
      have := Array.mem_of_getElem? ho
      simpa using this)
    have hcnt' : ((List.range ops.size).countP fun j => !((listed.setIfInBounds i true).getD j false)) = fuel := by
      have h1 := countP_less (p := fun j => !(listed.getD j false)) (i := i) (List.range ops.size) List.nodup_range (List.mem_range.2 hil) (by simp [hSi])
      rw [hcnt] at h1
      have h2 : ((List.range ops.size).countP fun j => !((listed.setIfInBounds i true).getD j false)) = (List.range ops.size).countP fun j => !(listed.getD j false) && !(j == i) := by
        refine List.countP_congr fun j _ => ?_
        rw [hS']
        by_cases hji : j = i
        · simp [hji]
        · simp [hji]
      omega
    -- the slots behind
    have hTput : Tof ops T v (fun j => (listed.setIfInBounds i true).getD j false) ops.size = aput (Tof ops T v (fun j => listed.getD j false) ops.size) o.dst (v i) := by
      funext t
      rw [aput_at]
      by_cases hd : o.dst = some t
      · rw [if_pos hd]
        have h1 : Tof ops T v (fun j => (listed.setIfInBounds i true).getD j false) ops.size t = Tof ops T v (fun j => decide (j < i + 1)) ops.size t := by
          refine Tof_agree ops.size fun j hj hjd => ?_
          show (listed.setIfInBounds i true).getD j false = decide (j < i + 1)
          rw [hS']
          by_cases hji : j = i
          · subst hji; simp
          · rw [if_neg hji]
            obtain ⟨q, hq, hqd⟩ := Option.bind_eq_some_iff.1 hjd
            rw [hoS j (fun e => hji e.symm) ((hpair j q hq (fun e => hji e.symm)).1 t hqd (by simp [names, hd]))]
            simp only [decide_eq_decide]
            omega
        rw [h1, Tof_stop ops.size (by omega)]
        unfold Tof
        simp only [Nat.lt_succ_self, decide_true, if_true, ho, Option.bind_some]
        rw [aput_at, if_pos hd]
      · rw [if_neg hd]
        refine Tof_agree ops.size fun j hj hjd => ?_
        show (listed.setIfInBounds i true).getD j false = listed.getD j false
        rw [hS']
        by_cases hji : j = i
        · subst hji
          rw [ho] at hjd
          exact absurd hjd hd
        · rw [if_neg hji]
    -- where the memory stands
    have hpS : ∀ (p' : Nat), p' = (if (ks.getD i .q).eff = true then i + 1 else p) → (∀ e, e < ops.size → (ks.getD e .q).eff = true → ((listed.setIfInBounds i true).getD e false = true ↔ e < p')) ∧ p' ≤ ops.size := by
      rintro p' rfl
      refine ⟨fun e he hce => ?_, ?_⟩
      · rw [hS']
        by_cases hci : (ks.getD i .q).eff = true
        · rw [if_pos hci]
          by_cases hei : e = i
          · subst hei; simp
          · rw [if_neg hei]
            have hq := (hpair e ops[e] (by simp [he]) (fun x => hei x.symm)).2 hce
            have ho1 : ordB ops i e = true := by
              rcases hq with h1 | ⟨h1, _⟩ | h1 | ⟨h1, _⟩ | ⟨_, h1⟩
              · exact (Kd.clash1 hci h1).elim
              · exact (Kd.clash2 hci h1).elim
              · exact (Kd.clash6 hci h1).elim
              · exact (Kd.clash3 hci h1).elim
              · exact h1
            rw [hoS e (fun x => hei x.symm) ho1]
            simp only [decide_eq_true_eq]
            omega
        · rw [if_neg hci]
          by_cases hei : e = i
          · subst hei; exact absurd hce hci
          · rw [if_neg hei]
            exact hpe e he hce
      · split <;> omega
    obtain ⟨hpe', hpl'⟩ := hpS _ rfl
    -- ordered with all that write: it finds the memory of its place
    have hsame : (∀ e, e < ops.size → (ks.getD e .q).eff = true → e ≠ i → ordB ops i e = true) → hp p = hp i := fun hall => hp_same hf hpl (Nat.le_of_lt hil) fun e he hce => by
      by_cases hei : e = i
      · subst hei
        have := hpe e he hce
        rw [hSi] at this
        simp at this
        omega
      · rw [← hpe e he hce, hoS e (fun x => hei x.symm) (hall e he hce hei)]
        simp
    -- what it does, where it is now
    have now : r = true → RunAt E (ks.getD i .q) o (ev E.gl (Tof ops T v (fun q => decide (q < i)) i)) (v i) (hp p) (hp (if (ks.getD i .q).eff = true then i + 1 else p)) := by
      intro hr
      obtain ⟨hm, h1⟩ := hrun hr
      by_cases hl : (ks.getD i .q).isL = true
      · rw [if_pos hl] at h1
        have hne : (ks.getD i .q).eff = false := by revert hl; generalize ks.getD i .q = k; intro hl; cases k <;> first | rfl | cases hl
        rw [if_neg (by rw [hne]; simp)]
        obtain ⟨L, hL⟩ := hp_grow hf p hpl fun e hep hce => by
          have he : e < ops.size := by omega
          have hei : e ≠ i := fun x => by rw [x, hne] at hce; cases hce
          have hSe := (hpe e he hce).2 hep
          rcases (hpair e ops[e] (by simp [he]) (fun x => hei x.symm)).2 hce with h2 | ⟨h2, _⟩ | h2 | ⟨_, h2⟩ | ⟨h2, _⟩
          · exact (Kd.clash4 hl h2).elim
          · exact (Kd.clash5 hl h2).elim
          · exact (Kd.clash7 hl h2).elim
          · rcases h2 with h2 | h2
            · exact h2
            · have : listed.getD i false = true := anc1 e hSe i (by simpa using h2)
              rw [hSi] at this
              cases this
          · rw [hl] at h2; cases h2
        rw [hL]
        exact h1 L
      · rw [if_neg hl] at h1
        by_cases hfree : (ks.getD i .q).isB = true ∨ ((ks.getD i .q).isQ = true ∧ still o.op = true)
        · have hne : (ks.getD i .q).eff = false := by revert hfree; generalize ks.getD i .q = k; intro hl; cases k <;> first | rfl | simp [Kd.isB, Kd.isQ] at hl
          rw [if_neg (by rw [hne]; simp)]
          rw [heff hne] at h1
          exact h1.free hfree
        · by_cases hM : ∃ s, ks.getD i .q = .m s
          · obtain ⟨s, hM⟩ := hM
            have hne : (ks.getD i .q).eff = false := by rw [hM]; rfl
            have hB : (ks.getD i .q).isB = false := by rw [hM]; rfl
            rw [if_neg (by rw [hne]; simp)]
            rw [heff hne] at h1
            rw [hM] at h1 ⊢
            refine aop_load (hm s hM) (hp_keep hf hpl (Nat.le_of_lt hil) fun e he hce => ?_) h1
            by_cases hei : e = i
            · subst hei
              rw [hne] at hce; cases hce
            · rcases (hpair e ops[e] (by simp [he]) (fun x => hei x.symm)).2 hce with h2 | h2 | h2 | ⟨h2, _⟩ | ⟨_, h2⟩
              · exact absurd (.inl h2) hfree
              · exact absurd (.inr h2) hfree
              · obtain ⟨r2, h3, t, h4, h5⟩ := Kd.apart_out h2
                rw [hM] at h3
                cases h3
                exact .inr ⟨t, h4, h5⟩
              · exact absurd h2 hl
              · refine .inl ?_
                rw [← hpe e he hce, hoS e (fun x => hei x.symm) h2]
                simp
          have hs := hsame fun e he hce hei => by
            rcases (hpair e ops[e] (by simp [he]) (fun x => hei x.symm)).2 hce with h2 | h2 | h2 | ⟨h2, _⟩ | ⟨_, h2⟩
            · exact absurd (.inl h2) hfree
            · exact absurd (.inr h2) hfree
            · obtain ⟨r2, h3, _⟩ := Kd.apart_out h2
              exact absurd ⟨r2, h3⟩ hM
            · exact absurd h2 hl
            · exact h2
          cases hc : (ks.getD i .q).eff with
          | true => rw [if_pos rfl, hs]; exact h1
          | false =>
            rw [if_neg (by simp), hs]
            rw [heff hc] at h1
            exact h1
    have nowF : r = false → hp (if (ks.getD i .q).eff = true then i + 1 else p) = hp p := by
      intro hr
      split
      · next hc =>
        rw [(hskip hr).2]
        refine (hsame fun e he hce hei => ?_).symm
        rcases (hpair e ops[e] (by simp [he]) (fun x => hei x.symm)).2 hce with h1 | ⟨h1, _⟩ | h1 | ⟨h1, _⟩ | ⟨_, h1⟩
        · exact (Kd.clash1 hc h1).elim
        · exact (Kd.clash2 hc h1).elim
        · exact (Kd.clash6 hc h1).elim
        · exact (Kd.clash3 hc h1).elim
        · exact h1
      · rfl
    -- the next state
    have nextG : ∀ (u : Value) (w' : World) (M' : Mem), Gam E.gl M' w' (hp (if (ks.getD i .q).eff = true then i + 1 else p)) → VR M' (hp (if (ks.getD i .q).eff = true then i + 1 else p)).length w' (v i) u →
        TR M' (hp (if (ks.getD i .q).eff = true then i + 1 else p)).length w' N (Tof ops T v (fun j => listed.getD j false) ops.size) a1 → Ext M w H M' w' (hp (if (ks.getD i .q).eff = true then i + 1 else p)) →
        PendI ops ks w (listed.setIfInBounds i true) (a1.put o.dst u) M' w' (hp (if (ks.getD i .q).eff = true then i + 1 else p)) → wpAny E.P .any ops Q fuel (listed.setIfInBounds i true) (a1.put o.dst u) w' := by
      intro u w' M' k1 k2 k3 k4 k5
      refine ih (listed.setIfInBounds i true) _ w' M' _ (by simp [hls]) hcnt' hpl' k1 ?_ ((put_defers a1 _ _).trans hds) k4 k5 hpe' hshut'
      rw [hTput]
      exact k3.put hdo k2
    have keepP : ∀ (u : Value) (w' : World) (M' : Mem) (H' : Heap), Ext M1 w1 (hp p) M' w' H' → (∀ l, ks.getD i .q ≠ .p l) → PendI ops ks w (listed.setIfInBounds i true) (a1.put o.dst u) M' w' H' := by
      intro u w' M' H' k3 hnp j oj d l hj hd hk hlj hc
      have hji : j ≠ i := fun e => hnp l (e ▸ hk)
      rw [hS', if_neg hji] at hlj
      have h1 := hPI j oj d l hj hd hk hlj (fun i' hi2 hi' => by
        have h2 := hc i' hi2 hi'
        rw [hS'] at h2
        split at h2
        · cases h2
        · exact h2)
      rw [put_other (((pend_p hpend hj hk).2.2 i o ho hji).2 d hd)]
      exact h1.keep k3
    have next : (ks.getD i .q).isP = false → ∀ (u : Value) (w' : World) (M' : Mem), Gam E.gl M' w' (hp (if (ks.getD i .q).eff = true then i + 1 else p)) → VR M' (hp (if (ks.getD i .q).eff = true then i + 1 else p)).length w' (v i) u →
        Ext M1 w1 (hp p) M' w' (hp (if (ks.getD i .q).eff = true then i + 1 else p)) → wpAny E.P .any ops Q fuel (listed.setIfInBounds i true) (a1.put o.dst u) w' := by
      intro hnp u w' M' k1 k2 k3
      exact nextG u w' M' k1 k2 (hT.ext k3 hG) (hE.trans k3) (keepP u w' M' _ k3 fun l e => by rw [e] at hnp; cases hnp)
    unfold wpOp
    simp only [ho]
    have wantedIff : ∀ b, r = b → Region.wanted o (yielded ops a1.tmps) = b := by
      intro b hb
      subst hb
      unfold lets at hlets
      cases hg : o.guard with
      | none =>
        rw [hg] at hlets
        simp only [Option.some.injEq] at hlets
        simp [Region.wanted, hg, ← hlets]
      | some g =>
        obtain ⟨j, want⟩ := g
        rw [hg] at hlets
        simp only at hlets
        split at hlets
        · next b' hy =>
          have hyo := ayield_out hT hy (dst_lt hdst j)
          simp only [Option.some.injEq] at hlets
          simp only [Region.wanted, hg, hyo, ← hlets]
          cases b' <;> cases want <;> rfl
        · next hy =>
          have hyo := ayield_out hT hy (dst_lt hdst j)
          simp only [Option.some.injEq] at hlets
          simp only [Region.wanted, hg, hyo, ← hlets]
          rfl
        · cases hlets
    have wanted1 : o.guard = none → r = true := by
      intro hg
      unfold lets at hlets
      rw [hg] at hlets
      simpa using hlets.symm
    cases hr : r with
    | true =>
      rw [if_pos (wantedIff true hr)]
      refine .inl ?_
      have h1 := now hr
      rw [← RunAt.congr (ev_congr (gl := E.gl) hTn)] at h1
      cases hP : (ks.getD i .q).isP with
      | false => exact run_sound hP hG hT h1 (next hP)
      | true =>
        cases hk : ks.getD i .q with
        | p l =>
          rw [hk] at h1 nextG
          simp only [Kd.eff, Bool.false_eq_true, if_false] at h1 nextG
          obtain ⟨_, hva, hb⟩ := h1
          cases hop : o.op with
          | buildSlice t len ps =>
            rw [hop] at hb
            obtain ⟨u, w', M', g1, g2, g3, g4⟩ := born_pend (w0 := w) hG (ev_out hG hT) hE.size (pend_p hpend ho hk).2.1 hb
            refine run_wp (u := u) (w' := w') (m := Instr.buildSlice t len (ps.map fun (i, x) => (i, a1.eval x))) (by unfold execOp; simp only [hop]) g1 ?_
            refine nextG u w' M' g2 (by rw [hva]; unfold VR; trivial) (hT.ext g3 hG) (hE.trans g3) ?_
            intro j oj d l2 hj hd hk2 hlj hc
            by_cases hji : j = i
            · subst hji
              rw [ho] at hj
              cases hj
              rw [hk] at hk2
              cases hk2
              have hdl : d < a1.tmps.size := by
                rw [hT.1]
                rw [hd] at hdo
                exact of_decide_eq_true hdo
              have : (a1.put o.dst u).tmps.getD d undef = u := by
                rw [hd]
                simp [Act.put, Array.getD_eq_getD_getElem?, hdl]
              rw [this]
              exact g4
            · exact absurd hk2 (((pend_p hpend ho hk).2.2 j oj hj (fun e => hji e.symm)).1 l2)
          | _ => rw [hop] at hb; exact hb.elim
        | c j l =>
          rw [hk] at h1 nextG
          simp only [Kd.eff, Bool.false_eq_true, if_false] at h1 nextG
          obtain ⟨_, hva, hcT⟩ := h1
          obtain ⟨_, hji, hja, hkj, huniq, q, s, t, d, hq, hqd, hop⟩ := pend_c hpend ho hk
          have hlj : listed.getD j false = true := by
            have h3 : (listed.setIfInBounds i true).getD j false = true := anc2 i (by show (listed.setIfInBounds i true).getD i false = true; rw [hS', if_pos rfl]) j hja
            rw [hS', if_neg (by omega)] at h3
            exact h3
          have hPd := hPI j q d l hq hqd hkj hlj (fun i' hi2 hi' => by
            by_cases hii : i' = i
            · rw [hii]; exact hSi
            · exact absurd hi' (huniq i' hi2 hii j l))
          rw [hop] at hcT
          obtain ⟨w', M', g1, g2, g3, g4, g5, g6, g7⟩ := conv_pend hG (pend_p hpend hq hkj).2.1 hPd hcT hE
          refine run_wp (u := a1.tmps.getD d undef) (w' := w') (m := convert s t (a1.eval (.tmp d))) (by unfold execOp; simp only [hop]) g1 ?_
          refine nextG _ w' M' g2 (by rw [hva]; exact g3) (hT.mono g5 g4 (Nat.le_refl _) g6) g7 ?_
          intro j2 oj d2 l2 hj hd hk2 hlj2 hc
          exfalso
          have hjj : j2 = j := by
            refine Classical.byContradiction fun hne => ?_
            exact ((pend_p hpend hq hkj).2.2 j2 oj hj (fun e => hne e.symm)).1 l2 hk2
          subst hjj
          rw [hkj] at hk2
          cases hk2
          have h3 := hc i hil hk
          rw [hS', if_pos rfl] at h3
          cases h3
        | _ => rw [hk] at hP; cases hP
    | false =>
      rw [if_neg (by rw [wantedIff false hr]; simp)]
      have hnp : (ks.getD i .q).isP = false := by
        cases hk : ks.getD i .q with
        | p l => exact absurd (wanted1 (pend_p hpend ho hk).1) (by rw [hr]; simp)
        | c j l => exact absurd (wanted1 (pend_c hpend ho hk).1) (by rw [hr]; simp)
        | _ => rfl
      have k1 := (hskip hr).1
      have k2 := nowF hr
      have h3 := next hnp undef w1 M1
      rw [k2, k1] at h3
      exact h3 hG (by unfold VR; rfl) (Ext.refl _ _ _)

/-- A statement whose order Go leaves open. -/
theorem draw_wp {E : Env} {T : Nat → AV} {H : Heap} {Q : Exit → (Nat → AV) → Heap → Prop} {i : Nat} {ops : Array Oper} {ks : List Kd} (hm : E.P.follows .mixedOrders = true) {N : Nat} (hdst : (ops.toList.all fun o => dstOk N o.dst) = true)
    (hok : drawOk ops ks = true) (h : adraw E ops H ops.toList ks T H fun T' H' => Q .normal T' H') {M : Mem} {w : World} {a : Act} (hG : Gam E.gl M w H) (hT : TR M H.length w N T a) : (Code.region i ops true).wp E.P (Lift E M w H N a.defers Q) a w := by
  obtain ⟨v, hp, _, h2, h3, h4⟩ := adraw_out (T := T) (ks := ks) ops.toList 0 (fun _ => .any) (fun _ => H) (Nat.zero_le _) rfl rfl (by simpa [Tof] using h)
  have hp0 : hp 0 = H := h2 0 (Nat.le_refl _)
  have hf : ∀ j o, ops[j]? = some o → Fact E ops ks T v hp j o := fun j o ho => h4 j o (Nat.zero_le _) ho
  have hz : ∀ j, (Array.replicate ops.size false).getD j false = false := by
    intro j
    rw [Array.getD_eq_getD_getElem?, Array.getElem?_replicate]
    split <;> rfl
  have hcnt : ((List.range ops.size).countP fun j => !((Array.replicate ops.size false).getD j false)) = ops.size := by
    have : ((List.range ops.size).countP fun j => !((Array.replicate ops.size false).getD j false)) = (List.range ops.size).length := List.countP_eq_length.2 fun j _ => by rw [hz]; rfl
    rw [this, List.length_range]
  have hT0 : Tof ops T v (fun j => (Array.replicate ops.size false).getD j false) ops.size = T := by
    have : ∀ m, Tof ops T v (fun j => (Array.replicate ops.size false).getD j false) m = T := by
      intro m
      induction m with
      | zero => rfl
      | succ m ih =>
        unfold Tof
        rw [hz m]
        exact ih
    exact this _
  refine wp_region_any hm (draw_sound (Q := Lift E M w H N a.defers Q) (M := M) (w := w) (H := H) (ds := a.defers) hdst hok hp0 hf h3 (fun T' H' M' a' w' k1 k2 k3 k4 k5 => ⟨T', H', M', k1, k2, k3, k4, k5⟩) ops.size _ a _ M 0 (by simp) hcnt (Nat.zero_le _) ?_ ?_ rfl ?_ (fun j o d l _ _ _ hj => by rw [hz] at hj; cases hj) (fun e _ _ => by rw [hz]; simp) (fun j o _ hj => by rw [hz] at hj; cases hj))
  · rw [hp0]
    exact ⟨fun g => VR.mono (M := M) (M' := M) (n := 0) (w := w) (w' := w.drew) (fun _ h => h) (fun _ _ => rfl) (Nat.le_refl _) (fun _ _ => ⟨rfl, rfl⟩) (hG.glob g), hG.inG, fun r B hr => BR.mono (M := M) (M' := M) (n := H.length) (w := w) (w' := w.drew) (r := r) (fun _ h => h) (fun _ _ => rfl) (Nat.le_refl _) (fun _ _ => ⟨rfl, rfl⟩) rfl rfl (fun _ _ => rfl) (hG.blks r B hr), hG.sep, hG.far⟩
  · rw [hp0, hT0]
    exact TR.mono (M := M) (M' := M) (n := H.length) (w := w) (w' := w.drew) (fun _ h => h) (fun _ _ => rfl) (Nat.le_refl _) (fun _ _ => ⟨rfl, rfl⟩) hT
  · rw [hp0]
    exact ⟨rfl, rfl, rfl, Nat.le_refl _, fun _ h => h, fun _ h => .inl h, fun _ _ _ => rfl, Nat.le_refl _, fun _ _ => rfl, fun _ _ => rfl, fun _ h => .inl h⟩
end
end Go.Am
