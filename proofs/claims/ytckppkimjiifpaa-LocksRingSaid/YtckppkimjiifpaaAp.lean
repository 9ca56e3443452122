/- The abstract machine: the model does what it says; writes, slices, appends. No condition. -/
import Derived.Test.YtckppkimjiifpaaAo
import Derived.Laws.IdiomStrings
set_option linter.unusedSectionVars false
set_option linter.unusedVariables false
set_option linter.unusedSimpArgs false
set_option linter.deprecated false
namespace Go.Am
open Go.RowKit Go.Cx

section
variable {E : Env} {M : Mem} {w : World} {H : Heap}

theorem getElem?_set' {α : Type} (l : List α) (k r : Nat) (x : α) (hk : k < l.length) : (l.set k x)[r]? = if r = k then some x else l[r]? := by
  rw [List.getElem?_set]
  by_cases h : k = r
  · subst h; simp [hk]
  · rw [if_neg h, if_neg (fun e => h e.symm)]

/-- The heap with fewer names. -/
theorem Gam.kill (hG : Gam E.gl M w H) (r : Nat) : Gam E.gl M w (H.set r none) ∧ Ext M w H M w (H.set r none) := by
  have hget : ∀ (k : Nat) (B : Blk), (H.set r none)[k]? = some (some B) → H[k]? = some (some B) := by
    intro k B h
    rw [List.getElem?_set] at h
    split at h
    · split at h <;> cases h
    · exact h
  refine ⟨⟨hG.glob, hG.inG, fun k B h => ?_, fun k B b h => hG.sep k B b (hget k B h), fun k k' B B' b h h' => hG.far k k' B B' b (hget k B h) (hget k' B' h')⟩,
    ⟨rfl, rfl, rfl, Nat.le_refl _, fun _ h => h, fun _ h => .inl h, fun _ _ _ => rfl, by simp, fun _ _ => rfl, fun _ _ => rfl, fun b ⟨k, B, h1, h2, h3⟩ => .inl ⟨k, B, hget k B h1, h2, h3⟩⟩⟩
  rw [List.length_set]
  exact hG.blks k B (hget k B h)

/-- A hot block is written. -/
theorem Gam.write {r b : Nat} {B B' : Blk} {cur cur' : Array Value} {e : TypeId} {fr : Nat × Nat} (hG : Gam E.gl M w H) (hr : H[r]? = some (some B)) (hh : B.isHot = true) (hb : M.blk r = some b) (hg : w.heap[b]? = some (.cells cur e fr))
    (hB : (∀ {a u}, VR M H.length w a u → VR M H.length (w.setRow b cur') a u) → (∀ {a u}, VRs M H.length w a u → VRs M H.length (w.setRow b cur') a u) → (∀ {s a u}, VRss M H.length w s a u → VRss M H.length (w.setRow b cur') s a u) →
      (w.setRow b cur').heap[b]? = some (.cells cur' e fr) → BR M H.length (w.setRow b cur') r B') :
    Gam E.gl M (w.setRow b cur') (H.set r (some B')) ∧ Ext M w H M (w.setRow b cur') (H.set r (some B')) := by
  have hrl : r < H.length := (List.getElem?_eq_some_iff.1 hr).1
  have hnG : ¬ M.G b := hG.sep r B b hr hh hb
  have hoth : ∀ k, k ≠ b → (w.setRow b cur').heap[k]? = w.heap[k]? := fun k hk => setRow_other w b k cur' hk
  have hGw : ∀ k, M.G k → (w.setRow b cur').heap[k]? = w.heap[k]? := fun k hk => hoth k (fun e => hnG (e ▸ hk))
  have hsz : (w.setRow b cur').heap.size = w.heap.size := by simp [World.setRow]
  refine ⟨⟨fun g => VR.mono (M := M) (M' := M) (n := 0) (w := w) (fun _ h => h) hGw (Nat.le_refl _) (fun _ _ => ⟨rfl, rfl⟩) (hG.glob g), fun k hk => by rw [hsz]; exact hG.inG k hk, fun k B1 hk => ?_, fun k B1 c hk h1 h2 => ?_, fun k k' B1 B2 c hk hk' h1 hne h2 => ?_⟩,
    ⟨rfl, rfl, rfl, by omega, fun _ h => h, fun _ h => .inl h, fun k hk hn => ?_, by simp, fun _ _ => rfl, fun _ _ => rfl, fun c hc => ?_⟩⟩
  · rw [List.length_set]
    rw [getElem?_set' _ _ _ _ hrl] at hk
    split at hk
    · next e1 =>
      cases hk
      subst e1
      exact hB (VR.mono (fun _ h => h) hGw (Nat.le_refl _) (fun _ _ => ⟨rfl, rfl⟩)) (VRs.mono (fun _ h => h) hGw (Nat.le_refl _) (fun _ _ => ⟨rfl, rfl⟩)) (VRss.mono (fun _ h => h) hGw (Nat.le_refl _) (fun _ _ => ⟨rfl, rfl⟩))
        (setRow_heap w b cur cur' e fr hg)
    · next e1 =>
      refine BR.mono (M := M) (n := H.length) (w := w) (r := k) (fun _ h => h) hGw (Nat.le_refl _) (fun _ _ => ⟨rfl, rfl⟩) rfl rfl (fun c hc => hoth c (fun e2 => ?_)) (hG.blks k B1 hk)
      subst e2
      exact hG.far r k B B1 _ hr hk hh e1 hb hc
  · rw [getElem?_set' _ _ _ _ hrl] at hk
    split at hk
    · next e1 =>
      subst e1
      exact hG.sep _ B c hr hh h2
    · exact hG.sep k B1 c hk h1 h2
  · rw [getElem?_set' _ _ _ _ hrl] at hk hk'
    split at hk
    · next e1 =>
      subst e1
      rw [if_neg hne] at hk'
      exact hG.far _ k' B B2 c hr hk' hh hne h2
    · split at hk'
      · next e1 e2 =>
        subst e2
        exact hG.far k _ B1 B c hk hr h1 hne h2
      · exact hG.far k k' B1 B2 c hk hk' h1 hne h2
  · refine hoth k (fun e2 => ?_)
    subst e2
    exact hn ⟨r, B, hr, hh, hb⟩
  · obtain ⟨k, B1, h1, h2, h3⟩ := hc
    rw [getElem?_set' _ _ _ _ hrl] at h1
    split at h1
    · next e1 =>
      subst e1
      exact .inl ⟨_, B, hr, hh, h3⟩
    · exact .inl ⟨k, B1, h1, h2, h3⟩

/-- Cells are stored where nothing is frozen. -/
theorem run_storeCells_gen (P : Program) (g o : Nat) (t : TypeId) (fz : Nat × Nat) : ∀ (vs : List Value) (i : Nat) (cur : Array Value) (w : World), w.heap[g]? = some (.cells cur t fz) → (fz = (0, 0) ∨ cur.size ≤ fz.1) → o + i + vs.length ≤ cur.size → (∀ v ∈ vs, v.oneCell' = true) →
    (storeCells ⟨g, o, none⟩ vs i).run P w = .ok () (w.setRow g (cur.toList.take (o + i) ++ vs ++ cur.toList.drop (o + i + vs.length)).toArray)
  | [], i, cur, w, hg, _, _, _ => by
    simp only [storeCells, List.append_nil, List.length_nil, Nat.add_zero, List.take_append_drop, Array.toArray_toList]
    rw [setRow_self w g cur t fz hg]
    rfl
  | v :: rest, i, cur, w, hg, hfz, hl, h1 => by
    have hi : o + i < cur.size := by simp at hl; omega
    have hadd : (⟨g, o, none⟩ : Addr).add i = ⟨g, o + i, none⟩ := addr_add g o i
    have hcell : w.cell? ⟨g, o + i, none⟩ = some cur[o + i] := by simp [World.cell?, hg, hi]
    have hfro : w.frozen? ⟨g, o + i, none⟩ = false := by
      obtain ⟨lo, hi'⟩ := fz
      simp only [World.frozen?, hg, Bool.and_eq_false_iff, decide_eq_false_iff_not]
      rcases hfz with hfz | hfz
      · simp only [Prod.mk.injEq] at hfz
        right
        omega
      · left
        simp only at hfz
        omega
    have hst : (store ((⟨g, o, none⟩ : Addr).add i) v).run P w = .ok () (w.setRow g (cur.setIfInBounds (o + i) v)) := by
      rw [hadd, run_store P w _ v _ (h1 v (by simp)), hcell]
      simp [hfro, setCell_eq_setRow w g (o + i) cur t fz v hg]
    have ih := run_storeCells_gen P g o t fz rest (i + 1) (cur.setIfInBounds (o + i) v) (w.setRow g (cur.setIfInBounds (o + i) v)) (setRow_heap w g cur _ t _ hg) (by simpa using hfz) (by simp at hl ⊢; omega) (fun x hx => h1 x (by simp [hx]))
    simp only [storeCells, Sem.run_bind, hst, Result.andThen_ok, ih, setRow_setRow]
    congr 3
    have e := list_seg_step cur.toList (o + i) v rest (by simp at hl ⊢; omega)
    simpa [Array.toList_setIfInBounds, Nat.add_assoc] using e

theorem seg_eq (A c B R xs : List Value) (off : Nat) (h : off + xs.length ≤ c.length) :
    ((A ++ c ++ B ++ R).take (A.length + off) ++ xs ++ (A ++ c ++ B ++ R).drop (A.length + off + xs.length)).take (A ++ c ++ B).length = A ++ (c.take off ++ xs ++ c.drop (off + xs.length)) ++ B := by
  have h1 : (A ++ c ++ B ++ R).take (A.length + off) = A ++ c.take off := by
    rw [List.append_assoc, List.append_assoc, List.take_length_add_append, List.take_append_of_le_length (by omega)]
  have h2 : (A ++ c ++ B ++ R).drop (A.length + off + xs.length) = c.drop (off + xs.length) ++ (B ++ R) := by
    rw [List.append_assoc, List.append_assoc, Nat.add_assoc, List.drop_length_add_append, List.drop_append_of_le_length h]
  rw [h1, h2]
  have e : A ++ List.take off c ++ xs ++ (List.drop (off + xs.length) c ++ (B ++ R)) = (A ++ (c.take off ++ xs ++ c.drop (off + xs.length)) ++ B) ++ R := by simp
  rw [e]
  apply List.take_left'
  simp
  omega

theorem splice_out {M : Mem} {n : Nat} {w : World} {off : Nat} {new old : List AV} {us vs : List Value} (hn : VRs M n w new us) (ho : VRs M n w old vs) : VRs M n w (splice off new old) (vs.take off ++ us ++ vs.drop (off + us.length)) := by
  unfold splice
  rw [← VRs.len hn]
  exact ((VRs.take off ho).append hn).append (VRs.drop _ ho)

/-- m, which tells nothing, ends well. -/
def Does (E : Env) (M : Mem) (w : World) (H : Heap) (m : Sem Unit) (K : Heap → Prop) : Prop :=
  ∃ w' M' H', m.run E.P w = .ok () w' ∧ K H' ∧ Gam E.gl M' w' H' ∧ Ext M w H M' w' H'

theorem store_sound {t : TypeId} {a v : AV} {u x : Value} {K : Heap → Prop} (hG : Gam E.gl M w H) (ha : VR M H.length w a u) (hv : VR M H.length w v x) (h : astore E.P t a v H K) : Does E M w H (Instr.storeAt t u x) K := by
  obtain ⟨s, g, z, ht, cs, hc, hlen, h⟩ := h
  have hcs := cells1_out hc hv
  have hone := VRs.one hcs
  have hxl : x.cells.toList.length = s := by rw [VRs.len hcs, hlen]
  obtain ⟨hsz, _, _⟩ := tyI_out ht
  have hrun : ∀ b o, (Instr.storeAt t (.pointer (some ⟨b, o, none⟩)) x).run E.P w = (storeCells ⟨b, o, none⟩ x.cells.toList).run E.P w := by
    intro b o
    have : x.cells.size = s := by rw [← hxl]; simp
    simp [Instr.storeAt, Instr.sureAddr, storeVar, hsz w, this]
  cases a with
  | ptr r off =>
    obtain ⟨old, hr, hfit, hK⟩ := h
    unfold VR at ha
    obtain ⟨_, b, hb, rfl⟩ := ha
    obtain ⟨b', cur, t0, fr, k1, k2, k3, k4, k5⟩ := hG.blks r _ hr
    rw [hb] at k1
    cases k1
    have hol := VRs.len k5
    have hsz2 : cur.size = old.length := by simpa using hol
    have hst := run_storeCells_gen E.P b off t0 fr x.cells.toList 0 cur w k2 k3 (by rw [hxl]; omega) hone
    simp only [Nat.add_zero] at hst
    obtain ⟨h1, h2⟩ := hG.write (B' := .obj (splice off cs old)) (cur' := (cur.toList.take off ++ x.cells.toList ++ cur.toList.drop (off + x.cells.toList.length)).toArray) hr rfl hb k2 (fun _ c2 _ c4 => by
      have hs := splice_out (off := off) hcs k5
      exact ⟨b, _, t0, fr, hb, c4, by
        have e : (cur.toList.take off ++ x.cells.toList ++ cur.toList.drop (off + x.cells.toList.length)).toArray.size = cur.size := by simp at hxl ⊢; omega
        rw [e]; exact k3, by simp at hxl ⊢; omega, c2 hs⟩)
    exact ⟨_, M, _, (hrun b off).trans hst, hK, h1, h2⟩
  | rp r sz i off =>
    obtain ⟨es, old, hr, hi, hfit, hK⟩ := h
    unfold VR at ha
    obtain ⟨_, b, hb, rfl⟩ := ha
    rcases hG.blks r _ hr with ⟨h2, _⟩ | ⟨b', cur, e, fr, us, k1, k2, k3, k4, k5, k6, k7⟩
    · rw [hb] at h2; cases h2
    rw [hb] at k1
    cases k1
    obtain ⟨c, c1, c2, c3⟩ := VRss.get k5 hi
    have hil : i < es.length := (List.getElem?_eq_some_iff.1 hi).1
    have hol := VRs.len c2
    have husl := VRss.len k5
    have hul : us.length ≤ cur.size := by
      have := congrArg List.length k6
      simp at this
      omega
    have hmul : i * sz + sz ≤ us.length := by
      rw [husl, ← Nat.succ_mul]
      exact Nat.mul_le_mul_right _ hil
    have hst := run_storeCells_gen E.P b (i * sz + off) e fr x.cells.toList 0 cur w k2 k3 (by rw [hxl]; omega) hone
    simp only [Nat.add_zero] at hst
    have hset := VRss.set (a := splice off cs old) (c := c.take off ++ x.cells.toList ++ c.drop (off + x.cells.toList.length)) k5 hil (splice_out hcs c2) (by simp at hxl ⊢; omega)
    obtain ⟨h1, h2⟩ := hG.write (B' := .row true sz (es.set i (splice off cs old))) (cur' := (cur.toList.take (i * sz + off) ++ x.cells.toList ++ cur.toList.drop (i * sz + off + x.cells.toList.length)).toArray) hr rfl hb k2 (fun _ _ c3' c4 => by
      refine .inr ⟨b, _, e, fr, _, hb, c4, ?_, ?_, c3' hset, ?_, fun hh => by cases hh⟩
      · have e : (cur.toList.take (i * sz + off) ++ x.cells.toList ++ cur.toList.drop (i * sz + off + x.cells.toList.length)).toArray.size = cur.size := by simp at hxl ⊢; omega
        rw [e]; exact k3
      · simp at hxl ⊢; omega
      · have hA : (us.take (i * sz)).length = i * sz := by simp; omega
        have hcu : c = (us.drop (i * sz)).take sz := by
          apply List.ext_getElem?
          intro j
          rw [List.getElem?_take]
          by_cases hj : j < sz
          · rw [if_pos hj, List.getElem?_drop, c3 j hj]
          · rw [if_neg hj, List.getElem?_eq_none (by omega)]
        have hus : us = us.take (i * sz) ++ c ++ us.drop (i * sz + sz) := by
          rw [hcu, ← List.drop_drop, List.append_assoc, List.take_append_drop, List.take_append_drop]
        have hcur : cur.toList = us.take (i * sz) ++ c ++ us.drop (i * sz + sz) ++ cur.toList.drop us.length := by
          rw [← hus]
          conv => lhs; rw [← List.take_append_drop us.length cur.toList, k6]
        have hseg := seg_eq (us.take (i * sz)) c (us.drop (i * sz + sz)) (cur.toList.drop us.length) x.cells.toList off (by simp at hxl ⊢; omega)
        rw [← hcur, hA] at hseg
        simp only [List.toList_toArray]
        rw [← hseg]
        congr 1
        rw [← hus]
        simp at hxl ⊢
        omega)
    exact ⟨_, M, _, (hrun b _).trans hst, hK, h1, h2⟩
  | _ => exact h.elim

/-! ### reading -/
theorem chunks_out {M : Mem} {n : Nat} {w : World} {sz : Nat} : ∀ {k : Nat} {cs : List AV} {us : List Value}, VRs M n w cs us → k * sz ≤ cs.length → VRss M n w sz (chunks sz k cs) (us.take (k * sz))
  | 0, cs, us, h, _ => by simp [chunks, VRss]
  | k + 1, cs, us, h, hk => by
    have hl := VRs.len h
    have e : (k + 1) * sz = sz + k * sz := by rw [Nat.add_mul, Nat.one_mul, Nat.add_comm]
    rw [e] at hk ⊢
    unfold chunks VRss
    refine ⟨us.take sz, (us.drop sz).take (k * sz), ?_, by simp; omega, VRs.take sz h, chunks_out (VRs.drop sz h) (by simp; omega)⟩
    rw [List.take_add]

theorem chunks_len {sz : Nat} : ∀ {k : Nat} {cs : List AV}, (chunks sz k cs).length = k
  | 0, _ => rfl
  | k + 1, cs => by unfold chunks; simp [chunks_len]

theorem elems_out {sz : Nat} {a : AV} {es : List (List AV)} {u : Value} (hG : Gam E.gl M w H) (ha : VR M H.length w a u) (h : elems H sz a = some es) :
    ∃ ao cap us, u = .slice ao es.length cap ∧ VRss M H.length w sz es us ∧ RowAt (fun _ => True) w ao es.length cap sz us := by
  unfold elems at h
  split at h
  · next sz' es' =>
    split at h
    case isFalse => cases h
    case isTrue e =>
    subst e
    cases h
    unfold VR at ha
    obtain ⟨ao, cap, us, h1, h2, h3⟩ := ha
    exact ⟨ao, cap, us, h1, h2, h3.mono (fun _ _ => trivial) (fun _ _ => rfl)⟩
  · next r sz' off n =>
    split at h
    case h_2 => cases h
    case h_1 hot sz2 es0 hr =>
    split at h
    case isFalse => cases h
    case isTrue hc =>
    obtain ⟨rfl, rfl, hle⟩ := hc
    cases h
    unfold VR at ha
    obtain ⟨_, ao, cap, rfl, k1, k2, k3, k4⟩ := ha
    have hel : ((es0.drop off).take n).length = n := by simp; omega
    rw [hel]
    rcases hG.blks r _ hr with ⟨h1, h2⟩ | ⟨b, cur, e, fr, us, j1, j2, j3, j4, j5, j6, j7⟩
    · subst h2
      have hn : n = 0 := by have h3 : off + n ≤ 0 := hle; omega
      subst hn
      refine ⟨ao, cap, [], rfl, by simp [VRss], ⟨by simp, k1, k2, by simp, .inl ⟨rfl, k3⟩⟩⟩
    · have hd := VRss.take n (VRss.drop off j5)
      refine ⟨ao, cap, _, rfl, hd, ⟨?_, k1, k2, VRss.one hd, ?_⟩⟩
      · rw [VRss.len hd, hel]
      · rcases k4 with ⟨k4, _⟩ | ⟨k4, _⟩ | ⟨b', k5, k6, k7⟩
        · exact .inl ⟨k4, k3⟩
        · exact .inl ⟨k4, k3⟩
        · rw [k5] at j1
          cases j1
          refine .inr ⟨b, off * sz2, k6, trivial, fun j v hj => ?_⟩
          rw [cell_of_row w b _ cur e fr j2]
          rw [List.getElem?_take] at hj
          split at hj
          · rw [List.getElem?_drop, ← j6, List.getElem?_take] at hj
            split at hj
            · simpa using hj
            · cases hj
          · cases hj
  · next r sz' off n =>
    split at h
    case h_2 => cases h
    case h_1 cs hr =>
    split at h
    case isFalse => cases h
    case isTrue hc =>
    obtain ⟨rfl, hle⟩ := hc
    cases h
    unfold VR at ha
    obtain ⟨_, ao, cap, rfl, k1, k2, k3, k4⟩ := ha
    rw [chunks_len]
    obtain ⟨b, cur, t, fr, j1, j2, j3, j4, j5⟩ := hG.blks r _ hr
    have hd := VRs.drop off j5
    have hch := chunks_out (sz := sz') (k := n) hd (by simp; omega)
    refine ⟨ao, cap, _, rfl, hch, ⟨?_, k1, k2, VRss.one hch, ?_⟩⟩
    · rw [VRss.len hch, chunks_len]
    · rcases k4 with k4 | ⟨b', k5, k6⟩
      · exact .inl ⟨k4, k3⟩
      · rw [k5] at j1
        cases j1
        refine .inr ⟨b, off, k6, trivial, fun j v hj => ?_⟩
        rw [cell_of_row w b _ cur t fr j2]
        rw [List.getElem?_take] at hj
        split at hj
        · simpa using hj
        · cases hj
  · cases h
    unfold VR at ha
    obtain ⟨ao, rfl⟩ := ha
    exact ⟨ao, 0, [], rfl, by simp [VRss], ⟨by simp, Nat.le_refl _, Nat.zero_le _, by simp, .inl ⟨rfl, fun _ => rfl⟩⟩⟩
  · cases h
    unfold VR at ha
    subst ha
    exact ⟨none, 0, [], rfl, by simp [VRss], ⟨by simp, Nat.le_refl _, Nat.zero_le _, by simp, .inl ⟨rfl, fun _ => rfl⟩⟩⟩
  · cases h

theorem VRss_bytes {M : Mem} {n : Nat} {w : World} : ∀ {l : List UInt8} {us : List Value}, VRss M n w 1 (l.map bcl) us → us = l.map bv
  | [], us, h => by unfold VRss at h; simpa using h
  | x :: l, us, h => by
    simp only [List.map_cons] at h
    unfold VRss at h
    obtain ⟨c, r, rfl, _, h2, h3⟩ := h
    unfold bcl VRs at h2
    obtain ⟨u, r', rfl, _, h4, h5⟩ := h2
    unfold VRs at h5
    subst h5
    unfold VR at h4
    subst h4
    rw [VRss_bytes h3]
    rfl

theorem bytes_VRss {M : Mem} {n : Nat} {w : World} : ∀ {l : List UInt8}, VRss M n w 1 (l.map bcl) (l.map bv)
  | [] => by simp [VRss]
  | x :: l => by
    simp only [List.map_cons]
    unfold VRss
    refine ⟨[bv x], l.map bv, rfl, rfl, ?_, bytes_VRss⟩
    unfold bcl VRs
    exact ⟨bv x, [], rfl, rfl, by simp [VR, bv], by simp [VRs]⟩

theorem source_out {sz : Nat} {t : TypeId} {a : AV} {es : List (List AV)} {u : Value} (hG : Gam E.gl M w H) (ha : VR M H.length w a u) (h : source E.P H sz t a = some es) :
    ∃ us, Src E.P sz t u es.length us w ∧ VRss M H.length w sz es us := by
  have slice : ∀ {a : AV} {u : Value}, VR M H.length w a u → (match E.P.underlying t with | some (.slice _) => elems H sz a | _ => none) = some es → ∃ us, Src E.P sz t u es.length us w ∧ VRss M H.length w sz es us := by
    intro a u ha h
    split at h
    case h_2 => cases h
    case h_1 e hu =>
    obtain ⟨ao, cap, us, rfl, h1, h2⟩ := elems_out hG ha h
    exact ⟨us, h2.src hu, h1⟩
  unfold source at h
  split at h
  · next s =>
    split at h
    case h_2 => cases h
    case h_1 hu =>
    split at h
    case isFalse => cases h
    case isTrue e =>
    subst e
    cases h
    unfold VR at ha
    subst ha
    obtain ⟨l, rfl⟩ : ∃ l, s = str l := ⟨s.data.toList, by cases s; simp [str]⟩
    have hb : byteCells (str l) = (str l).toList.map bv := by
      rw [str_toList]
      simp [byteCells, str, bv]
    refine ⟨byteCells (str l), ?_, ?_⟩
    · have := Src.ofString (P := E.P) w hu (str l)
      have hl : ((str l).toList.map bcl).length = (str l).size := by rw [List.length_map, str_toList]; simp [str, ByteArray.size]
      rw [hl]
      exact this
    · rw [hb]
      exact bytes_VRss
  · exact slice ha h
end
end Go.Am
