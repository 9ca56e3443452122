/- The abstract machine: the model does what it says; struct, array and slice literals, make, copy. No condition. -/
import Derived.Test.YtckppkimjiifpaaAr
import Derived.Laws.MakeOwn
import Derived.Great.BuildSlice
set_option linter.unusedSectionVars false
set_option linter.unusedVariables false
set_option linter.unusedSimpArgs false
set_option linter.deprecated false
namespace Go.Am
open Go.RowKit Go.Cx

theorem fold_set (off : Nat) : ∀ (l : List Value) (k : Nat) (cells : Array Value), off + k + l.length ≤ cells.size →
    ((l.zipIdx k).foldl (fun cs x => cs.setIfInBounds (off + x.2) x.1) cells).toList = cells.toList.take (off + k) ++ l ++ cells.toList.drop (off + k + l.length)
  | [], k, cells, _ => by simp
  | v :: l, k, cells, h => by
    simp only [List.zipIdx_cons, List.foldl_cons, List.length_cons] at h ⊢
    rw [fold_set off l (k + 1) _ (by simp; omega)]
    have e := list_seg_step cells.toList (off + k) v l (by simp; omega)
    simpa [Array.toList_setIfInBounds, Nat.add_assoc] using e

theorem fold_set_array (off : Nat) (l cells : Array Value) (h : off + l.size ≤ cells.size) :
    (l.zipIdx.foldl (fun cs (c, j) => cs.setIfInBounds (off + j) c) cells).toList = cells.toList.take off ++ l.toList ++ cells.toList.drop (off + l.toList.length) := by
  have := fold_set off l.toList 0 cells (by simpa using h)
  simp only [Nat.add_zero] at this
  rw [← this, ← Array.foldl_toList, Array.toList_zipIdx]

section
variable {E : Env} {M : Mem} {w : World} {H : Heap}

theorem afill_out {M : Mem} {n : Nat} {w : World} {ρ : Operand → AV} {ε : Operand → Value} (hev : ∀ x, VR M n w (ρ x) (ε x)) (pl : Nat → Option (Nat × Nat)) :
    ∀ (ps : List (Nat × Operand)) (cells : List AV) (us : Array Value) (cs : List AV), VRs M n w cells us.toList → afill pl cells (ps.map fun p => (p.1, ρ p.2)) = some cs →
      ∃ us', Instr.fill pl us (ps.map fun p => (p.1, ε p.2)) = some us' ∧ VRs M n w cs us'.toList
  | [], cells, us, cs, h, k => by
    simp only [List.map_nil, afill] at k
    cases k
    exact ⟨us, rfl, h⟩
  | (i, x) :: ps, cells, us, cs, h, k => by
    simp only [List.map_cons, afill] at k
    split at k
    case h_2 => cases k
    case h_1 off size c hp hc =>
    split at k
    case isFalse => cases k
    case isTrue hok =>
    obtain ⟨h1, h2⟩ := hok
    have hcs := cells1_out hc (hev x)
    have hl := VRs.len hcs
    have hul := VRs.len h
    simp only [Array.length_toList] at hl hul
    have hfold := fold_set_array off (ε x).cells us (by omega)
    obtain ⟨us', k1, k2⟩ := afill_out hev pl ps (splice off c cells) ((ε x).cells.zipIdx.foldl (fun cs (c, j) => cs.setIfInBounds (off + j) c) us) cs (by rw [hfold]; exact splice_out hcs h) k
    refine ⟨us', ?_, k2⟩
    simp only [List.map_cons, Instr.fill, hp]
    rw [if_neg (by simp; omega)]
    exact k1

theorem places_of {P : Program} : ∀ (fs : List Field) (l : List (Nat × Nat × Bool)), fieldsI P fs = some l →
    fs.mapM (fun f => (P.info? f.type).map fun i => (f.offset, i.size)) = some (l.map fun x => (x.1, x.2.1))
  | [], l, h => by unfold fieldsI at h; cases h; simp
  | f :: fs, l, h => by
    unfold fieldsI at h
    split at h
    case h_2 => cases h
    case h_1 x r hx hr =>
    cases h
    unfold fieldI at hx
    split at hx
    case h_2 => cases hx
    case h_1 i d hi hd =>
    cases hx
    have ih := places_of fs r hr
    simp only [List.mapM_cons, hi, Option.map_some, Option.bind_eq_bind, Option.bind_some, ih, Option.pure_def, List.map_cons]

theorem build_sound {t : TypeId} {ps : Array (Nat × Operand)} {ρ : Operand → AV} {ε : Operand → Value} {K : AV → Heap → Prop} (hG : Gam E.gl M w H) (hev : ∀ x, VR M H.length w (ρ x) (ε x))
    (h : abuild E.P t (ps.toList.map fun p => (p.1, ρ p.2)) fun v => K v H) : Yields E M w H (Instr.build t (ps.map fun (i, x) => (i, ε x))) K := by
  obtain ⟨s, g, z, ht, h⟩ := h
  obtain ⟨_, _, i, d, zv, hi, hd, hz, his, hzs, hone, rfl, _⟩ := tyI_out ht
  have hzr : (zeroValue t).run E.P w = .ok zv w := by simp [zeroValue, typeInfo, hi, hz]
  have hz0 : VRs M H.length w (zv.cells.toList.map .v) zv.cells.toList := VRs_consts (all_one hone)
  have hps : (ps.map fun (i, x) => (i, ε x)).toList = ps.toList.map fun p => (p.1, ε p.2) := by simp
  rcases h with ⟨fs, hf, cs, hfill, hK⟩ | ⟨n, sz, g', ha, cs, hfill, hK⟩
  · have hf0 := hf
    unfold stI at hf
    split at hf
    case h_2 => cases hf
    case h_1 fl hu =>
    obtain ⟨us', k1, k2⟩ := afill_out hev (fun i => (fs[i]?).map fun x => (x.1, x.2.1)) ps.toList _ zv.cells cs hz0 hfill
    refine .pure hG (u := .agg us') ?_ ?_ hK
    · have hm := run_places (P := E.P) w _ _ (places_of fl.toList fs hf)
      have k3 : Instr.fill (fun i : Nat => (fs[i]?).map fun (x : Nat × Nat × Bool) => (x.1, x.2.1)) zv.cells (ps.map fun (i, x) => (i, ε x)).toList = some us' := by rw [hps]; exact k1
      simp only [Array.toList_map] at k3
      simp [Instr.build, run_underlying hu, hzr, Array.mapM_eq_mapM_toList, hm, k3]
    · unfold VR
      exact ⟨us'.toList, by simp, k2⟩
  · obtain ⟨e, hu, hs, _⟩ := arI_out ha
    obtain ⟨us', k1, k2⟩ := afill_out hev (fun i => some (i * sz, sz)) ps.toList _ zv.cells cs hz0 hfill
    refine .pure hG (u := .agg us') ?_ ?_ hK
    · unfold Instr.build
      simp only [Sem.run_bind, hzr, Result.andThen_ok, run_underlying hu, hs w]
      rw [hps, k1]
      rfl
    · unfold VR
      exact ⟨us'.toList, by simp, k2⟩

theorem zeros_out {M : Mem} {n : Nat} {w : World} {zs : Array Value} (hone : ∀ x ∈ zs.toList, x.oneCell' = true) : ∀ k, VRss M n w zs.size (List.replicate k (zs.toList.map .v)) ((List.range (k * zs.size)).map fun i => zs[i % zs.size]!)
  | 0 => by simp [VRss]
  | k + 1 => by
    rw [List.replicate_succ]
    unfold VRss
    refine ⟨zs.toList, _, ?_, by simp, VRs_consts hone, zeros_out hone k⟩
    rw [show (k + 1) * zs.size = zs.size + k * zs.size by rw [Nat.add_mul, Nat.one_mul, Nat.add_comm], List.range_add, List.map_append, List.map_map]
    congr 1
    · apply List.ext_getElem
      · simp
      · intro i h1 h2
        simp only [List.getElem_map, List.getElem_range]
        simp at h1 h2
        rw [Nat.mod_eq_of_lt h2]
        simp [h2]
    · apply List.map_congr_left
      intro i _
      simp

theorem bfill_out {M : Mem} {n : Nat} {w : World} {ρ : Operand → AV} {ε : Operand → Value} {sz : Nat} (hev : ∀ x, VR M n w (ρ x) (ε x)) :
    ∀ (ps : List (Nat × Operand)) (es : List (List AV)) (us : Array Value) (es' : List (List AV)), VRss M n w sz es us.toList → bfill sz es (ps.map fun p => (p.1, ρ p.2)) = some es' →
      es'.length = es.length ∧ ∃ us', Instr.fill (fun i => some (i * sz, sz)) us (ps.map fun p => (p.1, ε p.2)) = some us' ∧ VRss M n w sz es' us'.toList
  | [], es, us, es', h, k => by
    simp only [List.map_nil, bfill] at k
    cases k
    exact ⟨rfl, us, rfl, h⟩
  | (i, x) :: ps, es, us, es', h, k => by
    simp only [List.map_cons, bfill] at k
    split at k
    case h_2 => cases k
    case h_1 c hc =>
    split at k
    case isFalse => cases k
    case isTrue hok =>
    obtain ⟨h1, h2⟩ := hok
    have hcs := cells1_out hc (hev x)
    have hl := VRs.len hcs
    have hul := VRss.len h
    simp only [Array.length_toList] at hl hul
    have hmul : i * sz + sz ≤ us.size := by
      rw [hul, ← Nat.succ_mul]
      exact Nat.mul_le_mul_right _ h2
    have hfold := fold_set_array (i * sz) (ε x).cells us (by omega)
    obtain ⟨k0, us', k1, k2⟩ := bfill_out hev ps (es.set i c) ((ε x).cells.zipIdx.foldl (fun cs (c, j) => cs.setIfInBounds (i * sz + j) c) us) es' (by
      rw [hfold]
      have := VRss.set (a := c) (c := (ε x).cells.toList) h h2 hcs (by simp; omega)
      simpa [hl, h1] using this) k
    refine ⟨by rw [k0]; simp, us', ?_, k2⟩
    simp only [List.map_cons, Instr.fill]
    rw [if_neg (by simp; omega)]
    exact k1

theorem buildSlice_sound {t : TypeId} {len : Nat} {ps : Array (Nat × Operand)} {ρ : Operand → AV} {ε : Operand → Value} {K : AV → Heap → Prop} (hG : Gam E.gl M w H) (hev : ∀ x, VR M H.length w (ρ x) (ε x))
    (h : abuildSlice E.P t len (ps.toList.map fun p => (p.1, ρ p.2)) H K) : Yields E M w H (Instr.buildSlice t len (ps.map fun (i, x) => (i, ε x))) K := by
  obtain ⟨e, sz, hs, g, z, ht, hpos, hbig, es, hfill, hK⟩ := h
  obtain ⟨hu, hsz, i, zv, hi, hz, his, hzs, hby⟩ := slI_out hs
  obtain ⟨_, _, i2, d, zv2, hi2, hd, hz2, his2, hzs2, hone, rfl, _⟩ := tyI_out ht
  rw [hi] at hi2
  cases hi2
  rw [hz] at hz2
  cases hz2
  have hps : (ps.map fun (i, x) => (i, ε x)).toList = ps.toList.map fun p => (p.1, ε p.2) := by simp
  have hz0 := zeros_out (M := M) (n := H.length) (w := w) (zs := zv.cells) (all_one hone) len
  rw [hzs] at hz0
  have hzr : (zeroValue e).run E.P w = .ok zv w := by simp [zeroValue, typeInfo, hi, hz]
  obtain ⟨k0, us', k1, k2⟩ := bfill_out hev ps.toList _ ((Array.range (len * sz)).map fun i => zv.cells[i % zv.cells.size]!) es (by rw [hzs]; simpa using hz0) hfill
  have hle : es.length = len := by simpa using k0
  have hul := VRss.len k2
  refine hs_new (w1 := w) (e := e) (fr := (0, 0)) (k := len) (cap := len) hG rfl rfl rfl rfl (.inl rfl) k2 (List.take_length) (Nat.le_refl _) ?_ (by rw [← hle]; simpa using Nat.le_of_eq hul.symm) ?_ hK
  · unfold maxLen
    have : len ≤ len * sz := Nat.le_mul_of_pos_right _ hpos
    omega
  · have hn : ¬ (len * sz > 2 ^ 24) := by omega
    unfold Instr.buildSlice
    simp only [Sem.run_bind, run_underlying hu, Result.andThen_ok, hsz w, if_neg hn]
    by_cases h0 : len * sz = 0
    · have hl0 : len = 0 := by
        rcases Nat.mul_eq_zero.1 h0 with h | h
        · exact h
        · omega
      subst hl0
      simp only [Nat.zero_mul, Array.range_zero', List.map_toArray, List.map_nil, if_true] at k1 ⊢
      simp only [Sem.run_bind, Sem.run_pure, Result.andThen_ok]
      rw [hps, k1]
      simp [newRow, newObj, Sem.run]
    · simp only [h0, if_false, Sem.run_bind, hzr, Result.andThen_ok, Sem.run_pure]
      rw [hps, k1]
      simp [newRow, newObj, Sem.run]

theorem makeSlice_sound {t : TypeId} {l c : AV} {u x : Value} {K : AV → Heap → Prop} (hG : Gam E.gl M w H) (hl : VR M H.length w l u) (hc : VR M H.length w c x) (h : amakeSlice E.P t l c H K) : Yields E M w H (Instr.makeSlice t u x) K := by
  obtain ⟨e, sz, hs, g, z, ht, k, k', ln, cp, rfl, rfl, hb, hK⟩ := h
  obtain ⟨hu, hsz, i, zv, hi, hz, his, hzs, hby⟩ := slI_out hs
  obtain ⟨_, _, i2, d, zv2, hi2, hd, hz2, his2, hzs2, hone, rfl, _⟩ := tyI_out ht
  rw [hi] at hi2
  cases hi2
  rw [hz] at hz2
  cases hz2
  unfold VR at hl hc
  subst hl
  subst hc
  have hb1 : (i.bytes : Int) * cp ≤ 281474976710656 := by
    have : (i.bytes : Int) * cp ≤ 1024 * 68719476736 := Int.mul_le_mul (by omega) (by omega) (by omega) (by omega)
    omega
  have hr := run_make (P := E.P) w t e i zv hu hi hz k k' ln cp hb.1 hb.2.1 hb1 (by omega)
  have hz0 := zeros_out (M := M) (n := H.length) (w := w) (zs := zv.cells) (all_one hone) cp.toNat
  have hle : ln.toNat * sz ≤ cp.toNat * sz := Nat.mul_le_mul_right _ (by omega)
  have ht0 := VRss.take ln.toNat hz0
  rw [List.take_replicate, Nat.min_eq_left (by omega), hzs] at ht0
  have hsize : (madeCells zv.cells (cp.toNat * i.size)).toList = (List.range (cp.toNat * sz)).map fun j => zv.cells[j % zv.cells.size]! := by
    simp [madeCells, his]
  refine hs_new (w1 := w) (e := e) (fr := (0, 0)) (k := ln.toNat) (cap := cp.toNat) hG rfl rfl rfl rfl (.inl rfl) ht0 ?_ (by omega) (by unfold maxLen; omega) ?_ hr hK
  · rw [hsize, hzs, List.length_take, List.length_map, List.length_range, Nat.min_eq_left hle]
  · have := congrArg List.length hsize
    simp at this
    omega


theorem VRss.flat {M : Mem} {n : Nat} {w : World} {sz : Nat} : ∀ {es : List (List AV)} {us : List Value}, VRss M n w sz es us → VRs M n w es.flatten us
  | [], us, h => by unfold VRss at h; subst h; simp [VRs]
  | e :: es, us, h => by
    unfold VRss at h
    obtain ⟨c, r, rfl, h2, h3, h4⟩ := h
    rw [List.flatten_cons]
    exact h3.append (VRss.flat h4)

theorem copy_sound {ts : List TypeId} {ty : TypeId} {as : List AV} {us : List Value} {K : AV → Heap → Prop} (hG : Gam E.gl M w H) (ha : VRt M H.length w as us) (h : acopy E.P ts as H K) : Yields E M w H (Builtin.copy_ ts.toArray ty us.toArray) K := by
  unfold acopy at h
  split at h
  case h_2 => exact h.elim
  case h_1 t tx d x =>
  obtain ⟨e, sz, hs, ⟨e', htx⟩, new, hsrc, h⟩ := h
  obtain ⟨hu, hsz, i, zv, hi, hz, his, hzs, hby⟩ := slI_out hs
  unfold VRt at ha
  obtain ⟨u1, r1, rfl, h1, h2⟩ := ha
  unfold VRt at h2
  obtain ⟨u2, r2, rfl, h3, h4⟩ := h2
  unfold VRt at h4
  subst h4
  obtain ⟨sao, scap, sus, rfl, hnv, hrow⟩ := elems_out hG h3 hsrc
  -- the run
  have run : ∀ (ao : Option Addr) (n cap : Nat), (∀ news, news = sus.take (min new.length n * sz) → ∃ w', (match ao with | some a => storeCells a news 0 | none => pure ()).run E.P w = .ok () w' ∧
      ((Builtin.copy_ [t, tx].toArray ty [Value.slice ao n cap, .slice sao new.length scap].toArray).run E.P w = .ok (goInt (min new.length n : Nat)) w' → Yields E M w H (Builtin.copy_ [t, tx].toArray ty [Value.slice ao n cap, .slice sao new.length scap].toArray) K)) →
      Yields E M w H (Builtin.copy_ [t, tx].toArray ty [Value.slice ao n cap, .slice sao new.length scap].toArray) K := by
    intro ao n cap hh
    obtain ⟨w', h5, h6⟩ := hh _ rfl
    refine h6 ?_
    have hf := (hrow.front (m := min new.length n) (Nat.min_le_left _ _)).src (P := E.P) htx
    have hc := hf.cells
    have hmin : Nat.min new.length n = min new.length n := rfl
    have hfc : (Builtin.firstCells i.size (min new.length n) (.slice sao new.length scap)).run E.P w = .ok (sus.take (min new.length n * sz)).toArray w := by
      rw [his]
      cases sao with
      | none => exact hc
      | some a => exact hc
    cases ao with
    | none => simp [Builtin.copy_, run_underlying hu, Builtin.lenOf, sizeOf, typeInfo, hi, hmin, hfc] at h5 ⊢; exact h5
    | some a =>
      simp only at h5
      simp [Builtin.copy_, run_underlying hu, Builtin.lenOf, sizeOf, typeInfo, hi, hmin, hfc, h5]
  have hgo : ∀ m : Nat, VR M H.length w (.v (.int .i64 (m : Nat))) (goInt m) := fun m => by unfold VR; rfl
  have hsul := VRss.len hnv
  cases d with
  | hs r sz' off n =>
    obtain ⟨es, hr, rfl, hle, hK⟩ := h
    unfold VR at h1
    obtain ⟨k0, ao, cap, rfl, k1, k2, k3, k4⟩ := h1
    refine run ao n cap fun news hnews => ?_
    by_cases hm : min new.length n = 0
    · rw [hm] at hnews hK ⊢
      simp at hnews
      subst hnews
      refine ⟨w, by cases ao <;> simp [storeCells], fun hrun => ?_⟩
      have hset : H.set r (some (.row true sz' (es.take off ++ new.take 0 ++ es.drop (off + 0)))) = H := by
        simp only [List.take_zero, List.append_nil, Nat.add_zero, List.take_append_drop]
        obtain ⟨hrl, hre⟩ := List.getElem?_eq_some_iff.1 hr
        rw [← hre]
        exact List.set_getElem_self hrl
      rw [hset] at hK
      exact ⟨_, w, _, M, H, hrun, hK, hG, hgo 0, Ext.refl _ _ _⟩
    · have hn : n ≠ 0 := by omega
      rcases k4 with ⟨k4, _⟩ | ⟨k4, _⟩ | ⟨b, k5, rfl, k7⟩
      · exact absurd k4 hn
      · exact absurd k4 hn
      rcases hG.blks r _ hr with ⟨q1, _⟩ | ⟨b', cur, et, fr, us, j1, j2, j3, j4, j5, j6, j7⟩
      · rw [k5] at q1; cases q1
      rw [k5] at j1
      cases j1
      generalize hmm : min new.length n = m at *
      have hml : m ≤ new.length := by omega
      have hmn : m ≤ n := by omega
      have husl := VRss.len j5
      have hul : us.length ≤ cur.size := by
        have := congrArg List.length j6
        simp at this
        omega
      have hnl : news.length = m * sz' := by
        rw [hnews, List.length_take, hsul, Nat.min_eq_left (Nat.mul_le_mul_right _ hml)]
      have hfit : off * sz' + news.length ≤ us.length := by
        rw [hnl, ← Nat.add_mul, husl]
        exact Nat.mul_le_mul_right _ (by omega)
      have hnv2 : VRss M H.length w sz' (new.take m) news := by rw [hnews]; exact VRss.take m hnv
      have hst := run_storeCells_gen E.P b (off * sz') et fr news 0 cur w j2 j3 (by omega) (VRss.one hnv2)
      simp only [Nat.add_zero] at hst
      have hall := VRss.append (VRss.append (VRss.take off j5) hnv2) (VRss.drop (off + m) j5)
      obtain ⟨g1, g2⟩ := hG.write (B' := .row true sz' (es.take off ++ new.take m ++ es.drop (off + m))) (cur' := (cur.toList.take (off * sz') ++ news ++ cur.toList.drop (off * sz' + news.length)).toArray) hr rfl k5 j2 (fun _ _ c3 c4 => by
        have hcs : (cur.toList.take (off * sz') ++ news ++ cur.toList.drop (off * sz' + news.length)).toArray.size = cur.size := by simp; omega
        refine .inr ⟨b, _, et, fr, _, k5, c4, by rw [hcs]; exact j3, by rw [hcs]; exact j4, c3 hall, ?_, fun hh => by cases hh⟩
        have hcur : cur.toList = us ++ cur.toList.drop us.length := by
          conv => lhs; rw [← List.take_append_drop us.length cur.toList, j6]
        have e1 : cur.toList.take (off * sz') = us.take (off * sz') := by rw [hcur, List.take_append_of_le_length (by omega)]
        have e2 : cur.toList.drop (off * sz' + news.length) = us.drop ((off + m) * sz') ++ cur.toList.drop us.length := by
          rw [Nat.add_mul, ← hnl]
          conv => lhs; rw [hcur, List.drop_append_of_le_length (by omega)]
        simp only [List.toList_toArray]
        rw [e1, e2, ← List.append_assoc, List.take_left'] 
        rfl)
      exact ⟨_, hst, fun hrun => ⟨_, _, _, M, _, hrun, hK, g1, by rw [List.length_set]; unfold VR; rfl, g2⟩⟩
  | os r sz' off n =>
    obtain ⟨cs, hr, rfl, hle, hK⟩ := h
    unfold VR at h1
    obtain ⟨k0, ao, cap, rfl, k1, k2, k3, k4⟩ := h1
    refine run ao n cap fun news hnews => ?_
    by_cases hm : min new.length n = 0
    · rw [hm] at hnews hK ⊢
      simp at hnews
      subst hnews
      refine ⟨w, by cases ao <;> simp [storeCells], fun hrun => ?_⟩
      have hset : H.set r (some (.obj (splice off (new.take 0).flatten cs))) = H := by
        simp only [List.take_zero, List.flatten_nil, splice, List.append_nil, List.length_nil, Nat.add_zero, List.take_append_drop]
        obtain ⟨hrl, hre⟩ := List.getElem?_eq_some_iff.1 hr
        rw [← hre]
        exact List.set_getElem_self hrl
      rw [hset] at hK
      exact ⟨_, w, _, M, H, hrun, hK, hG, hgo 0, Ext.refl _ _ _⟩
    · have hn : n ≠ 0 := by omega
      rcases k4 with k4 | ⟨b, k5, rfl⟩
      · exact absurd k4 hn
      obtain ⟨b', cur, et, fr, j1, j2, j3, j4, j5⟩ := hG.blks r _ hr
      rw [k5] at j1
      cases j1
      generalize hmm : min new.length n = m at *
      have hml : m ≤ new.length := by omega
      have hmn : m ≤ n := by omega
      have hcl := VRs.len j5
      have hnl : news.length = m * sz' := by
        rw [hnews, List.length_take, hsul, Nat.min_eq_left (Nat.mul_le_mul_right _ hml)]
      have hms : m * sz' ≤ n * sz' := Nat.mul_le_mul_right _ hmn
      have hcz : cur.size = cs.length := by simpa using hcl
      have hnv2 : VRss M H.length w sz' (new.take m) news := by rw [hnews]; exact VRss.take m hnv
      have hst := run_storeCells_gen E.P b off et fr news 0 cur w j2 j3 (by omega) (VRss.one hnv2)
      simp only [Nat.add_zero] at hst
      obtain ⟨g1, g2⟩ := hG.write (B' := .obj (splice off (new.take m).flatten cs)) (cur' := (cur.toList.take off ++ news ++ cur.toList.drop (off + news.length)).toArray) hr rfl k5 j2 (fun _ c2 _ c4 => by
        have hcs : (cur.toList.take off ++ news ++ cur.toList.drop (off + news.length)).toArray.size = cur.size := by simp; omega
        exact ⟨b, _, et, fr, k5, c4, by rw [hcs]; exact j3, by rw [hcs]; exact j4, c2 (splice_out hnv2.flat j5)⟩)
      exact ⟨_, hst, fun hrun => ⟨_, _, _, M, _, hrun, hK, g1, by rw [List.length_set]; unfold VR; rfl, g2⟩⟩
  | _ => exact h.elim
end
end Go.Am
