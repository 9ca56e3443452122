/- The abstract machine: maps whose keys are numbers, and walks over them: the model does what the machine says. No condition. -/
import Derived.Test.YtckppkimjiifpaaAs
set_option linter.unusedSectionVars false
set_option linter.unusedVariables false
set_option linter.unusedSimpArgs false
set_option linter.deprecated false
namespace Go.Am
open Go.RowKit Go.Cx

/-! ### lists -/
theorem kAt_some {ks : List Int} {k : Int} {i : Nat} (h : kAt ks k = some i) : i < ks.length ∧ ks[i]? = some k := by
  unfold kAt at h
  split at h
  · next hk =>
    cases h
    have := List.idxOf_lt_length_of_mem hk
    exact ⟨this, by rw [List.getElem?_eq_getElem this, List.getElem_idxOf]⟩
  · cases h
theorem kAt_none {ks : List Int} {k : Int} (h : kAt ks k = none) : k ∉ ks := by
  unfold kAt at h
  split at h
  · cases h
  · assumption
theorem perm_erase {α : Type} : ∀ {l : List α} {i : Nat} {e : α}, l[i]? = some e → l.Perm (e :: l.eraseIdx i)
  | [], i, e, h => by simp at h
  | a :: l, 0, e, h => by simp at h; subst h; exact List.Perm.refl _
  | a :: l, i + 1, e, h => by
    have := perm_erase (l := l) (i := i) (e := e) (by simpa using h)
    rw [List.eraseIdx_cons_succ]
    exact (this.cons a).trans (List.Perm.swap _ _ _)
theorem perm_set {α : Type} : ∀ {l : List α} {i : Nat} {e e' : α}, l[i]? = some e → (l.set i e').Perm (e' :: l.eraseIdx i)
  | [], i, e, _, h => by simp at h
  | a :: l, 0, e, _, h => by simp
  | a :: l, i + 1, e, e', h => by
    have := perm_set (l := l) (i := i) (e := e) (e' := e') (by simpa using h)
    rw [List.eraseIdx_cons_succ, List.set_cons_succ]
    exact (this.cons a).trans (List.Perm.swap _ _ _)
theorem perm_both {α : Type} {l m : List α} {i j : Nat} {e : α} (hp : l.Perm m) (hi : l[i]? = some e) (hj : m[j]? = some e) : (l.eraseIdx i).Perm (m.eraseIdx j) :=
  (((perm_erase hi).symm.trans hp).trans (perm_erase hj)).cons_inv

section
variable {E : Env} {M : Mem} {w : World} {H : Heap}
theorem VRt.set {n : Nat} : ∀ {as : List AV} {us : List Value} {i : Nat} {a : AV} {u : Value}, VRt M n w as us → VR M n w a u → VRt M n w (as.set i a) (us.set i u)
  | [], us, i, a, u, h, _ => by
    unfold VRt at h
    subst h
    simp [VRt]
  | b :: as, us, 0, a, u, h, k => by
    unfold VRt at h
    obtain ⟨x, r, rfl, h1, h2⟩ := h
    simp only [List.set_cons_zero]
    unfold VRt
    exact ⟨u, r, rfl, k, h2⟩
  | b :: as, us, i + 1, a, u, h, k => by
    unfold VRt at h
    obtain ⟨x, r, rfl, h1, h2⟩ := h
    simp only [List.set_cons_succ]
    unfold VRt
    exact ⟨x, r.set i u, rfl, h1, VRt.set h2 k⟩
theorem VRt.erase {n : Nat} : ∀ {as : List AV} {us : List Value} {i : Nat}, VRt M n w as us → VRt M n w (as.eraseIdx i) (us.eraseIdx i)
  | [], us, i, h => by
    unfold VRt at h
    subst h
    simp [VRt]
  | b :: as, us, 0, h => by
    unfold VRt at h
    obtain ⟨x, r, rfl, h1, h2⟩ := h
    exact h2
  | b :: as, us, i + 1, h => by
    unfold VRt at h
    obtain ⟨x, r, rfl, h1, h2⟩ := h
    simp only [List.eraseIdx_cons_succ]
    unfold VRt
    exact ⟨x, r.eraseIdx i, rfl, h1, VRt.erase h2⟩

/-- A hot block is written, of whatever kind. -/
theorem Gam.writeO {w' : World} {r b : Nat} {B B' : Blk} (hG : Gam E.gl M w H) (hr : H[r]? = some (some B)) (hh : B.isHot = true) (hb : M.blk r = some b) (hos : w'.os = w.os) (htp : w'.tape = w.tape) (hop : w'.output = w.output) (hsz : w'.heap.size = w.heap.size) (hoth : ∀ k, k ≠ b → w'.heap[k]? = w.heap[k]?)
    (hB : (∀ {a u}, VR M H.length w a u → VR M H.length w' a u) → (∀ {a u}, VRt M H.length w a u → VRt M H.length w' a u) → BR M H.length w' r B') :
    Gam E.gl M w' (H.set r (some B')) ∧ Ext M w H M w' (H.set r (some B')) := by
  have hrl : r < H.length := (List.getElem?_eq_some_iff.1 hr).1
  have hnG : ¬ M.G b := hG.sep r B b hr hh hb
  have hGw : ∀ k, M.G k → w'.heap[k]? = w.heap[k]? := fun k hk => hoth k (fun e => hnG (e ▸ hk))
  refine ⟨⟨fun g => VR.mono (M := M) (M' := M) (n := 0) (w := w) (fun _ h => h) hGw (Nat.le_refl _) (fun _ _ => ⟨rfl, rfl⟩) (hG.glob g), fun k hk => by rw [hsz]; exact hG.inG k hk, fun k B1 hk => ?_, fun k B1 c hk h1 h2 => ?_, fun k k' B1 B2 c hk hk' h1 hne h2 => ?_⟩,
    ⟨hos, htp, hop, by omega, fun _ h => h, fun _ h => .inl h, fun k hk hn => ?_, by simp, fun _ _ => rfl, fun _ _ => rfl, fun c hc => ?_⟩⟩
  · rw [List.length_set]
    rw [getElem?_set' _ _ _ _ hrl] at hk
    split at hk
    · next e1 =>
      cases hk
      subst e1
      exact hB (VR.mono (fun _ h => h) hGw (Nat.le_refl _) (fun _ _ => ⟨rfl, rfl⟩)) (VRt.mono (fun _ h => h) hGw (Nat.le_refl _) (fun _ _ => ⟨rfl, rfl⟩))
    · next e1 =>
      refine BR.mono (M := M) (n := H.length) (w := w) (r := k) (fun _ h => h) hGw (Nat.le_refl _) (fun _ _ => ⟨rfl, rfl⟩) rfl rfl (fun c hc => hoth c (fun e2 => ?_)) (hG.blks k B1 hk)
      subst e2
      exact hG.far r k B B1 _ hr hk hh e1 hb hc
  · rw [getElem?_set' _ _ _ _ hrl] at hk
    split at hk
    · next e1 =>
      subst e1
      exact hG.sep _ B c hr hh h2
    · exact hG.sep k B1 c hk h1 h2
  · rw [getElem?_set' _ _ _ _ hrl] at hk hk'
    split at hk
    · next e1 =>
      subst e1
      rw [if_neg hne] at hk'
      exact hG.far _ k' B B2 c hr hk' hh hne h2
    · split at hk'
      · next e1 e2 =>
        subst e2
        exact hG.far k _ B1 B c hk hr h1 hne h2
      · exact hG.far k k' B1 B2 c hk hk' h1 hne h2
  · refine hoth k (fun e2 => ?_)
    subst e2
    exact hn ⟨r, B, hr, hh, hb⟩
  · obtain ⟨k, B1, h1, h2, h3⟩ := hc
    rw [getElem?_set' _ _ _ _ hrl] at h1
    split at h1
    · next e1 =>
      subst e1
      exact .inl ⟨_, B, hr, hh, h3⟩
    · exact .inl ⟨k, B1, h1, h2, h3⟩

theorem mpI_out {P : Program} {t k e : TypeId} (h : mpI P t = some (k, e)) : P.underlying t = some (.map k e) ∧ P.underlying k = some (.int .i64) := by
  unfold mpI at h
  split at h
  · next k' e' hu =>
    split at h
    · next hk =>
      cases h
      exact ⟨hu, hk⟩
    · cases h
  · cases h
theorem zvI_out {P : Program} {t : TypeId} {z : AV} (h : zvI P t = some z) : ∃ v, z = cv v ∧ ∀ w, (zeroValue t).run P w = .ok v w := by
  unfold zvI at h
  cases hi : P.info? t with
  | none => rw [hi] at h; cases h
  | some i =>
    rw [hi] at h
    cases hz : i.zero with
    | none => rw [Option.bind_some, hz] at h; cases h
    | some v =>
      rw [Option.bind_some, hz] at h
      cases h
      exact ⟨v, rfl, fun w => by simp [zeroValue, typeInfo, hi, hz, Sem.run]⟩

/-- What a map's block holds. -/
theorem map_out {r : Nat} {ks : List Int} {vs : List AV} {st : Option (List Nat × Nat)} (hG : Gam E.gl M w H) {u : Value} (hu : VR M H.length w (.mp r) u) (hr : H[r]? = some (some (.map ks vs st))) :
    ∃ b es c l, u = .map (some b) ∧ M.blk r = some b ∧ w.heap[b]? = some (.map es c) ∧ MapKept.Stamped es c ∧ List.Perm l es.toList ∧ l.map (·.key) = ks.map (.int .i64) ∧ VRt M H.length w vs (l.map (·.val)) ∧ (∀ bs c', st = some (bs, c') → l.map (·.born) = bs ∧ c' = c) ∧
      l.length = ks.length ∧ vs.length = ks.length ∧ ∀ x ∈ es.toList, MapKept.IsKey (.int .i64) x.key := by
  obtain ⟨b, es, c, l, k1, k2, k3, k4, k5, k6, k7⟩ := hG.blks r _ hr
  unfold VR at hu
  obtain ⟨_, b', h1, rfl⟩ := hu
  rw [k1] at h1
  cases h1
  have e1 : l.length = ks.length := by simpa using congrArg List.length k5
  refine ⟨b, es, c, l, rfl, k1, k2, k3, k4, k5, k6, k7, e1, ?_, fun x hx => ?_⟩
  · have := VRt.len k6
    rw [List.length_map] at this
    omega
  · have h2 : x.key ∈ l.map (·.key) := List.mem_map.2 ⟨x, k4.mem_iff.2 hx, rfl⟩
    rw [k5] at h2
    obtain ⟨z, _, hz⟩ := List.mem_map.1 h2
    rw [← hz]
    rfl
/-- Looking for a key. -/
theorem find_out {es : Array MapEntry} {l : List MapEntry} {ks : List Int} {x : Int} {c : Nat} (hs : MapKept.Stamped es c) (hp : List.Perm l es.toList) (hk : l.map (·.key) = ks.map (.int .i64)) (hkey : ∀ x ∈ es.toList, MapKept.IsKey (.int .i64) x.key) :
    (kAt ks x = none ∧ Instr.findNow (.int .i64) (.int .i64 x) es.toList 0 = some none ∧ ∀ e ∈ es.toList, e.key ≠ .int .i64 x) ∨
    ∃ i j e, kAt ks x = some i ∧ l[i]? = some e ∧ es.toList[j]? = some e ∧ e.key = .int .i64 x ∧ Instr.findNow (.int .i64) (.int .i64 x) es.toList 0 = some (some (j, e.val)) := by
  have hkeys : ∀ e ∈ l, ∃ z ∈ ks, e.key = .int .i64 z := fun e he => by
    have h2 : e.key ∈ l.map (·.key) := List.mem_map.2 ⟨e, he, rfl⟩
    rw [hk] at h2
    obtain ⟨z, hz, hz2⟩ := List.mem_map.1 h2
    exact ⟨z, hz, hz2.symm⟩
  rcases MapKept.findNow_spec (d := .int .i64) (k := .int .i64 x) rfl es.toList 0 hkey with ⟨h1, h2⟩ | ⟨j, e, h1, h2, h3⟩
  · refine .inl ⟨?_, h1, h2⟩
    unfold kAt
    rw [if_neg]
    intro hx
    have h4 : Value.int .i64 x ∈ l.map (·.key) := by rw [hk]; exact List.mem_map.2 ⟨x, hx, rfl⟩
    obtain ⟨e, he, hee⟩ := List.mem_map.1 h4
    exact h2 e (hp.mem_iff.1 he) hee
  · rw [Nat.zero_add] at h1
    have hel : e ∈ l := hp.mem_iff.2 (List.mem_of_getElem? h2)
    obtain ⟨z, hz, hz2⟩ := hkeys e hel
    rw [h3] at hz2
    cases hz2
    have hi : kAt ks x = some (ks.idxOf x) := by unfold kAt; rw [if_pos hz]
    obtain ⟨q1, q2⟩ := kAt_some hi
    have hlen : l.length = ks.length := by simpa using congrArg List.length hk
    have hil : ks.idxOf x < l.length := by omega
    refine .inr ⟨_, j, e, hi, ?_, h2, h3, h1⟩
    have h5 : (l.map (·.key))[ks.idxOf x]? = some (.int .i64 x) := by rw [hk, List.getElem?_map, q2]; rfl
    rw [List.getElem?_map, List.getElem?_eq_getElem hil] at h5
    have h6 : (l[ks.idxOf x]).key = .int .i64 x := by simpa using h5
    rw [List.getElem?_eq_getElem hil]
    congr 1
    have hst := (MapKept.stamped_iff es c).1 hs
    exact Go.entry_eq_of_key hst.2.2 (hp.mem_iff.1 (List.getElem_mem hil)) (hp.mem_iff.1 hel) (h6.trans h3.symm)

theorem makeMap_sound {t : TypeId} {r : Option Value} {a : Option AV} {K : AV → Heap → Prop} (hG : Gam E.gl M w H) (hr : a = none → r = none) (h : amakeMap E.P t a H K) : Yields E M w H (Instr.makeMap t r) K := by
  obtain ⟨ke, h1, h2, hK⟩ := h
  rw [hr h2]
  obtain ⟨g1, g2⟩ := hG.push (w1 := w) (o := .map #[] 0) (B := .map [] [] none) (s := 0) rfl rfl rfl rfl fun M' hM hMG hb hs hn ho => by
    refine ⟨w.heap.size, #[], 0, [], hb, hn, MapKept.stamped_empty 0, List.Perm.refl _, rfl, by simp [VRt], by simp⟩
  refine ⟨.map (some w.heap.size), _, _, _, _, ?_, hK, g1, ?_, g2⟩
  · simp [Instr.makeMap, newObj, Sem.run]
  · unfold VR
    exact ⟨by simp, w.heap.size, by simp [Mem.push], rfl⟩

theorem lookup_sound {t : TypeId} {a k : AV} {u x : Value} {ok : Bool} {K : AV → Heap → Prop} (hG : Gam E.gl M w H) (hu : VR M H.length w a u) (hx : VR M H.length w k x) (h : alookup E.P t a k ok H fun v => K v H) : Yields E M w H (Instr.lookup t u x ok) K := by
  obtain ⟨kt, e, z, h1, hz, y, rfl, r, rfl, ks, vs, st, hr, hK⟩ := h
  obtain ⟨ht, hk⟩ := mpI_out h1
  obtain ⟨zv, rfl, hzr⟩ := zvI_out hz
  obtain ⟨b, es, c, l, rfl, k1, k2, k3, k4, k5, k6, k7, k8, k9, k10⟩ := map_out hG hu hr
  unfold VR at hx
  subst hx
  have hck : ∀ q, (Instr.checkKey q 10000 kt (.int .i64 y)).run E.P w = .ok () w := fun q => MapKept.run_checkKey (d := .int .i64) hk (show MapKept.IsKey (.int .i64) (.int .i64 y) from rfl) q 9999
  rcases find_out k3 k4 k5 k10 (x := y) with ⟨f1, f2, _⟩ | ⟨i, j, en, f1, f2, f3, f4, f5⟩
  · rw [f1] at hK
    have hf := MapKept.run_findKey (w := w) (kt := kt) hk f2
    refine .pure hG (u := if ok then .tuple #[zv, .bool false] else zv) ?_ ?_ hK
    · cases ok <;> simp [Instr.lookup, run_underlying ht, MapKept.run_getObj_map k2, hck, hf, hzr, Result.andThen]
    · cases ok with
      | true =>
        simp only [if_true]
        unfold VR
        refine ⟨[zv, .bool false], rfl, ?_⟩
        unfold VRt
        refine ⟨_, _, rfl, VR_cv _, ?_⟩
        unfold VRt
        exact ⟨_, _, rfl, by unfold VR; rfl, by simp [VRt]⟩
      | false => exact VR_cv _
  · rw [f1] at hK
    have hf := MapKept.run_findKey (w := w) (kt := kt) hk f5
    have hil : i < vs.length := by rw [k9]; exact (kAt_some f1).1
    obtain ⟨v, hv1, hv2⟩ := VRt.get k6 (List.getElem?_eq_getElem hil)
    rw [List.getElem?_map, f2] at hv1
    cases hv1
    have hg : vs.getD i .any = vs[i] := by rw [List.getD_eq_getElem?_getD, List.getElem?_eq_getElem hil]; rfl
    dsimp only at hK
    rw [hg] at hK
    refine .pure hG (u := if ok then .tuple #[en.val, .bool true] else en.val) ?_ ?_ hK
    · cases ok <;> simp [Instr.lookup, run_underlying ht, MapKept.run_getObj_map k2, hck, hf, Result.andThen]
    · cases ok with
      | true =>
        simp only [if_true]
        unfold VR
        refine ⟨[en.val, .bool true], rfl, ?_⟩
        unfold VRt
        refine ⟨_, _, rfl, hv2, ?_⟩
        unfold VRt
        exact ⟨_, _, rfl, by unfold VR; rfl, by simp [VRt]⟩
      | false => exact hv2

theorem put_block {b : Nat} {w : World} {es : Array MapEntry} {c : Nat} (o : Obj) (hb : w.heap[b]? = some (.map es c)) : (Go.ChangeMaps.setBlock w b o).heap[b]? = some o ∧ (Go.ChangeMaps.setBlock w b o).heap.size = w.heap.size ∧ ∀ k, k ≠ b → (Go.ChangeMaps.setBlock w b o).heap[k]? = w.heap[k]? := by
  have h := MapKept.heap_set (w := w) (o' := o) hb
  exact ⟨h.1, by simp [Go.ChangeMaps.setBlock], h.2⟩

theorem mapUpdate_sound {t : TypeId} {a k d : AV} {u x v : Value} {K : Heap → Prop} (hG : Gam E.gl M w H) (hu : VR M H.length w a u) (hx : VR M H.length w k x) (hv : VR M H.length w d v) (h : amapUpdate E.P t a k d H K) :
    ∃ w' M' H', (Instr.mapUpdate t u x v).run E.P w = .ok () w' ∧ K H' ∧ Gam E.gl M' w' H' ∧ Ext M w H M' w' H' := by
  obtain ⟨⟨kt, e⟩, h1, y, rfl, r, rfl, ks, vs, st, hr, hK⟩ := h
  obtain ⟨ht, hk⟩ := mpI_out h1
  obtain ⟨b, es, c, l, rfl, k1, k2, k3, k4, k5, k6, k7, k8, k9, k10⟩ := map_out hG hu hr
  unfold VR at hx
  subst hx
  have hck : ∀ q, (Instr.checkKey q 10000 kt (.int .i64 y)).run E.P w = .ok () w := fun q => MapKept.run_checkKey (d := .int .i64) hk (show MapKept.IsKey (.int .i64) (.int .i64 y) from rfl) q 9999
  rcases find_out k3 k4 k5 k10 (x := y) with ⟨f1, f2, f3⟩ | ⟨i, j, en, f1, f2, f3, f4, f5⟩
  · have hf := MapKept.run_findKey (w := w) (kt := kt) hk f2
    obtain ⟨p1, p2, p3⟩ := put_block (.map (es.push { key := .int .i64 y, val := v, born := c }) (c + 1)) k2
    have hkp : kPut ks vs y d = .map (ks ++ [y]) (vs ++ [d]) none := by unfold kPut; rw [f1]
    rw [hkp] at hK
    obtain ⟨g1, g2⟩ := hG.writeO (w' := Go.ChangeMaps.setBlock w b (.map (es.push { key := .int .i64 y, val := v, born := c }) (c + 1))) (B' := .map (ks ++ [y]) (vs ++ [d]) none) hr rfl k1 rfl rfl rfl p2 p3 fun up upt => by
      refine ⟨b, _, _, l ++ [{ key := .int .i64 y, val := v, born := c }], k1, p1, MapKept.stamped_push k3 (fun x hx => f3 x hx), ?_, ?_, ?_, by simp⟩
      · rw [Array.toList_push]
        exact List.Perm.append_right _ k4
      · simp [k5]
      · rw [List.map_append]
        refine VRt.append (upt k6) ?_
        simp only [List.map_cons, List.map_nil]
        unfold VRt
        exact ⟨_, _, rfl, up hv, by simp [VRt]⟩
    refine ⟨_, _, _, ?_, hK, g1, g2⟩
    simp [Instr.mapUpdate, run_underlying ht, MapKept.run_getObj_map k2, hck, hf, Result.andThen, MapKept.run_setObj_map _ k2]
    rfl
  · have hf := MapKept.run_findKey (w := w) (kt := kt) hk f5
    have hjl : j < es.toList.length := (List.getElem?_eq_some_iff.1 f3).1
    have hje : es[j]? = some en := by rw [← Array.getElem?_toList]; exact f3
    have hkeep : (Instr.keyThatStays (((es[j]?).map (·.key)).getD (.int .i64 y)) (.int .i64 y)).run E.P w = .ok (.int .i64 y) w := by
      rw [hje]
      simp only [Option.map_some, Option.getD_some, f4]
      exact MapKept.run_keyThatStays (d := .int .i64) rfl
    obtain ⟨p1, p2, p3⟩ := put_block (.map (es.modify j fun e => { e with key := .int .i64 y, val := v }) c) k2
    have hkp : kPut ks vs y d = .map ks (vs.set i d) none := by unfold kPut; rw [f1]
    rw [hkp] at hK
    have hml : (es.modify j fun e => { e with key := .int .i64 y, val := v }).toList = es.toList.set j { en with key := .int .i64 y, val := v } := by
      apply List.ext_getElem?
      intro q
      rw [Array.getElem?_toList, Array.getElem?_modify, List.getElem?_set]
      by_cases hq : j = q
      · subst hq
        rw [if_pos rfl, if_pos rfl, hje, if_pos hjl]
        rfl
      · rw [if_neg hq, if_neg hq, Array.getElem?_toList]
    have hil : i < l.length := (List.getElem?_eq_some_iff.1 f2).1
    obtain ⟨g1, g2⟩ := hG.writeO (w' := Go.ChangeMaps.setBlock w b (.map (es.modify j fun e => { e with key := .int .i64 y, val := v }) c)) (B' := .map ks (vs.set i d) none) hr rfl k1 rfl rfl rfl p2 p3 fun up upt => by
      refine ⟨b, _, _, l.set i { en with key := .int .i64 y, val := v }, k1, p1, MapKept.stamped_modify k3 j _ (fun _ _ => rfl) (fun e he h2 => ?_), ?_, ?_, ?_, by simp⟩
      · rw [hje] at h2
        cases h2
        exact f4.symm
      · rw [hml]
        exact ((perm_set f2).trans ((perm_both k4 f2 f3).cons _)).trans (perm_set f3).symm
      · rw [List.map_set, ← f4, ← k5]
        apply List.ext_getElem?
        intro q
        rw [List.getElem?_set]
        by_cases hq : i = q
        · subst hq
          rw [if_pos rfl, if_pos (by simpa using hil), List.getElem?_map, f2]
          rfl
        · rw [if_neg hq]
      · rw [List.map_set]
        exact VRt.set (upt k6) (up hv)
    refine ⟨_, _, _, ?_, hK, g1, g2⟩
    simp only [Instr.mapUpdate, Sem.run_bind, run_underlying ht, MapKept.run_getObj_map k2, hck, hf, Result.andThen, hkeep, MapKept.run_setObj_map _ k2]
    rfl

theorem delete_sound {ts : List TypeId} {ty : TypeId} {as : List AV} {us : List Value} {K : AV → Heap → Prop} (hG : Gam E.gl M w H) (ha : VRt M H.length w as us) (h : adelete E.P ts as H K) : Yields E M w H (Builtin.delete_ ts.toArray ty us.toArray) K := by
  unfold adelete at h
  split at h
  case h_2 => exact h.elim
  case h_1 t t2 a k =>
  obtain ⟨⟨kt, e⟩, h1, y, rfl, r, rfl, ks, vs, st, hr, hK⟩ := h
  obtain ⟨ht, hk⟩ := mpI_out h1
  unfold VRt at ha
  obtain ⟨u, q, rfl, hu, ha⟩ := ha
  unfold VRt at ha
  obtain ⟨x, q, rfl, hx, ha⟩ := ha
  unfold VRt at ha
  subst ha
  obtain ⟨b, es, c, l, rfl, k1, k2, k3, k4, k5, k6, k7, k8, k9, k10⟩ := map_out hG hu hr
  unfold VR at hx
  subst hx
  have hck : ∀ q, (Instr.checkKey q 10000 kt (.int .i64 y)).run E.P w = .ok () w := fun q => MapKept.run_checkKey (d := .int .i64) hk (show MapKept.IsKey (.int .i64) (.int .i64 y) from rfl) q 9999
  rcases find_out k3 k4 k5 k10 (x := y) with ⟨f1, f2, f3⟩ | ⟨i, j, en, f1, f2, f3, f4, f5⟩
  · have hf := MapKept.run_findKey (w := w) (kt := kt) hk f2
    obtain ⟨p1, p2, p3⟩ := put_block (.map es c) k2
    have hkp : kDel ks vs y = .map ks vs none := by unfold kDel; rw [f1]
    rw [hkp] at hK
    obtain ⟨g1, g2⟩ := hG.writeO (w' := Go.ChangeMaps.setBlock w b (.map es c)) (B' := .map ks vs none) hr rfl k1 rfl rfl rfl p2 p3 fun up upt => ⟨b, _, _, l, k1, p1, k3, k4, k5, upt k6, by simp⟩
    refine ⟨.tuple #[], _, _, _, _, ?_, hK, g1, by unfold VR; exact ⟨[], rfl, by simp [VRt]⟩, g2⟩
    simp [Builtin.delete_, run_underlying ht, MapKept.run_getObj_map k2, hck, hf, Result.andThen, MapKept.run_setObj_map _ k2, Go.ChangeMaps.setBlock]
  · have hf := MapKept.run_findKey (w := w) (kt := kt) hk f5
    have hjl : j < es.toList.length := (List.getElem?_eq_some_iff.1 f3).1
    have hjs : j < es.size := by simpa using hjl
    obtain ⟨p1, p2, p3⟩ := put_block (.map (es.eraseIdxIfInBounds j) c) k2
    have hkp : kDel ks vs y = .map (ks.eraseIdx i) (vs.eraseIdx i) none := by unfold kDel; rw [f1]
    rw [hkp] at hK
    have hel : (es.eraseIdxIfInBounds j).toList = es.toList.eraseIdx j := by
      unfold Array.eraseIdxIfInBounds
      rw [dif_pos hjs]
      simp
    obtain ⟨g1, g2⟩ := hG.writeO (w' := Go.ChangeMaps.setBlock w b (.map (es.eraseIdxIfInBounds j) c)) (B' := .map (ks.eraseIdx i) (vs.eraseIdx i) none) hr rfl k1 rfl rfl rfl p2 p3 fun up upt => by
      refine ⟨b, _, _, l.eraseIdx i, k1, p1, MapKept.stamped_erase k3 j, ?_, ?_, ?_, by simp⟩
      · rw [hel]
        exact perm_both k4 f2 f3
      · rw [Go.ChangeMaps.map_eraseIdx, k5, ← Go.ChangeMaps.map_eraseIdx]
      · rw [Go.ChangeMaps.map_eraseIdx]
        exact VRt.erase (upt k6)
    refine ⟨.tuple #[], _, _, _, _, ?_, hK, g1, by unfold VR; exact ⟨[], rfl, by simp [VRt]⟩, g2⟩
    simp [Builtin.delete_, run_underlying ht, MapKept.run_getObj_map k2, hck, hf, Result.andThen, MapKept.run_setObj_map _ k2, Go.ChangeMaps.setBlock]

theorem lenM_sound {ts : List TypeId} {ty : TypeId} {as : List AV} {us : List Value} {K : AV → Heap → Prop} (hG : Gam E.gl M w H) (ha : VRt M H.length w as us) (h : alenM E.P ts as H fun v => K v H) : Yields E M w H (Builtin.len_ ts.toArray ty us.toArray) K := by
  unfold alenM at h
  split at h
  · next t r =>
    obtain ⟨⟨⟨kt, e⟩, h1⟩, ks, vs, st, hr, hK⟩ := h
    obtain ⟨ht, hk⟩ := mpI_out h1
    unfold VRt at ha
    obtain ⟨u, q, rfl, hu, ha⟩ := ha
    unfold VRt at ha
    subst ha
    obtain ⟨b, es, c, l, rfl, k1, k2, k3, k4, k5, k6, k7, k8, k9, k10⟩ := map_out hG hu hr
    have hes : es.size = ks.length := by
      have h2 : l.length = es.size := by simpa using k4.length_eq
      omega
    refine .pure hG (u := .int .i64 (ks.length : Int)) ?_ (by unfold VR; rfl) hK
    rw [← hes]
    simp [Builtin.len_, run_underlying ht, MapKept.run_getObj_map k2, goInt]
  · exact len_sound hG ha h

theorem range_sound {t : TypeId} {a : AV} {u : Value} {K : AV → Heap → Prop} (hG : Gam E.gl M w H) (hu : VR M H.length w a u) (h : arange E.P t a H K) : Yields E M w H (Instr.range t u) K := by
  obtain ⟨⟨kt, e⟩, h1, r, rfl, ks, vs, st, hr, hK⟩ := h
  obtain ⟨ht, hk⟩ := mpI_out h1
  obtain ⟨b, es, c, l, rfl, k1, k2, k3, k4, k5, k6, k7, k8, k9, k10⟩ := map_out hG hu hr
  have hK2 := hK (l.map (·.born)) c
  have hrl : r < H.length := (List.getElem?_eq_some_iff.1 hr).1
  obtain ⟨g1, g2⟩ := hG.writeO (w' := w) (B' := .map ks vs (some (l.map (·.born), c))) hr rfl k1 rfl rfl rfl rfl (fun _ _ => rfl) fun up upt => ⟨b, es, c, l, k1, k2, k3, k4, k5, k6, fun bs c' hh => by cases hh; exact ⟨rfl, rfl⟩⟩
  obtain ⟨g3, g4⟩ := g1.push (w1 := w) (o := .mapIter (some b) c #[] c) (B := .iter r (l.map (·.born)) c []) (s := 0) rfl rfl rfl rfl fun M' hM hMG hb hs hn ho => by
    rw [List.length_set] at hM hb ⊢
    exact ⟨by omega, w.heap.size, b, hb, by rw [(hM r hrl).1, k1], by simp, hn⟩
  refine ⟨.pointer (some ⟨w.heap.size, 0, none⟩), _, _, _, _, run_range_map w t kt e b es c ht k2, hK2, g3, ?_, g2.trans g4⟩
  unfold VR
  refine ⟨by simp, w.heap.size, ?_, rfl⟩
  simp [Mem.push]

/-- Who is left. -/
theorem iter_out {es : Array MapEntry} {l : List MapEntry} {c : Nat} {seen : List Nat} {bs : List Nat} (hs : MapKept.Stamped es c) (hp : List.Perm l es.toList) (hb : l.map (·.born) = bs) (hsn : ∀ i ∈ seen, i < bs.length) :
    ∀ i e, l[i]? = some e → ((seen.map fun i => bs.getD i 0).toArray.contains e.born = true ↔ i ∈ seen) := by
  intro i e hi
  have hil : i < l.length := (List.getElem?_eq_some_iff.1 hi).1
  have hnd : bs.Nodup := by
    rw [← hb]
    exact (hp.map _).nodup_iff.2 ((MapKept.stamped_iff es c).1 hs).2.1
  have hbi : bs[i]? = some e.born := by rw [← hb, List.getElem?_map, hi]; rfl
  have hbl : i < bs.length := (List.getElem?_eq_some_iff.1 hbi).1
  rw [List.contains_toArray, List.contains_iff_mem, List.mem_map]
  constructor
  · rintro ⟨j, hj, hje⟩
    have hjl := hsn j hj
    rw [List.getD_eq_getElem?_getD, List.getElem?_eq_getElem hjl] at hje
    rw [List.getElem?_eq_getElem hbl] at hbi
    have h1 : bs[j] = bs[i] := by
      have h2 : bs[j] = e.born := by simpa using hje
      have h3 : bs[i] = e.born := by simpa using hbi
      rw [h2, h3]
    have := (List.getElem_inj hnd (h₀ := hjl) (h₁ := hbl)).1 h1
    subst this
    exact hj
  · intro hj
    exact ⟨i, hj, by rw [List.getD_eq_getElem?_getD, hbi]; rfl⟩

theorem next_sound {ty : TypeId} {a : AV} {u : Value} {str : Bool} {K : AV → Heap → Prop} (hG : Gam E.gl M w H) (hu : VR M H.length w a u) (h : anext a str H K) : Yields E M w H (Instr.next u str ty) K := by
  obtain ⟨rfl, q, rfl, r, bs, c, seen, hq, ks, vs, hr, hK1, hK2⟩ := h
  have hu' := hu
  unfold VR at hu
  obtain ⟨_, bq, hbq, rfl⟩ := hu
  obtain ⟨m1, bq', bm, m2, m3, m4, m5⟩ := hG.blks q _ hq
  rw [hbq] at m2
  cases m2
  have hmp : VR M H.length w (.mp r) (.map (some bm)) := by unfold VR; exact ⟨m1, bm, m3, rfl⟩
  obtain ⟨b, es, c', l, e1, k1, k2, k3, k4, k5, k6, k7, k8, k9, k10⟩ := map_out hG hmp hr
  cases e1
  obtain ⟨k7', rfl⟩ := k7 bs c rfl
  have hlt := ((MapKept.stamped_iff es c).1 k3).1
  have hiter := iter_out k3 k4 k7' m4
  rcases run_next_at (P := E.P) w ty bq bm c c _ es c m5 k2 hlt (Nat.le_refl _) with ⟨h0, hrun⟩ | ⟨e, he, w1, hal, hrun⟩
  · refine .pure hG hrun ?_ (hK1 fun i hi => ?_)
    · unfold VR
      refine ⟨[.bool false], rfl, ?_⟩
      unfold VRt
      exact ⟨_, _, rfl, by unfold VR; rfl, by simp [VRt]⟩
    · have hil : i < l.length := by omega
      have hm : l[i] ∈ es.toList := k4.mem_iff.1 (List.getElem_mem hil)
      have := all_seen es _ h0 _ hm
      exact (hiter i _ (List.getElem?_eq_getElem hil)).1 this
  · obtain ⟨hem, hes⟩ := mem_left he
    have hel : e ∈ l := k4.mem_iff.2 hem
    obtain ⟨i, hil, hie⟩ := List.getElem_of_mem hel
    have hi : l[i]? = some e := by rw [List.getElem?_eq_getElem hil, hie]
    have hns : i ∉ seen := fun hh => by
      have := (hiter i e hi).2 hh
      rw [this] at hes
      cases hes
    have hbi : bs[i]? = some e.born := by rw [← k7', List.getElem?_map, hi]; rfl
    have hbl : i < bs.length := (List.getElem?_eq_some_iff.1 hbi).1
    have hK3 := hK2 i (by omega) hns
    have hw1 : w1.heap = w.heap ∧ w1.os = w.os ∧ w1.tape = w.tape ∧ w1.output = w.output := by rcases hal with rfl | rfl <;> exact ⟨rfl, rfl, rfl, rfl⟩
    have hp := MapKept.heap_set (w := w1) (r := bq) (o := .mapIter (some bm) c (seen.map fun i => bs.getD i 0).toArray c) (o' := .mapIter (some bm) c ((seen.map fun i => bs.getD i 0).toArray.push e.born) c) (by rw [hw1.1]; exact m5)
    obtain ⟨g1, g2⟩ := hG.writeO (w' := Go.ChangeMaps.setBlock w1 bq (.mapIter (some bm) c ((seen.map fun i => bs.getD i 0).toArray.push e.born) c)) (B' := .iter r bs c (seen ++ [i])) hq rfl hbq hw1.2.1 hw1.2.2.1 hw1.2.2.2 (by simp [Go.ChangeMaps.setBlock, hw1.1]) (fun k hk => (hp.2 k hk).trans (by rw [hw1.1])) fun up upt => by
      refine ⟨m1, bq, bm, hbq, m3, fun j hj => ?_, ?_⟩
      · rcases List.mem_append.1 hj with hj | hj
        · exact m4 j hj
        · rw [List.mem_singleton.1 hj]; exact hbl
      · refine hp.1.trans ?_
        congr 2
        rw [List.map_append, List.map_cons, List.map_nil, List.getD_eq_getElem?_getD, hbi]
        simp
    refine ⟨_, _, _, _, _, hrun, hK3, g1, ?_, g2⟩
    rw [List.length_set]
    unfold VR
    have hGw : ∀ k, M.G k → (Go.ChangeMaps.setBlock w1 bq (.mapIter (some bm) c ((seen.map fun i => bs.getD i 0).toArray.push e.born) c)).heap[k]? = w.heap[k]? := fun k hk => (hp.2 k (fun e2 => hG.sep q _ bq hq rfl hbq (e2 ▸ hk))).trans (by rw [hw1.1])
    obtain ⟨v, hv1, hv2⟩ := VRt.get k6 (List.getElem?_eq_getElem (by omega : i < vs.length))
    rw [List.getElem?_map, hi] at hv1
    cases hv1
    refine ⟨[.bool true, e.key, e.val], rfl, ?_⟩
    unfold VRt
    refine ⟨_, _, rfl, by unfold VR; rfl, ?_⟩
    unfold VRt
    have hkey : e.key = .int .i64 (ks.getD i 0) := by
      have h5 : (l.map (·.key))[i]? = (ks.map (Value.int .i64))[i]? := by rw [k5]
      rw [List.getElem?_map, hi, List.getElem?_map, List.getElem?_eq_getElem (by omega : i < ks.length)] at h5
      rw [List.getD_eq_getElem?_getD, List.getElem?_eq_getElem (by omega : i < ks.length)]
      simpa using h5
    refine ⟨_, _, rfl, by unfold VR; exact hkey, ?_⟩
    unfold VRt
    refine ⟨_, _, rfl, ?_, by simp [VRt]⟩
    have hg : vs.getD i .any = vs[i]'(by omega) := by rw [List.getD_eq_getElem?_getD, List.getElem?_eq_getElem (by omega : i < vs.length)]; rfl
    rw [hg]
    exact VR.mono (M := M) (M' := M) (n := H.length) (w := w) (fun _ h => h) hGw (Nat.le_refl _) (fun _ _ => ⟨rfl, rfl⟩) hv2

theorem entry_sound {a : AV} {u : Value} {K : AV → Heap → Prop} (hG : Gam E.gl M w H) (hu : VR M H.length w a u) (h : aentry a H fun v => K v H) : Yields E M w H (Instr.entry u) K := by
  obtain ⟨q, rfl, r, bs, c, seen, hq, ks, vs, hr, i, hs, hi, hK⟩ := h
  unfold VR at hu
  obtain ⟨_, bq, hbq, rfl⟩ := hu
  obtain ⟨m1, bq', bm, m2, m3, m4, m5⟩ := hG.blks q _ hq
  rw [hbq] at m2
  cases m2
  have hmp : VR M H.length w (.mp r) (.map (some bm)) := by unfold VR; exact ⟨m1, bm, m3, rfl⟩
  obtain ⟨b, es, c', l, e1, k1, k2, k3, k4, k5, k6, k7, k8, k9, k10⟩ := map_out hG hmp hr
  cases e1
  obtain ⟨k7', rfl⟩ := k7 bs c rfl
  obtain ⟨s0, rfl⟩ := List.getLast?_eq_some_iff.1 hs
  have hil : i < l.length := by omega
  have hem : l[i] ∈ es.toList := k4.mem_iff.1 (List.getElem_mem hil)
  have hbi : bs[i]? = some (l[i]).born := by rw [← k7', List.getElem?_map, List.getElem?_eq_getElem hil]; rfl
  have m6 : w.heap[bq]? = some (.mapIter (some bm) c ((s0.map fun i => bs.getD i 0).toArray.push (l[i]).born) c) := by
    rw [m5]
    congr 2
    rw [List.map_append, List.map_cons, List.map_nil, List.getD_eq_getElem?_getD, hbi]
    simp
  have hrun := run_entry_at (P := E.P) w bq bm c _ es c (l[i]) m6 k2 hem ((MapKept.stamped_iff es c).1 k3).2.1
  obtain ⟨v, hv1, hv2⟩ := VRt.get k6 (List.getElem?_eq_getElem (by omega : i < vs.length))
  rw [List.getElem?_map, List.getElem?_eq_getElem hil] at hv1
  cases hv1
  have hkey : (l[i]).key = .int .i64 (ks.getD i 0) := by
    have h5 : (l.map (·.key))[i]? = (ks.map (Value.int .i64))[i]? := by rw [k5]
    rw [List.getElem?_map, List.getElem?_eq_getElem hil, List.getElem?_map, List.getElem?_eq_getElem (by omega : i < ks.length)] at h5
    rw [List.getD_eq_getElem?_getD, List.getElem?_eq_getElem (by omega : i < ks.length)]
    simpa using h5
  have hg : vs.getD i .any = vs[i]'(by omega) := by rw [List.getD_eq_getElem?_getD, List.getElem?_eq_getElem (by omega : i < vs.length)]; rfl
  rw [hg] at hK
  refine .pure hG hrun ?_ hK
  unfold VR
  refine ⟨[(l[i]).key, (l[i]).val], rfl, ?_⟩
  unfold VRt
  refine ⟨_, _, rfl, by unfold VR; exact hkey, ?_⟩
  unfold VRt
  exact ⟨_, _, rfl, hv2, by simp [VRt]⟩
end
end Go.Am
