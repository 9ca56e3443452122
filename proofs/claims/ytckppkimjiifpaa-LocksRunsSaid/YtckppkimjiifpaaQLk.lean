/- Locks: what holds of them behind any operations; plain laws on lists. No condition. -/
import Derived.Test.YtckppkimjiifpaaQLj
import Derived.Test.YtckppkimjiifpaaQb1
set_option linter.unusedSectionVars false
set_option linter.unusedVariables false
set_option linter.unusedSimpArgs false
set_option linter.deprecated false
namespace Go.Proofs.Ytckppkimjiifpaa
open Go.Cx Go.Am
def keys (m : List (Int × Int)) : List Int := m.map (·.1)
def rowT (k : Lk) : List Int := k.row.map (·.1)
structure LkOk (m : List (Int × Int)) (row : List (Int × Bool)) : Prop where
  nd : (keys m).Nodup
  val : ∀ p ∈ m, p.2 = 1 ∨ p.2 = 2
  alone : ∀ p ∈ m, p.2 = 2 → m = [p]
  rnd : (row.map (·.1)).Nodup
  apart : ∀ p ∈ row, p.1 ∉ keys m
def HeadNo (m : List (Int × Int)) (row : List (Int × Bool)) : Prop := ∀ t w r, row = (t, w) :: r → fitsB m w = false
theorem mfind_abs {m : List (Int × Int)} {t : Int} (h : t ∉ keys m) : mfind m t = none := by
  unfold mfind
  rw [List.find?_eq_none.2]
  · rfl
  · intro p hp hh
    exact h (List.mem_map.2 ⟨p, hp, by simpa using hh⟩)
theorem kAt_abs {m : List (Int × Int)} {t : Int} (h : t ∉ keys m) : kAt (m.map (·.1)) t = none := by
  unfold kAt
  exact if_neg h
theorem how_zero {m : List (Int × Int)} (hv : ∀ p ∈ m, p.2 = 1 ∨ p.2 = 2) (t : Int) : how m t = 0 ↔ t ∉ keys m := by
  constructor
  · intro h hk
    obtain ⟨a, h1, h2⟩ := find_idx (m := m) hk
    have hm := List.mem_of_getElem? h1
    have : how m t = a := by unfold how mfind; rw [h2]; rfl
    have := hv _ hm
    simp only at this
    omega
  · intro h
    unfold how
    rw [mfind_abs h]
    rfl
theorem mput_abs {m : List (Int × Int)} {t v : Int} (h : t ∉ keys m) : mput m t v = m ++ [(t, v)] := by
  unfold mput
  rw [kAt_abs h]
theorem mput_last {m : List (Int × Int)} {t v v' : Int} (h : t ∉ keys m) : mput (m ++ [(t, v)]) t v' = m ++ [(t, v')] := by
  have e : kAt ((m ++ [(t, v)]).map (·.1)) t = some m.length := by
    unfold kAt
    have h1 : t ∈ (m ++ [(t, v)]).map (·.1) := by simp
    rw [if_pos h1, List.map_append, List.idxOf_append, if_neg (show t ∉ m.map (·.1) from h)]
    simp
  unfold mput
  rw [e]
  simp
theorem holdM_abs {m : List (Int × Int)} {t : Int} (w : Bool) (h : t ∉ keys m) : holdM m t w = m ++ [(t, if w then 2 else 1)] := by
  unfold holdM
  cases w with
  | true => simp only [if_true]; rw [mput_abs h, mput_last h]
  | false => simp only [Bool.false_eq_true, if_false]; rw [mput_abs h]
theorem open_no {m : List (Int × Int)} (h : openB m = true) : ∀ p ∈ m, p.2 ≠ 2 := by
  unfold openB at h
  rw [List.all_eq_true] at h
  intro p hp
  simpa using h p hp
theorem hold_ok {m : List (Int × Int)} {t : Int} {w : Bool} {r : List (Int × Bool)} (h : LkOk m ((t, w) :: r)) (hf : fitsB m w = true) : LkOk (holdM m t w) r ∧ keys (holdM m t w) = keys m ++ [t] ∧ (holdM m t w).length = m.length + 1 := by
  have ht := h.apart (t, w) List.mem_cons_self
  simp only at ht
  rw [holdM_abs w ht]
  have hk : keys (m ++ [(t, if w then (2 : Int) else 1)]) = keys m ++ [t] := by simp [keys]
  have hr : (r.map (·.1)).Nodup ∧ t ∉ r.map (·.1) := by
    have := h.rnd
    rw [List.map_cons, List.nodup_cons] at this
    exact ⟨this.2, this.1⟩
  refine ⟨⟨?_, ?_, ?_, hr.1, ?_⟩, hk, by simp⟩
  · rw [hk]
    refine List.nodup_append.2 ⟨h.nd, by simp, ?_⟩
    intro a ha b hb
    rw [List.mem_singleton.1 hb]
    intro e
    exact ht (e ▸ ha)
  · intro p hp
    rcases List.mem_append.1 hp with hp | hp
    · exact h.val p hp
    · rw [List.mem_singleton.1 hp]
      cases w <;> simp
  · intro p hp h2
    cases w with
    | true =>
      have : m = [] := by simpa [fitsB] using hf
      subst this
      rw [List.nil_append] at hp
      rw [List.mem_singleton.1 hp]
      rfl
    | false =>
      have ho := open_no (m := m) (by simpa [fitsB] using hf)
      rcases List.mem_append.1 hp with hp | hp
      · exact absurd h2 (ho p hp)
      · rw [List.mem_singleton.1 hp] at h2
        simp at h2
  · intro p hp
    rw [hk]
    intro hh
    rcases List.mem_append.1 hh with hh | hh
    · exact h.apart p (List.mem_cons_of_mem _ hp) hh
    · rw [List.mem_singleton] at hh
      exact hr.2 (hh ▸ List.mem_map.2 ⟨p, hp, rfl⟩)
theorem enter_ok : ∀ (row : List (Int × Bool)) (m : List (Int × Int)), LkOk m row →
    LkOk (enterL m row).2.1 (enterL m row).2.2 ∧ HeadNo (enterL m row).2.1 (enterL m row).2.2 ∧ row.map (·.1) = (enterL m row).1 ++ (enterL m row).2.2.map (·.1) ∧ keys (enterL m row).2.1 = keys m ++ (enterL m row).1 ∧ (enterL m row).2.1.length + (enterL m row).2.2.length = m.length + row.length
  | [], m, h => by
    unfold enterL
    refine ⟨h, ?_, rfl, (List.append_nil _).symm, rfl⟩
    intro t w r e
    cases e
  | (t, w) :: r, m, h => by
    unfold enterL
    by_cases hf : fitsB m w = true
    · rw [if_pos hf]
      obtain ⟨h1, h2, h3⟩ := hold_ok h hf
      obtain ⟨i1, i2, i3, i4, i5⟩ := enter_ok r (holdM m t w) h1
      refine ⟨i1, i2, by simp [i3], by rw [i4, h2]; simp, ?_⟩
      simp only [List.length_cons]
      omega
    · rw [if_neg hf]
      refine ⟨h, fun t' w' r' e => ?_, rfl, by simp, rfl⟩
      cases e
      simpa using hf
theorem nodup_erase {l : List Int} {i : Nat} {x : Int} (h : l.Nodup) (hi : l[i]? = some x) : x ∉ l.eraseIdx i := by
  have := (perm_erase hi).nodup_iff.1 h
  exact (List.nodup_cons.1 this).1
theorem mdel_ok {m : List (Int × Int)} {row : List (Int × Bool)} {t : Int} (h : LkOk m row) (ht : t ∈ keys m) : LkOk (mdel m t) row ∧ t ∉ keys (mdel m t) ∧ (mdel m t).length + 1 = m.length ∧ (∀ x ∈ keys (mdel m t), x ∈ keys m) := by
  obtain ⟨a, h1, _⟩ := find_idx (m := m) ht
  have hi := (List.getElem?_eq_some_iff.1 h1).1
  have e : mdel m t = m.eraseIdx ((m.map (·.1)).idxOf t) := by
    unfold mdel kAt
    rw [if_pos (show t ∈ m.map (·.1) from ht)]
  have hk : keys (mdel m t) = (keys m).eraseIdx ((m.map (·.1)).idxOf t) := by
    rw [e]
    exact map_eraseIdx' _ _ _
  have hsub : (mdel m t).Sublist m := by rw [e]; exact List.eraseIdx_sublist ..
  have hk1 : (keys m)[(m.map (·.1)).idxOf t]? = some t := by
    show (m.map (·.1))[_]? = _
    rw [List.getElem?_map, h1]
    rfl
  have hno : t ∉ keys (mdel m t) := by rw [hk]; exact nodup_erase h.nd hk1
  have hmem : ∀ x ∈ keys (mdel m t), x ∈ keys m := fun x hx => by
    obtain ⟨p, hp, rfl⟩ := List.mem_map.1 hx
    exact List.mem_map.2 ⟨p, hsub.subset hp, rfl⟩
  refine ⟨⟨?_, fun p hp => h.val p (hsub.subset hp), fun p hp h2 => ?_, h.rnd, fun p hp hh => h.apart p hp (hmem _ hh)⟩, hno, ?_, hmem⟩
  · exact (hsub.map _).nodup h.nd
  · have hm := h.alone p (hsub.subset hp) h2
    exfalso
    rw [hm] at ht
    have : t = p.1 := by simpa [keys] using ht
    refine hno ?_
    have h5 : p.1 ∈ keys (mdel m t) := List.mem_map.2 ⟨p, hp, rfl⟩
    rw [← this] at h5
    exact h5
  · rw [e, List.length_eraseIdx, if_pos hi]
    omega
/-- What holds of all locks: tasks are below N. -/
structure LInvN (N : Int) (st : List Lk) : Prop where
  ok : ∀ i, i < st.length → LkOk (lk st i).held (lk st i).row
  head : ∀ i, i < st.length → HeadNo (lk st i).held (lk st i).row
  wait : ∀ i t, i < st.length → t ∈ rowT (lk st i) → (∀ j, i ≤ j → j < st.length → t ∉ keys (lk st j).held) ∧ ∀ j, j < st.length → t ∈ rowT (lk st j) → j = i
  rng : ∀ i t, i < st.length → t ∈ keys (lk st i).held ∨ t ∈ rowT (lk st i) → 0 ≤ t ∧ t < N
def tot (st : List Lk) : Nat := (st.map fun k => k.held.length + k.row.length).sum
theorem lk_get {st : List Lk} {i : Nat} (hi : i < st.length) : lk st i = st[i] := by simp [lk, List.getD_eq_getElem?_getD, hi]
theorem lk_set_ne {st : List Lk} {i j : Nat} (h : i ≠ j) (k : Lk) : lk (st.set i k) j = lk st j := by
  unfold lk
  rw [List.getD_eq_getElem?_getD, List.getElem?_set_ne h, ← List.getD_eq_getElem?_getD]
theorem tot_set : ∀ (st : List Lk) (i : Nat) (k : Lk), i < st.length → tot (st.set i k) + ((lk st i).held.length + (lk st i).row.length) = tot st + (k.held.length + k.row.length)
  | a :: st, 0, k, _ => by
    simp only [tot, List.set_cons_zero, List.map_cons, List.sum_cons, lk, List.getD_cons_zero]
    omega
  | a :: st, i + 1, k, h => by
    have ih := tot_set st i k (by simpa using h)
    simp only [tot, List.set_cons_succ, List.map_cons, List.sum_cons, lk, List.getD_cons_succ] at ih ⊢
    omega
theorem tot_ge : ∀ (st : List Lk) (i : Nat), (lk st i).held.length + (lk st i).row.length ≤ tot st
  | [], i => by simp [lk, lk0]
  | a :: st, 0 => by simp only [tot, List.map_cons, List.sum_cons, lk, List.getD_cons_zero]; omega
  | a :: st, i + 1 => by
    have ih := tot_ge st i
    simp only [tot, List.map_cons, List.sum_cons, lk, List.getD_cons_succ] at ih ⊢
    omega
theorem find_keys {row : List (Int × Bool)} {t : Int} : row.find? (fun p => p.1 == t) = none ↔ t ∉ row.map (·.1) := by
  rw [List.find?_eq_none]
  constructor
  · intro h hh
    obtain ⟨p, hp, rfl⟩ := List.mem_map.1 hh
    exact h p hp (by simp)
  · intro h p hp hh
    exact h (List.mem_map.2 ⟨p, hp, by simpa using hh⟩)
theorem waitsL_none {t : Int} : ∀ {st : List Lk} {j : Nat}, waitsL t j st = none → ∀ k ∈ st, t ∉ rowT k
  | [], _, _, k, hk => by cases hk
  | a :: st, j, h, k, hk => by
    unfold waitsL at h
    split at h
    · cases h
    · next h1 =>
      rcases List.mem_cons.1 hk with rfl | hk
      · exact find_keys.1 h1
      · exact waitsL_none h k hk
theorem lk_mem {st : List Lk} {i : Nat} (hi : i < st.length) : lk st i ∈ st := by rw [lk_get hi]; exact List.getElem_mem hi
theorem waits_no {st : List Lk} {t : Int} (h : waits st t = none) : ∀ i, i < st.length → t ∉ rowT (lk st i) := fun i hi => waitsL_none h _ (lk_mem hi)
/-- One lock turned: what of the invariant is to be shown. -/
theorem inv_set {N : Int} {st : List Lk} (h : LInvN N st) {i : Nat} (hi : i < st.length) (k : Lk) (h1 : LkOk k.held k.row) (h2 : HeadNo k.held k.row)
    (h3 : ∀ t, t ∈ keys k.held → (∀ j, j ≤ i → (hj : j < st.length) → t ∈ rowT (if j = i then k else lk st j) → False))
    (h4 : ∀ t, t ∈ rowT k → (∀ j, i < j → j < st.length → t ∉ keys (lk st j).held) ∧ ∀ j, j < st.length → j ≠ i → t ∉ rowT (lk st j))
    (h5 : ∀ t, t ∈ keys k.held ∨ t ∈ rowT k → 0 ≤ t ∧ t < N) : LInvN N (st.set i k) := by
  have hs := lk_set hi k
  refine ⟨fun j hj => ?_, fun j hj => ?_, fun j t hj ht => ?_, fun j t hj ht => ?_⟩
  · rw [List.length_set] at hj
    by_cases e : i = j
    · subst e; rw [hs]; exact h1
    · rw [lk_set_ne e]; exact h.ok j hj
  · rw [List.length_set] at hj
    by_cases e : i = j
    · subst e; rw [hs]; exact h2
    · rw [lk_set_ne e]; exact h.head j hj
  · rw [List.length_set] at hj ⊢
    by_cases e : i = j
    · subst e
      rw [hs] at ht
      obtain ⟨q1, q2⟩ := h4 t ht
      refine ⟨fun j2 hle hj2 => ?_, fun j2 hj2 ht2 => ?_⟩
      · by_cases e2 : i = j2
        · subst e2
          rw [hs]
          intro hk
          refine h3 t hk i (Nat.le_refl _) hi ?_
          rw [if_pos rfl]
          exact ht
        · rw [lk_set_ne e2]
          exact q1 j2 (by omega) hj2
      · by_cases e2 : i = j2
        · exact e2.symm
        · rw [lk_set_ne e2] at ht2
          exact absurd ht2 (q2 j2 hj2 (fun e => e2 e.symm))
    · rw [lk_set_ne e] at ht
      obtain ⟨q1, q2⟩ := h.wait j t hj ht
      refine ⟨fun j2 hle hj2 => ?_, fun j2 hj2 ht2 => ?_⟩
      · by_cases e2 : i = j2
        · subst e2
          rw [hs]
          intro hk
          refine h3 t hk j hle hj ?_
          rw [if_neg (fun q => e q.symm)]
          exact ht
        · rw [lk_set_ne e2]
          exact q1 j2 hle hj2
      · by_cases e2 : i = j2
        · subst e2
          rw [hs] at ht2
          exact absurd ht ((h4 t ht2).2 j hj (fun q => e q.symm))
        · rw [lk_set_ne e2] at ht2
          exact q2 j2 hj2 ht2
  · rw [List.length_set] at hj
    by_cases e : i = j
    · subst e; rw [hs] at ht; exact h5 t ht
    · rw [lk_set_ne e] at ht; exact h.rng j t hj ht
theorem ask_inv {N : Int} {st : List Lk} (h : LInvN N st) {t : Int} {i : Nat} (w : Bool) (hi : i < st.length) (ht : 0 ≤ t ∧ t < N) : LInvN N (askS st t i w) ∧ tot (askS st t i w) ≤ tot st + 1 := by
  unfold askS
  split
  · exact ⟨h, by omega⟩
  · next h0 =>
    have hw : waits st t = none := Classical.byContradiction fun c => h0 (.inl c)
    have hh : how (lk st i).held t = 0 := Classical.byContradiction fun c => h0 (.inr c)
    have hk : t ∉ keys (lk st i).held := (how_zero (h.ok i hi).val t).1 hh
    have hwn := waits_no hw
    split
    · exact ⟨h, by omega⟩
    · next h2 =>
      have h2 : laterNo st t i := Classical.not_not.1 h2
      have hlk : ∀ j, i ≤ j → j < st.length → t ∉ keys (lk st j).held := fun j h3 h4 => by
        rcases Nat.lt_or_ge i j with h5 | h5
        · exact (how_zero (h.ok j h4).val t).1 (h2 j h5 h4)
        · rw [show j = i by omega]; exact hk
      split
      · next h3 =>
        obtain ⟨hrow, hf⟩ := h3
        have hok := h.ok i hi
        have hok2 : LkOk (lk st i).held ((t, w) :: (lk st i).row) := ⟨hok.nd, hok.val, hok.alone, by rw [hrow]; simp, fun p hp => by
          rw [hrow] at hp
          rw [List.mem_singleton.1 hp]
          exact hk⟩
        obtain ⟨q1, q2, q3⟩ := hold_ok hok2 hf
        refine ⟨inv_set h hi _ q1 (fun t' w' r' e => by simp only at e; rw [hrow] at e; cases e) (fun t' ht' j hj1 hj2 hj3 => ?_) (fun t' ht' => ?_) (fun t' ht' => ?_), ?_⟩
        · simp only at ht'
          rw [q2] at ht'
          by_cases e : j = i
          · rw [if_pos e] at hj3
            unfold rowT at hj3
            simp only at hj3
            rw [hrow] at hj3
            cases hj3
          · rw [if_neg e] at hj3
            rcases List.mem_append.1 ht' with ht' | ht'
            · exact (h.wait j t' hj2 hj3).1 i hj1 hi ht'
            · rw [List.mem_singleton.1 ht'] at hj3
              exact hwn j hj2 hj3
        · unfold rowT at ht'
          simp only at ht'
          rw [hrow] at ht'
          cases ht'
        · simp only at ht'
          rw [q2] at ht'
          rcases ht' with ht' | ht'
          · rcases List.mem_append.1 ht' with ht' | ht'
            · exact h.rng i t' hi (.inl ht')
            · rw [List.mem_singleton.1 ht']; exact ht
          · exact h.rng i t' hi (.inr ht')
        · have := tot_set st i ⟨holdM (lk st i).held t w, (lk st i).row⟩ hi
          simp only at this
          omega
      · next h3 =>
        have hok := h.ok i hi
        have hrT : rowT ⟨(lk st i).held, (lk st i).row ++ [(t, w)]⟩ = rowT (lk st i) ++ [t] := by simp [rowT]
        refine ⟨inv_set h hi _ ⟨hok.nd, hok.val, hok.alone, ?_, ?_⟩ (fun t' w' r' e => ?_) (fun t' ht' j hj1 hj2 hj3 => ?_) (fun t' ht' => ?_) (fun t' ht' => ?_), ?_⟩
        · rw [List.map_append]
          refine List.nodup_append.2 ⟨hok.rnd, by simp, ?_⟩
          intro a ha b hb e
          have hb2 : b = t := by simpa using hb
          rw [e, hb2] at ha
          exact hwn i hi ha
        · intro p hp
          rcases List.mem_append.1 hp with hp | hp
          · exact hok.apart p hp
          · rw [List.mem_singleton.1 hp]; exact hk
        · cases hr : (lk st i).row with
          | nil =>
            simp only at e
            rw [hr] at e
            cases e
            simpa [hr] using h3
          | cons a l =>
            simp only at e
            rw [hr] at e
            cases e
            exact h.head i hi t' w' l hr
        · by_cases e : j = i
          · rw [if_pos e, hrT] at hj3
            rcases List.mem_append.1 hj3 with hj3 | hj3
            · exact (h.wait i t' hi hj3).1 i (Nat.le_refl _) hi ht'
            · rw [List.mem_singleton.1 hj3] at ht'
              exact hk ht'
          · rw [if_neg e] at hj3
            exact (h.wait j t' hj2 hj3).1 i hj1 hi ht'
        · rw [hrT] at ht'
          rcases List.mem_append.1 ht' with ht' | ht'
          · obtain ⟨q1, q2⟩ := h.wait i t' hi ht'
            exact ⟨fun j h5 h6 => q1 j (by omega) h6, fun j h5 h6 h7 => h6 (q2 j h5 h7)⟩
          · rw [List.mem_singleton.1 ht']
            exact ⟨fun j h5 h6 => hlk j (by omega) h6, fun j h5 h6 => hwn j h5⟩
        · rw [hrT] at ht'
          rcases ht' with ht' | ht'
          · exact h.rng i t' hi (.inl ht')
          · rcases List.mem_append.1 ht' with ht' | ht'
            · exact h.rng i t' hi (.inr ht')
            · rw [List.mem_singleton.1 ht']; exact ht
        · have := tot_set st i ⟨(lk st i).held, (lk st i).row ++ [(t, w)]⟩ hi
          simp only [List.length_append, List.length_cons, List.length_nil] at this
          omega
/-- A lock given back. -/
theorem gave_inv {N : Int} {st : List Lk} (h : LInvN N st) {t : Int} {i : Nat} (hi : i < st.length) (ht : t ∈ keys (lk st i).held) : LInvN N (st.set i (gaveK (lk st i) t)) ∧ tot (st.set i (gaveK (lk st i) t)) + 1 = tot st ∧ queue st i = gaveIn (lk st i) t ++ queue (st.set i (gaveK (lk st i) t)) i := by
  obtain ⟨d1, d2, d3, d4⟩ := mdel_ok (h.ok i hi) ht
  obtain ⟨e1, e2, e3, e4, e5⟩ := enter_ok _ _ d1
  have hsub : ∀ x ∈ rowT (gaveK (lk st i) t), x ∈ rowT (lk st i) := fun x hx => by
    show x ∈ (lk st i).row.map (·.1)
    rw [e3]
    exact List.mem_append.2 (.inr hx)
  have hin : ∀ x ∈ (enterL (mdel (lk st i).held t) (lk st i).row).1, x ∈ rowT (lk st i) := fun x hx => by
    show x ∈ (lk st i).row.map (·.1)
    rw [e3]
    exact List.mem_append.2 (.inl hx)
  have hkeys : ∀ x ∈ keys (gaveK (lk st i) t).held, x ∈ keys (lk st i).held ∨ x ∈ (enterL (mdel (lk st i).held t) (lk st i).row).1 := fun x hx => by
    have hx2 : x ∈ keys (enterL (mdel (lk st i).held t) (lk st i).row).2.1 := hx
    rw [e4] at hx2
    rcases List.mem_append.1 hx2 with hx2 | hx2
    · exact .inl (d4 x hx2)
    · exact .inr hx2
  refine ⟨inv_set h hi _ e1 e2 (fun t' ht' j hj1 hj2 hj3 => ?_) (fun t' ht' => ?_) (fun t' ht' => ?_), ?_, ?_⟩
  · by_cases e : j = i
    · rw [if_pos e] at hj3
      obtain ⟨p, hp, hp2⟩ := List.mem_map.1 hj3
      exact e1.apart p hp (hp2 ▸ ht')
    · rw [if_neg e] at hj3
      rcases hkeys t' ht' with q | q
      · exact (h.wait j t' hj2 hj3).1 i hj1 hi q
      · exact e ((h.wait i t' hi (hin t' q)).2 j hj2 hj3)
  · obtain ⟨q1, q2⟩ := h.wait i t' hi (hsub t' ht')
    exact ⟨fun j h5 h6 => q1 j (by omega) h6, fun j h5 h6 h7 => h6 (q2 j h5 h7)⟩
  · rcases ht' with ht' | ht'
    · rcases hkeys t' ht' with q | q
      · exact h.rng i t' hi (.inl q)
      · exact h.rng i t' hi (.inr (hin t' q))
    · exact h.rng i t' hi (.inr (hsub t' ht'))
  · have h6 := tot_set st i (gaveK (lk st i) t) hi
    have h7 : (gaveK (lk st i) t).held.length + (gaveK (lk st i) t).row.length = (mdel (lk st i).held t).length + (lk st i).row.length := e5
    omega
  · unfold queue
    rw [lk_set hi]
    exact e3
theorem holds_mem {st : List Lk} {t : Int} {k : Nat} {p : Int × Bool} (h : p ∈ holdsTo st t k) : ∃ i, i < k ∧ p.1 = (i : Int) ∧ how (lk st i).held t ≠ 0 := by
  unfold holdsTo at h
  rw [List.mem_filterMap] at h
  obtain ⟨i, h1, h2⟩ := h
  split at h2
  · cases h2
  · next hh =>
    cases h2
    exact ⟨i, List.mem_range.1 h1, rfl, hh⟩
theorem reps_inv {N : Int} (n : Nat) : LInvN N (reps n) ∧ tot (reps n) = 0 := by
  have hl : ∀ i, lk (reps n) i = lk0 := fun i => by
    unfold lk reps
    rw [List.getD_eq_getElem?_getD, List.getElem?_replicate]
    split <;> rfl
  refine ⟨⟨fun i _ => ?_, fun i _ => ?_, fun i t _ ht => ?_, fun i t _ ht => ?_⟩, ?_⟩
  · rw [hl]
    exact ⟨by simp [keys, lk0], by simp [lk0], by simp [lk0], by simp [lk0], by simp [lk0]⟩
  · rw [hl]
    intro t w r e
    cases e
  · rw [hl] at ht
    cases ht
  · rw [hl] at ht
    rcases ht with ht | ht <;> cases ht
  · clear hl
    unfold tot reps
    induction n with
    | zero => rfl
    | succ n ih =>
      rw [List.replicate_succ, List.map_cons, List.sum_cons, ih]
      rfl
theorem waitsL_out {t : Int} : ∀ {st : List Lk} {j p : Nat} {w : Bool}, waitsL t j st = some (p, w) → ∃ q, p = j + q ∧ q < st.length ∧ t ∈ rowT (lk st q)
  | [], _, _, _, h => by cases h
  | a :: st, j, p, w, h => by
    unfold waitsL at h
    split at h
    · next x hx =>
      cases h
      have h1 := List.mem_of_find?_eq_some hx
      have h2 := List.find?_some hx
      refine ⟨0, rfl, Nat.succ_pos _, ?_⟩
      have h3 : x.1 = t := by simpa using h2
      exact List.mem_map.2 ⟨x, h1, h3⟩
    · obtain ⟨q, q1, q2, q3⟩ := waitsL_out h
      exact ⟨q + 1, by omega, Nat.succ_lt_succ q2, q3⟩
theorem waits_out {st : List Lk} {t : Int} {i : Nat} {w : Bool} (h : waits st t = some (i, w)) : i < st.length ∧ t ∈ rowT (lk st i) := by
  obtain ⟨q, q1, q2, q3⟩ := waitsL_out h
  rw [Nat.zero_add] at q1
  subst q1
  exact ⟨q2, q3⟩
end Go.Proofs.Ytckppkimjiifpaa
