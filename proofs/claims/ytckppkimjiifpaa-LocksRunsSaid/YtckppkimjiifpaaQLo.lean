/- Locks: what each holds and waits for, behind a lock that turned; plain laws. No condition. -/
import Derived.Test.YtckppkimjiifpaaQLk
import Derived.Test.YtckppkimjiifpaaQb1
set_option linter.unusedSectionVars false
set_option linter.unusedVariables false
set_option linter.unusedSimpArgs false
set_option linter.deprecated false
namespace Go.Proofs.Ytckppkimjiifpaa
open Go.Cx Go.Am
theorem holds_out {st : List Lk} {t : Int} {p : Int × Bool} (h : p ∈ holds st t) : ∃ i, i < st.length ∧ p.1 = (i : Int) ∧ p.2 = decide (how (lk st i).held t = 2) ∧ how (lk st i).held t ≠ 0 := by
  unfold holds holdsTo at h
  rw [List.mem_filterMap] at h
  obtain ⟨i, h1, h2⟩ := h
  split at h2
  · cases h2
  · next hh =>
    cases h2
    exact ⟨i, List.mem_range.1 h1, rfl, rfl, hh⟩
theorem how_in {m : List (Int × Int)} {t : Int} (h0 : how m t ≠ 0) : (t, how m t) ∈ m := by
  have hk : t ∈ keys m := Classical.byContradiction fun c => h0 (by
    unfold how
    rw [mfind_abs c]
    rfl)
  obtain ⟨a, h1, h2⟩ := find_idx (m := m) hk
  have : how m t = a := by unfold how mfind; rw [h2]; rfl
  rw [this]
  exact List.mem_of_getElem? h1
theorem how_mem {m : List (Int × Int)} {t a : Int} (nd : (keys m).Nodup) (h : (t, a) ∈ m) : how m t = a := by
  unfold how mfind
  induction m with
  | nil => cases h
  | cons p m ih =>
    unfold keys at nd
    rw [List.map_cons, List.nodup_cons] at nd
    rcases List.mem_cons.1 h with rfl | h
    · simp
    · have hne : ¬ p.1 = t := fun e => nd.1 (e ▸ List.mem_map.2 ⟨(t, a), h, rfl⟩)
      rw [List.find?_cons_of_neg (by simpa using hne)]
      exact ih nd.2 h
theorem how_abs {m : List (Int × Int)} {t : Int} (h : t ∉ keys m) : how m t = 0 := by
  unfold how
  rw [mfind_abs h]
  rfl
theorem how_snoc {m : List (Int × Int)} {t v : Int} (h : t ∉ keys m) : how (m ++ [(t, v)]) t = v := by
  unfold how mfind
  rw [List.find?_append, List.find?_eq_none.2 (fun p hp e => h (List.mem_map.2 ⟨p, hp, by simpa using e⟩))]
  simp
theorem how_snoc' {m : List (Int × Int)} {t x v : Int} (h : x ≠ t) : how (m ++ [(x, v)]) t = how m t := by
  unfold how mfind
  rw [List.find?_append, List.find?_cons_of_neg (by simpa using h), List.find?_nil, Option.or_none]
theorem how_hold {m : List (Int × Int)} {t x : Int} (w : Bool) (hx : x ∉ keys m) : how (holdM m x w) t = if t = x then (if w then 2 else 1) else how m t := by
  rw [holdM_abs w hx]
  by_cases e : t = x
  · subst e
    rw [how_snoc hx, if_pos rfl]
  · rw [how_snoc' (fun h => e h.symm), if_neg e]
theorem how_del {m : List (Int × Int)} {row : List (Int × Bool)} {t x : Int} (h : LkOk m row) (hx : x ∈ keys m) : how (mdel m x) t = if t = x then 0 else how m t := by
  obtain ⟨d1, d2, d3, d4⟩ := mdel_ok h hx
  by_cases e : t = x
  · subst e
    rw [if_pos rfl]
    exact how_abs d2
  · rw [if_neg e]
    by_cases ht : t ∈ keys m
    · obtain ⟨a, h1, _⟩ := find_idx (m := m) ht
      have hm := List.mem_of_getElem? h1
      rw [how_mem h.nd hm]
      refine how_mem d1.nd ?_
      obtain ⟨b, h2, _⟩ := find_idx (m := m) hx
      have e2 : mdel m x = m.eraseIdx ((m.map (·.1)).idxOf x) := by
        unfold mdel kAt
        rw [if_pos (show x ∈ m.map (·.1) from hx)]
      have hp := (perm_erase h2).mem_iff.1 hm
      rw [← e2] at hp
      rcases List.mem_cons.1 hp with hp | hp
      · exact absurd (congrArg Prod.fst hp) e
      · exact hp
    · rw [how_abs ht, how_abs (fun hk => ht (d4 t hk))]
/-- What a task holds of a lock. -/
def hK (K : Lk) (t : Int) (i : Nat) : List (Int × Bool) := if how K.held t = 0 then [] else [((i : Int), decide (how K.held t = 2))]
def hRest (st : List Lk) (t : Int) (i : Nat) : List (Int × Bool) := (List.range' (i + 1) (st.length - (i + 1))).filterMap fun i => if how (lk st i).held t = 0 then none else some ((i : Int), decide (how (lk st i).held t = 2))
theorem holds_split (st : List Lk) (t : Int) {i : Nat} (hi : i < st.length) : holds st t = holdsTo st t i ++ hK (lk st i) t i ++ hRest st t i := by
  have e : List.range st.length = List.range (i + 1) ++ List.range' (i + 1) (st.length - (i + 1)) := by
    have := List.range'_append_1 (s := 0) (m := i + 1) (n := st.length - (i + 1))
    rw [Nat.zero_add] at this
    rw [List.range_eq_range', List.range_eq_range', this]
    congr 1
    omega
  have h1 : holds st t = holdsTo st t (i + 1) ++ hRest st t i := by
    unfold holds
    unfold holdsTo
    rw [e, List.filterMap_append]
    rfl
  rw [h1, holdsTo_succ]
  rfl
theorem holdsTo_lt {st : List Lk} {t : Int} {k : Nat} {p : Int × Bool} (h : p ∈ holdsTo st t k) : p.1 < k := by
  obtain ⟨i, h1, h2, _⟩ := holds_mem h
  omega
theorem holds_in {st : List Lk} {t : Int} {j : Nat} (hj : j < st.length) (h : how (lk st j).held t ≠ 0) : ((j : Int), decide (how (lk st j).held t = 2)) ∈ holds st t := by
  rw [holds_split st t hj]
  unfold hK
  rw [if_neg h]
  simp
theorem rowT_in {k : Lk} {t : Int} {w : Bool} (h : (t, w) ∈ k.row) : t ∈ rowT k := List.mem_map.2 ⟨_, h, rfl⟩
theorem waitsL_mem {t : Int} : ∀ {st : List Lk} {j p : Nat} {w : Bool}, waitsL t j st = some (p, w) → ∃ q, p = j + q ∧ q < st.length ∧ (t, w) ∈ (lk st q).row
  | [], _, _, _, h => by cases h
  | a :: st, j, p, w, h => by
    unfold waitsL at h
    split at h
    · next x hx =>
      cases h
      have h1 := List.mem_of_find?_eq_some hx
      have h2 := List.find?_some hx
      refine ⟨0, rfl, Nat.succ_pos _, ?_⟩
      have h3 : x.1 = t := by simpa using h2
      show (t, x.2) ∈ a.row
      rw [← h3]
      exact h1
    · obtain ⟨q, q1, q2, q3⟩ := waitsL_mem h
      exact ⟨q + 1, by omega, Nat.succ_lt_succ q2, q3⟩
theorem waits_mem {st : List Lk} {t : Int} {i : Nat} {w : Bool} (h : waits st t = some (i, w)) : i < st.length ∧ (t, w) ∈ (lk st i).row := by
  obtain ⟨q, q1, q2, q3⟩ := waitsL_mem h
  rw [Nat.zero_add] at q1
  subst q1
  exact ⟨q2, q3⟩
theorem row_uniq : ∀ {row : List (Int × Bool)} {t : Int} {w w' : Bool}, (row.map (·.1)).Nodup → (t, w) ∈ row → (t, w') ∈ row → w = w'
  | [], _, _, _, _, h, _ => by cases h
  | (x, v) :: r, t, w, w', hn, h, h' => by
    rw [List.map_cons, List.nodup_cons] at hn
    rcases List.mem_cons.1 h with h | h <;> rcases List.mem_cons.1 h' with h' | h'
    · cases h; cases h'; rfl
    · cases h
      exact absurd (List.mem_map.2 ⟨_, h', rfl⟩) hn.1
    · cases h'
      exact absurd (List.mem_map.2 ⟨_, h, rfl⟩) hn.1
    · exact row_uniq hn.2 h h'
theorem waits_is {N : Int} {st : List Lk} (hI : LInvN N st) {t : Int} {i : Nat} {w : Bool} (hi : i < st.length) (h : (t, w) ∈ (lk st i).row) : waits st t = some (i, w) := by
  cases hw : waits st t with
  | none => exact absurd (rowT_in h) (waits_no hw i hi)
  | some q =>
    obtain ⟨j, w'⟩ := q
    obtain ⟨hj, hr⟩ := waits_mem hw
    have e := (hI.wait i t hi (rowT_in h)).2 j hj (rowT_in hr)
    subst e
    rw [row_uniq (hI.ok j hj).rnd h hr]
end Go.Proofs.Ytckppkimjiifpaa
