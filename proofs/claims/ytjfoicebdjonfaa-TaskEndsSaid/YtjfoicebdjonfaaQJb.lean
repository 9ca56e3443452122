/- TaskEnds: jobs that go through their steps with locks; plain laws. No condition. -/
import Derived.Test.YtjfoicebdjonfaaQLz
import Derived.Test.YtjfoicebdjonfaaQJa
import Derived.Test.YtjfoicebdjonfaaQb2
set_option linter.unusedSectionVars false
set_option linter.unusedVariables false
set_option linter.unusedSimpArgs false
set_option linter.deprecated false
namespace Go.Proofs.Ytjfoicebdjonfaa
open Go.Cx Go.Am Go.Tsk
theorem how_mem {m : List (Int × Int)} {t a : Int} (nd : (keys m).Nodup) (h : (t, a) ∈ m) : how m t = a := by
  unfold how mfind
  induction m with
  | nil => cases h
  | cons p m ih =>
    unfold keys at nd
    rw [List.map_cons, List.nodup_cons] at nd
    rcases List.mem_cons.1 h with rfl | h
    · simp
    · have hne : ¬ p.1 = t := fun e => nd.1 (e ▸ List.mem_map.2 ⟨(t, a), h, rfl⟩)
      rw [List.find?_cons_of_neg (by simpa using hne)]
      exact ih nd.2 h
theorem how_abs {m : List (Int × Int)} {t : Int} (h : t ∉ keys m) : how m t = 0 := by
  unfold how
  rw [mfind_abs h]
  rfl
theorem how_snoc {m : List (Int × Int)} {t v : Int} (h : t ∉ keys m) : how (m ++ [(t, v)]) t = v := by
  unfold how mfind
  rw [List.find?_append, List.find?_eq_none.2 (fun p hp e => h (List.mem_map.2 ⟨p, hp, by simpa using e⟩))]
  simp
theorem how_snoc' {m : List (Int × Int)} {t x v : Int} (h : x ≠ t) : how (m ++ [(x, v)]) t = how m t := by
  unfold how mfind
  rw [List.find?_append, List.find?_cons_of_neg (by simpa using h), List.find?_nil, Option.or_none]
theorem how_hold {m : List (Int × Int)} {t x : Int} (w : Bool) (hx : x ∉ keys m) : how (holdM m x w) t = if t = x then (if w then 2 else 1) else how m t := by
  rw [holdM_abs w hx]
  by_cases e : t = x
  · subst e
    rw [how_snoc hx, if_pos rfl]
  · rw [how_snoc' (fun h => e h.symm), if_neg e]
theorem how_del {m : List (Int × Int)} {row : List (Int × Bool)} {t x : Int} (h : LkOk m row) (hx : x ∈ keys m) : how (mdel m x) t = if t = x then 0 else how m t := by
  obtain ⟨d1, d2, d3, d4⟩ := mdel_ok h hx
  by_cases e : t = x
  · subst e
    rw [if_pos rfl]
    exact how_abs d2
  · rw [if_neg e]
    by_cases ht : t ∈ keys m
    · obtain ⟨a, h1, _⟩ := find_idx (m := m) ht
      have hm := List.mem_of_getElem? h1
      rw [how_mem h.nd hm]
      refine how_mem d1.nd ?_
      obtain ⟨b, h2, _⟩ := find_idx (m := m) hx
      have e2 : mdel m x = m.eraseIdx ((m.map (·.1)).idxOf x) := by
        unfold mdel kAt
        rw [if_pos (show x ∈ m.map (·.1) from hx)]
      have hp := (perm_erase h2).mem_iff.1 hm
      rw [← e2] at hp
      rcases List.mem_cons.1 hp with hp | hp
      · exact absurd (congrArg Prod.fst hp) e
      · exact hp
    · rw [how_abs ht, how_abs (fun hk => ht (d4 t hk))]
theorem enter_how : ∀ (row : List (Int × Bool)) (m : List (Int × Int)), LkOk m row → ∃ ins : List (Int × Bool), row = ins ++ (enterL m row).2.2 ∧ (∀ t w, (t, w) ∈ ins → how (enterL m row).2.1 t = if w then 2 else 1) ∧ ∀ t, t ∉ ins.map (·.1) → how (enterL m row).2.1 t = how m t
  | [], m, h => ⟨[], rfl, ⟨fun t w hh => (by cases hh), fun t _ => rfl⟩⟩
  | (x, v) :: r, m, h => by
    unfold enterL
    by_cases hf : fitsB m v = true
    · rw [if_pos hf]
      obtain ⟨h1, h2, h3⟩ := hold_ok h hf
      obtain ⟨ins, i1, i2, i3⟩ := enter_how r (holdM m x v) h1
      have hx : x ∉ keys m := h.apart (x, v) List.mem_cons_self
      have hxr : x ∉ r.map (·.1) := by
        have := h.rnd
        rw [List.map_cons, List.nodup_cons] at this
        exact this.1
      have hxi : x ∉ ins.map (·.1) := fun hh => hxr (by rw [i1, List.map_append]; exact List.mem_append.2 (.inl hh))
      refine ⟨(x, v) :: ins, by simp only [List.cons_append]; rw [← i1], fun t w hh => ?_, fun t ht => ?_⟩
      · rcases List.mem_cons.1 hh with hh | hh
        · cases hh
          rw [i3 x hxi, how_hold v hx, if_pos rfl]
        · exact i2 t w hh
      · rw [List.map_cons, List.mem_cons, not_or] at ht
        rw [i3 t ht.2, how_hold v hx, if_neg ht.1]
    · rw [if_neg hf]
      exact ⟨[], rfl, ⟨fun t w hh => (by cases hh), fun t _ => rfl⟩⟩
/-- What a task holds of a lock. -/
def hK (K : Lk) (t : Int) (i : Nat) : List (Int × Bool) := if how K.held t = 0 then [] else [((i : Int), decide (how K.held t = 2))]
def hRest (st : List Lk) (t : Int) (i : Nat) : List (Int × Bool) := (List.range' (i + 1) (st.length - (i + 1))).filterMap fun i => if how (lk st i).held t = 0 then none else some ((i : Int), decide (how (lk st i).held t = 2))
theorem holds_split (st : List Lk) (t : Int) {i : Nat} (hi : i < st.length) : holds st t = holdsTo st t i ++ hK (lk st i) t i ++ hRest st t i := by
  have e : List.range st.length = List.range (i + 1) ++ List.range' (i + 1) (st.length - (i + 1)) := by
    have := List.range'_append_1 (s := 0) (m := i + 1) (n := st.length - (i + 1))
    rw [Nat.zero_add] at this
    rw [List.range_eq_range', List.range_eq_range', this]
    congr 1
    omega
  have h1 : holds st t = holdsTo st t (i + 1) ++ hRest st t i := by
    unfold holds
    unfold holdsTo
    rw [e, List.filterMap_append]
    rfl
  rw [h1, holdsTo_succ]
  rfl
theorem filterMap_eq {α β : Type} {f g : α → Option β} : ∀ {l : List α}, (∀ x ∈ l, f x = g x) → l.filterMap f = l.filterMap g
  | [], _ => rfl
  | a :: l, h => by rw [List.filterMap_cons, List.filterMap_cons, h a (by simp), filterMap_eq fun x hx => h x (by simp [hx])]
theorem holds_set {st : List Lk} {i : Nat} (hi : i < st.length) (K : Lk) (t : Int) : holds (st.set i K) t = holdsTo st t i ++ hK K t i ++ hRest st t i := by
  rw [holds_split (st.set i K) t (i := i) (by rw [List.length_set]; exact hi), lk_set hi]
  congr 1
  · congr 1
    unfold holdsTo
    refine filterMap_eq fun j hj => ?_
    have := List.mem_range.1 hj
    rw [lk_set_ne (by omega)]
  · unfold hRest
    rw [List.length_set]
    refine filterMap_eq fun j hj => ?_
    have := List.mem_range'_1.1 hj
    rw [lk_set_ne (by omega)]
theorem holds_same {st : List Lk} {i : Nat} (hi : i < st.length) (K : Lk) (t : Int) (h : how K.held t = how (lk st i).held t) : holds (st.set i K) t = holds st t := by
  rw [holds_set hi, holds_split st t hi]
  unfold hK
  rw [h]
theorem rest_nil {st : List Lk} {i : Nat} {t : Int} (h : laterNo st t i) : hRest st t i = [] := by
  unfold hRest
  rw [List.filterMap_eq_nil_iff]
  intro j hj
  have := List.mem_range'_1.1 hj
  rw [if_pos (h j (by omega) (by omega))]
theorem holds_grow {st : List Lk} {i : Nat} (hi : i < st.length) (K : Lk) (t : Int) (w : Bool) (h0 : how (lk st i).held t = 0) (hl : laterNo st t i) (h : how K.held t = if w then 2 else 1) : holds (st.set i K) t = holds st t ++ [((i : Int), w)] := by
  rw [holds_set hi, holds_split st t hi, rest_nil hl]
  unfold hK
  rw [if_pos h0, h]
  cases w <;> simp
theorem holdsTo_lt {st : List Lk} {t : Int} {k : Nat} {p : Int × Bool} (h : p ∈ holdsTo st t k) : p.1 < k := by
  obtain ⟨i, h1, h2, _⟩ := holds_mem h
  omega
theorem idl_at {x : Int} {b : Bool} : ∀ (A B : List (Int × Bool)) (i : Int), (∀ p ∈ A, ¬ p.1 = x) → idl x (A ++ (x, b) :: B) i = i + A.length
  | [], B, i, _ => by simp [idl]
  | p :: A, B, i, h => by
    show idl x (p :: (A ++ (x, b) :: B)) i = _
    unfold idl
    rw [if_neg (h p (by simp)), idl_at A B (i + 1) fun r hr => h r (by simp [hr])]
    simp
    omega
theorem holds_gone {st : List Lk} {i : Nat} (hi : i < st.length) (K : Lk) (t : Int) (w : Bool) (h0 : how (lk st i).held t ≠ 0) (h : how K.held t = 0) : stp (holds st t) (4, (i : Int), w) = some (holds (st.set i K) t) := by
  rw [holds_set hi, holds_split st t hi]
  unfold hK
  rw [if_neg h0, if_pos h, List.append_nil, List.append_assoc, List.singleton_append]
  unfold stp
  rw [if_neg (by show ¬ (4 : Int) = 2; decide), if_pos rfl]
  simp only
  rw [idl_at _ _ 0 (fun p hp e => by have := holdsTo_lt hp; omega), if_neg (by omega), Int.zero_add, Int.toNat_natCast]
  rw [List.eraseIdx_append_of_length_le (Nat.le_refl _), Nat.sub_self]
  rfl
theorem holdsTo_pw (st : List Lk) (t : Int) : ∀ k, PW (holdsTo st t k)
  | 0 => by unfold PW holdsTo; simp
  | k + 1 => by
    have ih := holdsTo_pw st t k
    unfold PW at ih ⊢
    rw [holdsTo_succ, List.pairwise_append]
    refine ⟨ih, ?_, fun a ha b hb => ?_⟩
    · split <;> simp
    · have := holdsTo_lt ha
      split at hb
      · cases hb
      · rw [List.mem_singleton.1 hb]
        exact this
theorem pw_below {h : List Nd} (hp : PW h) {x : Int} (h0 : ¬ (0 < h.length ∧ x ≤ (gt h (h.length - 1)).1)) : ∀ p ∈ h, p.1 < x := by
  intro p hpm
  obtain ⟨i, hi, rfl⟩ := List.getElem_of_mem hpm
  have hl : (gt h (h.length - 1)).1 < x := by
    rcases Int.lt_or_le (gt h (h.length - 1)).1 x with q | q
    · exact q
    · exact absurd ⟨by omega, q⟩ h0
  by_cases e : i = h.length - 1
  · rw [gt_eq (by omega)] at hl
    simp only [← e] at hl
    exact hl
  · unfold PW at hp
    have := List.pairwise_iff_getElem.1 hp i (h.length - 1) hi (by omega) (by omega)
    rw [gt_eq (by omega)] at hl
    omega
theorem holds_in {st : List Lk} {t : Int} {j : Nat} (hj : j < st.length) (h : how (lk st j).held t ≠ 0) : ((j : Int), decide (how (lk st j).held t = 2)) ∈ holds st t := by
  rw [holds_split st t hj]
  unfold hK
  rw [if_neg h]
  simp
/-- A lock that a task may ask for. -/
theorem ask_free {st : List Lk} {t x : Int} {w : Bool} {h' : List Nd} (h : stp (holds st t) (2, x, w) = some h') : (0 ≤ x ∧ x < 67) ∧ h' = holds st t ++ [(x, w)] ∧ ∀ j, x.toNat ≤ j → j < st.length → how (lk st j).held t = 0 := by
  unfold stp at h
  rw [if_pos rfl] at h
  simp only at h
  split at h
  · cases h
  · next hc =>
    rw [not_or] at hc
    have hk : kn x = true := by simpa using hc.1
    have hk := of_decide_eq_true hk
    refine ⟨hk, (Option.some.inj h).symm, fun j h1 h2 => Classical.byContradiction fun c => ?_⟩
    have := pw_below (holdsTo_pw st t st.length) hc.2 _ (holds_in h2 c)
    simp only at this
    omega
theorem waitsL_congr {t : Int} : ∀ {st st' : List Lk} {j : Nat}, st.map (·.row) = st'.map (·.row) → waitsL t j st = waitsL t j st'
  | [], [], _, _ => rfl
  | [], _ :: _, _, h => by cases h
  | _ :: _, [], _, h => by cases h
  | a :: st, b :: st', j, h => by
    rw [List.map_cons, List.map_cons, List.cons.injEq] at h
    unfold waitsL
    rw [h.1, waitsL_congr h.2]
theorem waits_rows {st : List Lk} {i : Nat} (hi : i < st.length) (K : Lk) (h : K.row = (lk st i).row) (t : Int) : waits (st.set i K) t = waits st t := by
  unfold waits
  refine waitsL_congr ?_
  rw [List.map_set, h, lk_get hi]
  apply List.ext_getElem?
  intro q
  rw [List.getElem?_set]
  split
  · next e => subst e; simp [hi]
  · rfl
theorem rowT_in {k : Lk} {t : Int} {w : Bool} (h : (t, w) ∈ k.row) : t ∈ rowT k := List.mem_map.2 ⟨_, h, rfl⟩
theorem waitsL_mem {t : Int} : ∀ {st : List Lk} {j p : Nat} {w : Bool}, waitsL t j st = some (p, w) → ∃ q, p = j + q ∧ q < st.length ∧ (t, w) ∈ (lk st q).row
  | [], _, _, _, h => by cases h
  | a :: st, j, p, w, h => by
    unfold waitsL at h
    split at h
    · next x hx =>
      cases h
      have h1 := List.mem_of_find?_eq_some hx
      have h2 := List.find?_some hx
      refine ⟨0, rfl, Nat.succ_pos _, ?_⟩
      have h3 : x.1 = t := by simpa using h2
      show (t, x.2) ∈ a.row
      rw [← h3]
      exact h1
    · obtain ⟨q, q1, q2, q3⟩ := waitsL_mem h
      exact ⟨q + 1, by omega, Nat.succ_lt_succ q2, q3⟩
theorem waits_mem {st : List Lk} {t : Int} {i : Nat} {w : Bool} (h : waits st t = some (i, w)) : i < st.length ∧ (t, w) ∈ (lk st i).row := by
  obtain ⟨q, q1, q2, q3⟩ := waitsL_mem h
  rw [Nat.zero_add] at q1
  subst q1
  exact ⟨q2, q3⟩
theorem row_uniq : ∀ {row : List (Int × Bool)} {t : Int} {w w' : Bool}, (row.map (·.1)).Nodup → (t, w) ∈ row → (t, w') ∈ row → w = w'
  | [], _, _, _, _, h, _ => by cases h
  | (x, v) :: r, t, w, w', hn, h, h' => by
    rw [List.map_cons, List.nodup_cons] at hn
    rcases List.mem_cons.1 h with h | h <;> rcases List.mem_cons.1 h' with h' | h'
    · cases h; cases h'; rfl
    · cases h
      exact absurd (List.mem_map.2 ⟨_, h', rfl⟩) hn.1
    · cases h'
      exact absurd (List.mem_map.2 ⟨_, h, rfl⟩) hn.1
    · exact row_uniq hn.2 h h'
theorem waits_is {N : Int} {st : List Lk} (hI : LInvN N st) {t : Int} {i : Nat} {w : Bool} (hi : i < st.length) (h : (t, w) ∈ (lk st i).row) : waits st t = some (i, w) := by
  cases hw : waits st t with
  | none => exact absurd (rowT_in h) (waits_no hw i hi)
  | some q =>
    obtain ⟨j, w'⟩ := q
    obtain ⟨hj, hr⟩ := waits_mem hw
    have e := (hI.wait i t hi (rowT_in h)).2 j hj (rowT_in hr)
    subst e
    rw [row_uniq (hI.ok j hj).rnd h hr]
theorem fH_pre {l : List Stp} {h : List Nd} (ha : fH l [] = some h) (a : Nat) : ∃ h', fH (l.take a) [] = some h' := by
  rw [← List.take_append_drop a l, fH_app] at ha
  cases hc : fH (l.take a) [] with
  | none => rw [hc] at ha; cases ha
  | some x => exact ⟨x, rfl⟩
theorem fH_one (s : Stp) (h : List Nd) : fH [s] h = stp h s := by
  unfold fH
  simp only [List.foldlM_cons, List.foldlM_nil]
  cases stp h s <;> rfl
theorem fH_next {l : List Stp} {a : Nat} (h : a < l.length) : fH (l.take (a + 1)) [] = (fH (l.take a) []).bind fun x => stp x (gt l a) := by
  rw [take_gt h, fH_app]
  congr 1
  funext x
  exact fH_one _ _
/-- How a task stands in its steps. -/
structure Job1 (st : List Lk) (t : Int) (l : List Stp) (a : Nat) : Prop where
  all : fH l [] = some []
  le : a ≤ l.length
  no : waits st t = none → fH (l.take a) [] = some (holds st t)
  yes : ∀ k w, waits st t = some (k, w) → 0 < a ∧ gt l (a - 1) = (2, (k : Int), w) ∧ fH (l.take (a - 1)) [] = some (holds st t)
theorem Job1.same {st st' : List Lk} {t : Int} {l : List Stp} {a : Nat} (h : Job1 st t l a) (h1 : waits st' t = waits st t) (h2 : holds st' t = holds st t) : Job1 st' t l a :=
  ⟨h.all, h.le, by rw [h1, h2]; exact h.no, by rw [h1, h2]; exact h.yes⟩
noncomputable def stepS (st : List Lk) (t : Int) (s : Stp) : List Lk := if s.1 = 2 then askS st t s.2.1.toNat s.2.2 else if s.1 = 4 then giveS st t s.2.1.toNat else st
theorem stepS_len (st : List Lk) (t : Int) (s : Stp) : (stepS st t s).length = st.length := by
  unfold stepS
  split
  · exact askS_len ..
  · split
    · exact giveS_len ..
    · rfl
/-- A task's next step: it is not refused, and all tasks stand in their steps behind it. -/
theorem step_ok {N : Int} {st : List Lk} (hI : LInvN N st) (hl : st.length = 67) {t : Int} (htN : 0 ≤ t ∧ t < N) {l : List Stp} {a : Nat} (hJ : Job1 st t l a) (ha : a < l.length) (hw : waits st t = none) :
    ((gt l a).1 = 2 → (0 ≤ (gt l a).2.1 ∧ (gt l a).2.1 < 67) ∧ how (lk st (gt l a).2.1.toNat).held t = 0 ∧ laterNo st t (gt l a).2.1.toNat) ∧
    ((gt l a).1 = 4 → (0 ≤ (gt l a).2.1 ∧ (gt l a).2.1 < 67) ∧ how (lk st (gt l a).2.1.toNat).held t ≠ 0) ∧
    LInvN N (stepS st t (gt l a)) ∧ tot (stepS st t (gt l a)) ≤ tot st + 1 ∧ Job1 (stepS st t (gt l a)) t l (a + 1) ∧
    ∀ t' l' a', t' ≠ t → Job1 st t' l' a' → Job1 (stepS st t (gt l a)) t' l' a' := by
  obtain ⟨h', hp⟩ := fH_pre hJ.all (a + 1)
  rw [fH_next ha, hJ.no hw, Option.bind_some] at hp
  have hp2 : fH (l.take (a + 1)) [] = some h' := by rw [fH_next ha, hJ.no hw, Option.bind_some]; exact hp
  obtain ⟨⟨k, x, w⟩, hg⟩ : ∃ s : Stp, gt l a = s := ⟨_, rfl⟩
  rw [hg] at hp ⊢
  unfold stepS
  simp only
  by_cases k2 : k = 2
  · subst k2
    obtain ⟨hx, rfl, hfree⟩ := ask_free hp
    obtain ⟨i, rfl⟩ := Int.eq_ofNat_of_zero_le hx.1
    rw [Int.toNat_natCast] at hfree ⊢
    have hi : i < st.length := by omega
    have hh := hfree i (Nat.le_refl _) hi
    have hln : laterNo st t i := fun j h1 h2 => hfree j (by omega) h2
    have hin := ask_inv hI w hi htN
    refine ⟨fun _ => ⟨hx, hh, hln⟩, fun e => absurd e (by decide), ?_⟩
    rw [if_pos rfl]
    refine ⟨hin.1, hin.2, ?_⟩
    have hno := waits_no hw
    unfold askS at hin ⊢
    rw [if_neg (by rw [hw, hh]; simp), if_neg (Classical.not_not.2 hln)] at hin ⊢
    by_cases hc : (lk st i).row = [] ∧ fitsB (lk st i).held w = true
    · rw [if_pos hc] at hin ⊢
      have hk : t ∉ keys (lk st i).held := (how_zero (hI.ok i hi).val t).1 hh
      have hwr : ∀ t', waits (st.set i ⟨holdM (lk st i).held t w, (lk st i).row⟩) t' = waits st t' := waits_rows hi _ rfl
      refine ⟨⟨hJ.all, ha, fun _ => ?_, fun k' w' hh' => ?_⟩, fun t' l' a' hne hJ' => ?_⟩
      · rw [hp2, holds_grow hi _ t w hh hln (by simp only; rw [how_hold w hk, if_pos rfl])]
      · rw [hwr, hw] at hh'; cases hh'
      · exact hJ'.same (hwr t') (holds_same hi _ t' (by simp only; rw [how_hold w hk, if_neg hne]))
    · rw [if_neg hc] at hin ⊢
      have hs : ∀ t', holds (st.set i ⟨(lk st i).held, (lk st i).row ++ [(t, w)]⟩) t' = holds st t' := fun t' => holds_same hi _ t' rfl
      have hi2 : i < (st.set i ⟨(lk st i).held, (lk st i).row ++ [(t, w)]⟩).length := by rw [List.length_set]; exact hi
      have hwt : waits (st.set i ⟨(lk st i).held, (lk st i).row ++ [(t, w)]⟩) t = some (i, w) := waits_is hin.1 hi2 (by rw [lk_set hi]; simp)
      refine ⟨⟨hJ.all, ha, fun hh' => ?_, fun k' w' hh' => ?_⟩, fun t' l' a' hne hJ' => ?_⟩
      · rw [hwt] at hh'; cases hh'
      · rw [hwt] at hh'
        cases hh'
        refine ⟨Nat.succ_pos _, by rw [Nat.add_sub_cancel]; exact hg, ?_⟩
        rw [Nat.add_sub_cancel, hs]
        exact hJ.no hw
      · refine hJ'.same ?_ (hs t')
        cases hq : waits st t' with
        | none =>
          refine waits_no' fun j hj hjt => ?_
          rw [List.length_set] at hj
          by_cases e : i = j
          · subst e
            rw [lk_set hi] at hjt
            unfold rowT at hjt
            rw [List.map_append, List.mem_append] at hjt
            rcases hjt with hjt | hjt
            · exact waits_no hq i hi hjt
            · simp at hjt
              exact hne hjt
          · rw [lk_set_ne e] at hjt
            exact waits_no hq j hj hjt
        | some q =>
          obtain ⟨j, v⟩ := q
          obtain ⟨hj, hr⟩ := waits_mem hq
          refine waits_is hin.1 (by rw [List.length_set]; exact hj) ?_
          by_cases e : i = j
          · subst e
            rw [lk_set hi]
            exact List.mem_append.2 (.inl hr)
          · rw [lk_set_ne e]
            exact hr
  · rw [if_neg k2]
    by_cases k4 : k = 4
    · subst k4
      rw [if_pos rfl]
      have hx : ∃ i : Nat, i < st.length ∧ x = (i : Int) ∧ how (lk st i).held t ≠ 0 := by
        unfold stp at hp
        rw [if_neg (by show ¬ (4 : Int) = 2; decide), if_pos rfl] at hp
        simp only at hp
        split at hp
        · cases hp
        · next hc =>
          rcases idl_in (x := x) (holds st t) 0 with h | ⟨q, q1, q2, q3⟩
          · rw [Int.ofNat_zero] at h
            omega
          · obtain ⟨i, i1, i2, _, i4⟩ := holds_out (gt_mem q1)
            exact ⟨i, i1, by rw [← i2]; exact q3.symm, i4⟩
      obtain ⟨i, hi, rfl, hh⟩ := hx
      rw [Int.toNat_natCast]
      have hk : t ∈ keys (lk st i).held := Classical.byContradiction fun c => hh (how_abs c)
      obtain ⟨hin, htt, _⟩ := gave_inv hI hi hk
      refine ⟨fun e => absurd e (by decide), fun _ => ⟨⟨by omega, by omega⟩, hh⟩, ?_⟩
      unfold giveS
      rw [if_neg hh]
      refine ⟨hin, by omega, ?_⟩
      obtain ⟨d1, d2, d3, d4⟩ := mdel_ok (hI.ok i hi) hk
      obtain ⟨ins, r1, r2, r3⟩ := enter_how _ _ d1
      have hno := waits_no hw
      have hin' : ∀ t', t' ∈ ins.map (·.1) → t' ∈ rowT (lk st i) := fun t' q => by
        unfold rowT
        rw [r1, List.map_append]
        exact List.mem_append.2 (.inl q)
      have hsub : ∀ t' v, (t', v) ∈ (gaveK (lk st i) t).row → (t', v) ∈ (lk st i).row := fun t' v q => by
        rw [r1]
        exact List.mem_append.2 (.inr q)
      have hown : how (gaveK (lk st i) t).held t = 0 := by
        show how (enterL _ _).2.1 t = 0
        rw [r3 t (fun q => hno i hi (hin' t q)), how_del (hI.ok i hi) hk, if_pos rfl]
      have wNo : ∀ t', (∀ j, j < st.length → j ≠ i → t' ∉ rowT (lk st j)) → t' ∉ rowT (gaveK (lk st i) t) → waits (st.set i (gaveK (lk st i) t)) t' = none := fun t' q1 q2 => by
        refine waits_no' fun j hj hjt => ?_
        rw [List.length_set] at hj
        by_cases e : i = j
        · subst e
          rw [lk_set hi] at hjt
          exact q2 hjt
        · rw [lk_set_ne e] at hjt
          exact q1 j hj (fun q => e q.symm) hjt
      have hsubT : ∀ t', t' ∈ rowT (gaveK (lk st i) t) → t' ∈ rowT (lk st i) := fun t' q => by
        obtain ⟨p, p1, p2⟩ := List.mem_map.1 q
        exact List.mem_map.2 ⟨p, hsub p.1 p.2 p1, p2⟩
      have hold' : ∀ t', t' ≠ t → t' ∉ ins.map (·.1) → holds (st.set i (gaveK (lk st i) t)) t' = holds st t' := fun t' hne q => by
        refine holds_same hi _ t' ?_
        show how (enterL _ _).2.1 t' = _
        rw [r3 t' q, how_del (hI.ok i hi) hk, if_neg hne]
      refine ⟨⟨hJ.all, ha, fun _ => ?_, fun k' w' hh' => ?_⟩, fun t' l' a' hne hJ' => ?_⟩
      · rw [hp2, ← hp, holds_gone hi _ t w hh hown]
      · rw [wNo t (fun j hj _ => hno j hj) (fun q => hno i hi (hsubT t q))] at hh'
        cases hh'
      · cases hq : waits st t' with
        | none =>
          have hn := waits_no hq
          exact hJ'.same (by rw [hq]; exact wNo t' (fun j hj _ => hn j hj) (fun q => hn i hi (hsubT t' q))) (hold' t' hne (fun q => hn i hi (hin' t' q)))
        | some q =>
          obtain ⟨j, v⟩ := q
          obtain ⟨hj, hr⟩ := waits_mem hq
          by_cases e : i = j
          · subst e
            have hr2 := hr
            rw [r1] at hr2
            have hnd := (hI.ok i hi).rnd
            rw [r1, List.map_append, List.nodup_append] at hnd
            rcases List.mem_append.1 hr2 with hr2 | hr2
            · have hti : t' ∈ ins.map (·.1) := List.mem_map.2 ⟨_, hr2, rfl⟩
              have hu := hI.wait i t' hi (rowT_in hr)
              have hz : how (lk st i).held t' = 0 := how_abs (hu.1 i (Nat.le_refl _) hi)
              have hg2 := holds_grow hi (gaveK (lk st i) t) t' v hz (fun j h1 h2 => how_abs (hu.1 j (by omega) h2)) (r2 t' v hr2)
              have hwn := wNo t' (fun j hj hji q => hji (hu.2 j hj q)) (fun q => hnd.2.2 t' hti t' q rfl)
              obtain ⟨y1, y2, y3⟩ := hJ'.yes i v hq
              refine ⟨hJ'.all, hJ'.le, fun _ => ?_, fun k' w' hh' => ?_⟩
              · have hle := hJ'.le
                obtain ⟨h2, hp3⟩ := fH_pre hJ'.all a'
                have e1 : a' = a' - 1 + 1 := by omega
                rw [e1, fH_next (by omega), y3, Option.bind_some, y2] at hp3
                have hp4 := hp3
                obtain ⟨_, hp5, _⟩ := ask_free hp3
                rw [e1, fH_next (by omega), y3, Option.bind_some, y2, hp4, hp5, hg2]
              · rw [hwn] at hh'; cases hh'
            · refine hJ'.same ?_ (hold' t' hne fun q => hnd.2.2 t' q t' (List.mem_map.2 ⟨_, hr2, rfl⟩) rfl)
              rw [hq]
              exact waits_is hin (by rw [List.length_set]; exact hi) (by rw [lk_set hi]; exact hr2)
          · refine hJ'.same ?_ (hold' t' hne fun q => e ((hI.wait j t' hj (rowT_in hr)).2 i hi (hin' t' q)))
            rw [hq]
            exact waits_is hin (by rw [List.length_set]; exact hj) (by rw [lk_set_ne e]; exact hr)
    · rw [if_neg k4]
      refine ⟨fun e => absurd e k2, fun e => absurd e k4, hI, by omega, ⟨hJ.all, ha, fun _ => ?_, fun k' w' hh' => ?_⟩, fun _ _ _ _ h => h⟩
      · rw [hp2]
        unfold stp at hp
        simp only at hp
        rw [if_neg k2, if_neg k4] at hp
        split at hp
        · split at hp
          · cases hp
          · rw [← hp]
        · cases hp
      · rw [hw] at hh'; cases hh'
abbrev Rws := List (List Stp × Nat)
def rwAt (rw : Rws) (i : Nat) : List Stp × Nat := rw.getD i ([], 0)
structure Jobs (st : List Lk) (rw : Rws) : Prop where
  len : st.length = 67
  inv : LInvN rw.length st
  job : ∀ i : Nat, i < rw.length → Job1 st (i : Int) (rwAt rw i).1 (rwAt rw i).2
/-- Steps that are left. -/
def left (rw : Rws) : Nat := (rw.map fun r => r.1.length - r.2).sum
def canB (st : List Lk) (rw : Rws) (i : Nat) : Bool := decide ((rwAt rw i).2 < (rwAt rw i).1.length) && (waits st i).isNone
def canTo (st : List Lk) (rw : Rws) (k : Nat) : List Int := ((List.range k).filter (canB st rw)).map fun i : Nat => (i : Int)
theorem left_some : ∀ {rw : Rws}, 0 < left rw → ∃ i, i < rw.length ∧ (rwAt rw i).2 < (rwAt rw i).1.length
  | [], h => by simp [left] at h
  | r :: rw, h => by
    by_cases e : r.2 < r.1.length
    · exact ⟨0, Nat.succ_pos _, e⟩
    · have h2 : 0 < left rw := by
        simp only [left, List.map_cons, List.sum_cons] at h ⊢
        omega
      obtain ⟨i, h3, h4⟩ := left_some h2
      exact ⟨i + 1, Nat.succ_lt_succ h3, h4⟩
theorem left_none : ∀ {rw : Rws}, left rw = 0 → ∀ i, i < rw.length → (rwAt rw i).1.length ≤ (rwAt rw i).2
  | [], _, i, hi => by simp at hi
  | r :: rw, h, i, hi => by
    simp only [left, List.map_cons, List.sum_cons] at h
    cases i with
    | zero => show r.1.length ≤ r.2; omega
    | succ i => exact left_none (rw := rw) (by simp only [left]; omega) i (by simpa using hi)
theorem rwAt_set {rw : Rws} {i : Nat} (hi : i < rw.length) (r : List Stp × Nat) (j : Nat) : rwAt (rw.set i r) j = if i = j then r else rwAt rw j := by
  unfold rwAt
  rw [List.getD_eq_getElem?_getD, List.getElem?_set]
  split
  · next e => subst e; simp [hi]
  · rw [← List.getD_eq_getElem?_getD]
theorem left_set : ∀ {rw : Rws} {i : Nat}, i < rw.length → (rwAt rw i).2 < (rwAt rw i).1.length → left (rw.set i ((rwAt rw i).1, (rwAt rw i).2 + 1)) + 1 = left rw
  | [], i, hi, _ => by simp at hi
  | r :: rw, 0, hi, h => by
    change r.2 < r.1.length at h
    show left ((r.1, r.2 + 1) :: rw) + 1 = _
    simp only [left, List.map_cons, List.sum_cons]
    omega
  | r :: rw, i + 1, hi, h => by
    have ih := left_set (rw := rw) (i := i) (by simpa using hi) h
    show left (r :: rw.set i _) + 1 = _
    simp only [left, List.map_cons, List.sum_cons] at ih ⊢
    change ((rw.set i ((rwAt rw i).1, (rwAt rw i).2 + 1)).map _).sum + 1 = _ at ih
    show _ + ((rw.set i ((rwAt rw i).1, (rwAt rw i).2 + 1)).map _).sum + 1 = _
    omega
theorem can_mem {st : List Lk} {rw : Rws} {x : Int} (h : x ∈ canTo st rw rw.length) : ∃ i : Nat, x = i ∧ i < rw.length ∧ (rwAt rw i).2 < (rwAt rw i).1.length ∧ waits st i = none := by
  unfold canTo at h
  obtain ⟨i, h1, rfl⟩ := List.mem_map.1 h
  rw [List.mem_filter] at h1
  obtain ⟨h2, h3⟩ := h1
  unfold canB at h3
  rw [Bool.and_eq_true, decide_eq_true_eq, Option.isNone_iff_eq_none] at h3
  exact ⟨i, rfl, List.mem_range.1 h2, h3.1, h3.2⟩
/-- No job waits for ever: where steps are left, one can go on. -/
theorem can_some {st : List Lk} {rw : Rws} (h : Jobs st rw) (hl : 0 < left rw) : canTo st rw rw.length ≠ [] := by
  intro e
  have hno : ∀ i, i < rw.length → (rwAt rw i).2 < (rwAt rw i).1.length → waits st i ≠ none := fun i h1 h2 h3 => by
    have : (i : Int) ∈ canTo st rw rw.length := by
      unfold canTo
      refine List.mem_map.2 ⟨i, List.mem_filter.2 ⟨List.mem_range.2 h1, ?_⟩, rfl⟩
      unfold canB
      rw [decide_eq_true h2, h3]
      rfl
    rw [e] at this
    cases this
  obtain ⟨i, h1, h2⟩ := left_some hl
  cases hw : waits st i with
  | none => exact hno i h1 h2 hw
  | some q =>
    obtain ⟨k, w⟩ := q
    obtain ⟨x, hx, hx2, hx3⟩ := waiter_end h.inv (st.length - k) (i : Int) k w hw (Nat.le_refl _)
    obtain ⟨j, rfl⟩ := Int.eq_ofNat_of_zero_le hx.1
    have hj : j < rw.length := by omega
    by_cases c : (rwAt rw j).2 < (rwAt rw j).1.length
    · exact hno j hj c hx2
    · have hJ := h.job j hj
      have h3 := hJ.no hx2
      rw [List.take_of_length_le (by omega), hJ.all] at h3
      exact hx3 (Option.some.inj h3).symm
/-- At the end nobody holds a lock. -/
theorem end_free {st : List Lk} {rw : Rws} (h : Jobs st rw) (hl : left rw = 0) : ∀ i, i < rw.length → (rwAt rw i).2 = (rwAt rw i).1.length ∧ holds st i = [] := by
  have ha := left_none hl
  have hz : ∀ j, j < rw.length → waits st j = none → holds st j = [] := fun j hj hw => by
    have hJ := h.job j hj
    have h3 := hJ.no hw
    rw [List.take_of_length_le (ha j hj), hJ.all] at h3
    exact (Option.some.inj h3).symm
  intro i hi
  have hle := (h.job i hi).le
  refine ⟨by have := ha i hi; omega, ?_⟩
  cases hw : waits st i with
  | none => exact hz i hi hw
  | some q =>
    obtain ⟨k, w⟩ := q
    obtain ⟨x, hx, hx2, hx3⟩ := waiter_end h.inv (st.length - k) (i : Int) k w hw (Nat.le_refl _)
    obtain ⟨j, rfl⟩ := Int.eq_ofNat_of_zero_le hx.1
    exact absurd (hz j (by omega) hx2) hx3
theorem jobs_step {st : List Lk} {rw : Rws} (h : Jobs st rw) {i : Nat} (hi : i < rw.length) (ha : (rwAt rw i).2 < (rwAt rw i).1.length) (hw : waits st i = none) :
    Jobs (stepS st i (gt (rwAt rw i).1 (rwAt rw i).2)) (rw.set i ((rwAt rw i).1, (rwAt rw i).2 + 1)) := by
  obtain ⟨_, _, s3, _, s5, s6⟩ := step_ok h.inv h.len (t := (i : Int)) ⟨by omega, by omega⟩ (h.job i hi) ha hw
  refine ⟨by rw [stepS_len]; exact h.len, by rw [List.length_set]; exact s3, fun j hj => ?_⟩
  rw [List.length_set] at hj
  rw [rwAt_set hi]
  split
  · next e => subst e; exact s5
  · next e => exact s6 j _ _ (by omega) (h.job j hj)
end Go.Proofs.Ytjfoicebdjonfaa
