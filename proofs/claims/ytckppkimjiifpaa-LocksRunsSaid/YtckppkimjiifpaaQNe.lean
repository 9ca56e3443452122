/- LocksRuns: the locks and the reference's stand alike; plain laws. No condition. -/
import Derived.Test.YtckppkimjiifpaaQLo
import Derived.Test.YtckppkimjiifpaaQNd
import Derived.Test.YtckppkimjiifpaaQLx
import Derived.Test.YtckppkimjiifpaaQb1
set_option linter.unusedSectionVars false
set_option linter.unusedVariables false
set_option linter.unusedSimpArgs false
set_option linter.deprecated false
namespace Go.Proofs.Ytckppkimjiifpaa
open Go.Cx Go.Am
theorem eq_sorted {α : Type} {R : α → α → Prop} (irr : ∀ x, ¬ R x x) (asy : ∀ x y, R x y → R y x → False) {a b : List α} (ha : a.Pairwise R) (hb : b.Pairwise R) (h : ∀ x, x ∈ a ↔ x ∈ b) : a = b := by
  have na : a.Nodup := List.Pairwise.imp (S := fun x y => x ≠ y) (fun {x y} r e => irr x (by rw [← e] at r; exact r)) ha
  have nb : b.Nodup := List.Pairwise.imp (S := fun x y => x ≠ y) (fun {x y} r e => irr x (by rw [← e] at r; exact r)) hb
  exact List.Perm.eq_of_pairwise (fun x y _ _ h1 h2 => (asy x y h1 h2).elim) ha hb ((List.perm_ext_iff_of_nodup na nb).2 h)
/-- The reference's row of who holds, told by the locks. -/
structure RelH (n : Nat) (st : List Lk) (h : List One) : Prop where
  srt : h.Pairwise fun x y => ahd x y = true
  mem : ∀ t i w, (t, i, w) ∈ h ↔ ∃ k : Nat, i = (k : Int) ∧ k < n ∧ how (lk st k).held t = if w then 2 else 1
def rowOf (r : List One) (k : Int) : List (Int × Bool) := (r.filter fun x => decide (x.2.1 = k)).map fun x => (x.1, x.2.2)
structure Rel (n : Nat) (st : List Lk) (h r : List One) : Prop where
  len : st.length = n
  inv : LInvN 4096 st
  held : RelH n st h
  rows : ∀ k : Nat, k < n → rowOf r k = (lk st k).row
  rng : ∀ x ∈ r, ∃ k : Nat, x.2.1 = (k : Int) ∧ k < n
theorem ahd_iff {x y : One} : ahd x y = true ↔ x.1 < y.1 ∨ (x.1 = y.1 ∧ x.2.1 < y.2.1) := by
  unfold ahd
  simp
theorem ahd_no {x y : One} : ahd x y = false ↔ ¬ (x.1 < y.1 ∨ (x.1 = y.1 ∧ x.2.1 < y.2.1)) := by
  rw [← ahd_iff]
  simp
theorem ahd_trans {x y z : One} (h1 : ahd x y = true) (h2 : ahd y z = true) : ahd x z = true := by
  rw [ahd_iff] at *
  omega
theorem holdsTo_pw' (st : List Lk) (t : Int) : ∀ k, (holdsTo st t k).Pairwise fun a b => a.1 < b.1
  | 0 => by unfold holdsTo; simp
  | k + 1 => by
    have ih := holdsTo_pw' st t k
    rw [holdsTo_succ, List.pairwise_append]
    refine ⟨ih, ?_, fun a ha b hb => ?_⟩
    · split <;> simp
    · have := holdsTo_lt ha
      split at hb
      · cases hb
      · rw [List.mem_singleton.1 hb]
        exact this
theorem how12 {m : List (Int × Int)} (hv : ∀ p ∈ m, p.2 = 1 ∨ p.2 = 2) {t : Int} (h : how m t ≠ 0) : how m t = 1 ∨ how m t = 2 := hv _ (how_in h)
section
variable {n : Nat} {st : List Lk} {h r : List One}
theorem Rel.how_w (R : Rel n st h r) {k : Nat} (hk : k < n) {t : Int} (h0 : how (lk st k).held t ≠ 0) : how (lk st k).held t = if decide (how (lk st k).held t = 2) then 2 else 1 := by
  rcases how12 (R.inv.ok k (by rw [R.len]; exact hk)).val h0 with e | e <;> simp [e]
theorem mem_hsF {t : Int} {p : Int × Bool} : p ∈ hsF h t ↔ (t, p) ∈ h := by
  unfold hsF
  rw [List.mem_map]
  constructor
  · rintro ⟨x, hx, rfl⟩
    rw [List.mem_filter, decide_eq_true_eq] at hx
    obtain ⟨x1, x2⟩ := x
    obtain ⟨hx, rfl⟩ := hx
    exact hx
  · intro hp
    exact ⟨(t, p), List.mem_filter.2 ⟨hp, by simp⟩, rfl⟩
theorem mem_hdF {k t : Int} : t ∈ hdF h k ↔ ∃ w, (t, k, w) ∈ h := by
  unfold hdF
  rw [List.mem_map]
  constructor
  · rintro ⟨⟨x1, x2, x3⟩, hx, rfl⟩
    rw [List.mem_filter, decide_eq_true_eq] at hx
    obtain ⟨hx, rfl⟩ := hx
    exact ⟨x3, hx⟩
  · rintro ⟨w, hw⟩
    exact ⟨(t, k, w), List.mem_filter.2 ⟨hw, by simp⟩, rfl⟩
theorem Rel.holds_eq (R : Rel n st h r) (t : Int) : hsF h t = holds st t := by
  refine eq_sorted (R := fun a b : Int × Bool => a.1 < b.1) (fun x => Int.lt_irrefl _) (fun x y a b => by omega) ?_ (holdsTo_pw' st t st.length) fun p => ?_
  · unfold hsF
    rw [List.pairwise_map]
    refine (R.held.srt.filter _).imp_of_mem fun {a b} ha hb hab => ?_
    rw [List.mem_filter, decide_eq_true_eq] at ha hb
    rw [ahd_iff] at hab
    omega
  · rw [mem_hsF]
    obtain ⟨i, w⟩ := p
    rw [R.held.mem]
    constructor
    · rintro ⟨k, rfl, hk, e⟩
      have h0 : how (lk st k).held t ≠ 0 := by rw [e]; split <;> decide
      have := holds_in (st := st) (t := t) (j := k) (by rw [R.len]; exact hk) h0
      rw [e] at this
      cases w <;> simpa using this
    · intro hp
      obtain ⟨k, k1, k2, k3, k4⟩ := holds_out hp
      simp only at k2 k3
      rw [R.len] at k1
      refine ⟨k, k2, k1, ?_⟩
      rw [k3]
      exact R.how_w k1 k4
theorem Rel.holders_eq (R : Rel n st h r) {k : Nat} (hk : k < n) : hdF h k = holders st k := by
  have ok := R.inv.ok k (by rw [R.len]; exact hk)
  have tot : ∀ x y : Int, (decide (x ≤ y) || decide (y ≤ x)) = true := fun x y => by
    rcases Int.le_total x y with h | h <;> simp [h]
  have tr : ∀ x y z : Int, decide (x ≤ y) = true → decide (y ≤ z) = true → decide (x ≤ z) = true := fun x y z h1 h2 => by
    simp only [decide_eq_true_eq] at *
    omega
  have hp : (holders st k).Perm (keys (lk st k).held) := List.mergeSort_perm ..
  have hs : (holders st k).Pairwise fun x y => decide (x ≤ y) = true := List.pairwise_mergeSort tr tot _
  have hnd : (holders st k).Nodup := hp.nodup_iff.2 ok.nd
  have hs2 : (holders st k).Pairwise fun x y => x < y := by
    refine (hs.and hnd).imp fun {x y} q => ?_
    have := of_decide_eq_true q.1
    have := q.2
    omega
  refine eq_sorted (fun x => Int.lt_irrefl x) (fun x y a b => by omega) ?_ hs2 fun t => ?_
  · unfold hdF
    rw [List.pairwise_map]
    refine (R.held.srt.filter _).imp_of_mem fun {a b} ha hb hab => ?_
    rw [List.mem_filter, decide_eq_true_eq] at ha hb
    rw [ahd_iff] at hab
    omega
  · rw [mem_hdF, hp.mem_iff]
    constructor
    · rintro ⟨w, hw⟩
      obtain ⟨j, j1, j2, j3⟩ := (R.held.mem t k w).1 hw
      obtain rfl : k = j := by omega
      refine Classical.byContradiction fun c => ?_
      rw [how_abs c] at j3
      cases w <;> simp at j3
    · intro ht
      have h0 : how (lk st k).held t ≠ 0 := fun e => (how_zero ok.val t).1 e ht
      exact ⟨_, (R.held.mem t k _).2 ⟨k, rfl, hk, R.how_w hk h0⟩⟩
theorem hdF_row (r : List One) (k : Int) : hdF r k = (rowOf r k).map (·.1) := by
  unfold hdF rowOf
  rw [List.map_map]
  rfl
theorem Rel.queue_eq (R : Rel n st h r) {k : Nat} (hk : k < n) : hdF r k = queue st k := by
  rw [hdF_row, R.rows k hk]
  rfl
theorem mem_rowOf {r : List One} {k t : Int} {w : Bool} : (t, w) ∈ rowOf r k ↔ (t, k, w) ∈ r := by
  unfold rowOf
  rw [List.mem_map]
  constructor
  · rintro ⟨⟨x1, x2, x3⟩, hx, e⟩
    rw [List.mem_filter, decide_eq_true_eq] at hx
    cases e
    obtain ⟨hx, rfl⟩ := hx
    exact hx
  · intro hx
    exact ⟨(t, k, w), List.mem_filter.2 ⟨hx, by simp⟩, rfl⟩
theorem Rel.row_in (R : Rel n st h r) {x : One} (hx : x ∈ r) : ∃ k : Nat, x.2.1 = (k : Int) ∧ k < n ∧ (x.1, x.2.2) ∈ (lk st k).row ∧ waits st x.1 = some (k, x.2.2) := by
  obtain ⟨k, k1, k2⟩ := R.rng x hx
  have hm : (x.1, x.2.2) ∈ (lk st k).row := by
    rw [← R.rows k k2, mem_rowOf, ← k1]
    exact hx
  exact ⟨k, k1, k2, hm, waits_is R.inv (by rw [R.len]; exact k2) hm⟩
theorem Rel.waits_eq (R : Rel n st h r) (t : Int) : wtF r t = (waits st t).map fun p => ((p.1 : Int), p.2) := by
  unfold wtF
  cases hf : r.find? (fun x => decide (x.1 = t)) with
  | none =>
    cases hw : waits st t with
    | none => rfl
    | some p =>
      exfalso
      obtain ⟨i, w⟩ := p
      obtain ⟨hi, hr⟩ := waits_mem hw
      rw [R.len] at hi
      rw [← R.rows i hi, mem_rowOf] at hr
      have := List.find?_eq_none.1 hf _ hr
      simp at this
  | some x =>
    have h1 := List.mem_of_find?_eq_some hf
    have h2 : x.1 = t := by simpa using List.find?_some hf
    obtain ⟨k, k1, k2, _, k4⟩ := R.row_in h1
    rw [h2] at k4
    rw [k4, Option.map_some, Option.map_some, ← k1]
theorem before_row {r : List One} {t k : Int} (h1 : ∀ x ∈ r, x.1 = t → x.2.1 = k) : hdF (r.takeWhile fun x => decide (x.1 ≠ t)) k = before (hdF r k) t := by
  unfold before
  induction r with
  | nil => rfl
  | cons x r ih =>
    have ih := ih fun y hy => h1 y (by simp [hy])
    by_cases e : x.1 = t
    · have e2 := h1 x (by simp) e
      rw [List.takeWhile_cons_of_neg (by simpa using e)]
      unfold hdF
      rw [List.filter_cons_of_pos (by simpa using e2), List.map_cons, List.takeWhile_cons_of_neg (by simpa using e)]
      rfl
    · rw [List.takeWhile_cons_of_pos (by simpa using e)]
      unfold hdF at ih ⊢
      by_cases e2 : x.2.1 = k
      · rw [List.filter_cons_of_pos (by simpa using e2), List.filter_cons_of_pos (by simpa using e2), List.map_cons, List.map_cons, List.takeWhile_cons_of_pos (by simpa using e), ih]
      · rw [List.filter_cons_of_neg (by simpa using e2), List.filter_cons_of_neg (by simpa using e2), ih]
theorem Rel.for_eq (R : Rel n st h r) (t : Int) : forF h r t = forL st t := by
  unfold forF forL
  rw [R.waits_eq t]
  cases hw : waits st t with
  | none => rfl
  | some p =>
    obtain ⟨i, w⟩ := p
    have hi := (waits_mem hw).1
    rw [R.len] at hi
    simp only [Option.map_some]
    rw [R.holders_eq hi, before_row, R.queue_eq hi]
    intro x hx e
    obtain ⟨k, k1, k2, _, k4⟩ := R.row_in hx
    rw [e, hw] at k4
    cases k4
    exact k1
theorem relH_fits (H : RelH n st h) {k : Nat} (hk : k < n) (hv : ∀ p ∈ (lk st k).held, p.2 = 1 ∨ p.2 = 2) (nd : (keys (lk st k).held).Nodup) (w : Bool) : fitF h ((k : Int), w) = fitsB (lk st k).held w := by
  have key : (h.any fun x => decide (x.2.1 = (k : Int)) && (w || x.2.2)) = true ↔ ∃ p ∈ (lk st k).held, w = true ∨ p.2 = 2 := by
    rw [List.any_eq_true]
    constructor
    · rintro ⟨⟨t, i, v⟩, hx, e⟩
      simp only [Bool.and_eq_true, decide_eq_true_eq, Bool.or_eq_true] at e
      obtain ⟨rfl, e⟩ := e
      obtain ⟨j, j1, j2, j3⟩ := (H.mem t k v).1 hx
      obtain rfl : k = j := by omega
      have h0 : how (lk st k).held t ≠ 0 := by rw [j3]; split <;> decide
      refine ⟨_, how_in h0, ?_⟩
      rcases e with e | e
      · exact .inl e
      · subst e; exact .inr j3
    · rintro ⟨⟨t, a⟩, hp, e⟩
      have ha := how_mem nd hp
      have h12 := hv _ hp
      simp only at h12 e
      refine ⟨(t, k, decide (a = 2)), (H.mem t k _).2 ⟨k, rfl, hk, ?_⟩, ?_⟩
      · rw [ha]
        rcases h12 with q | q <;> simp [q]
      · simp only [decide_true, Bool.true_and, Bool.or_eq_true, decide_eq_true_eq]
        exact e
  unfold fitF fitsB
  simp only
  cases w with
  | true =>
    simp only [if_true]
    cases hm : (lk st k).held with
    | nil =>
      have e0 : (h.any fun x => decide (x.2.1 = (k : Int)) && (true || x.2.2)) = false := Bool.eq_false_iff.2 fun q => by
        obtain ⟨p, hp, _⟩ := key.1 q
        rw [hm] at hp
        cases hp
      rw [e0]
      rfl
    | cons p m =>
      rw [key.2 ⟨p, by rw [hm]; simp, .inl rfl⟩]
      rfl
  | false =>
    simp only [Bool.false_eq_true, if_false]
    unfold openB
    cases hq : ((lk st k).held.all fun p => !(p.2 == 2)) with
    | true =>
      have e0 : (h.any fun x => decide (x.2.1 = (k : Int)) && (false || x.2.2)) = false := Bool.eq_false_iff.2 fun q => by
        obtain ⟨p, hp, e⟩ := key.1 q
        rw [List.all_eq_true] at hq
        have := hq p hp
        rcases e with e | e
        · cases e
        · simp [e] at this
      rw [e0]
      rfl
    | false =>
      rw [List.all_eq_false] at hq
      obtain ⟨p, hp, e⟩ := hq
      rw [key.2 ⟨p, hp, .inr (by simpa using e)⟩]
      rfl
theorem mem_insF {y x : One} : x ∈ insF h y ↔ x = y ∨ x ∈ h := by
  unfold insF
  rw [List.mem_append, List.mem_append, List.mem_singleton]
  conv => rhs; rw [← List.take_append_drop (kpos h y) h, List.mem_append]
  constructor
  · rintro ((a | a) | a)
    · exact .inr (.inl a)
    · exact .inl a
    · exact .inr (.inr a)
  · rintro (a | (a | a))
    · exact .inl (.inr a)
    · exact .inl (.inl a)
    · exact .inr a
theorem insF_srt {y : One} (hs : h.Pairwise fun x y => ahd x y = true) (hn : ∀ x ∈ h, ¬ (x.1 = y.1 ∧ x.2.1 = y.2.1)) : (insF h y).Pairwise fun x y => ahd x y = true := by
  have hs0 := hs
  rw [← List.take_append_drop (kpos h y) h, List.pairwise_append] at hs
  obtain ⟨s1, s2, s3⟩ := hs
  have ht : ∀ x ∈ h.take (kpos h y), ahd x y = true := fun x hx => by
    obtain ⟨i, hi, rfl⟩ := List.getElem_of_mem hx
    rw [List.length_take] at hi
    have := kpos_yes (h := h) (y := y) (i := i) (by omega)
    rw [gt_eq (by omega)] at this
    rw [List.getElem_take]
    exact this
  have hd : ∀ x ∈ h.drop (kpos h y), ahd y x = true := fun x hx => by
    obtain ⟨i, hi, rfl⟩ := List.getElem_of_mem hx
    rw [List.length_drop] at hi
    rw [List.getElem_drop]
    have h0 := kpos_no (h := h) (y := y) (by omega)
    rw [gt_eq (by omega), ahd_no] at h0
    have hne := hn _ (List.getElem_mem (show kpos h y < h.length by omega))
    have h1 : ahd y (h[kpos h y]'(by omega)) = true := by
      rw [ahd_iff]
      omega
    by_cases e : i = 0
    · subst e; exact h1
    · exact ahd_trans h1 (List.pairwise_iff_getElem.1 hs0 (kpos h y) (kpos h y + i) (by omega) (by omega) (by omega))
  unfold insF
  rw [List.append_assoc, List.pairwise_append]
  refine ⟨s1, ?_, fun a ha b hb => ?_⟩
  · rw [List.singleton_append, List.pairwise_cons]
    exact ⟨hd, s2⟩
  · rw [List.singleton_append, List.mem_cons] at hb
    rcases hb with rfl | hb
    · exact ht a ha
    · exact s3 a ha b hb
/-- A task holds a lock. -/
theorem relH_hold (hl : st.length = n) (H : RelH n st h) {k : Nat} (hk : k < n) {t : Int} (w : Bool) (hn : t ∉ keys (lk st k).held) (row : List (Int × Bool)) : RelH n (st.set k ⟨holdM (lk st k).held t w, row⟩) (insF h (t, k, w)) := by
  have hno : ∀ v, (t, (k : Int), v) ∉ h := fun v hv => by
    obtain ⟨j, j1, j2, j3⟩ := (H.mem t k v).1 hv
    obtain rfl : k = j := by omega
    rw [how_abs hn] at j3
    cases v <;> simp at j3
  refine ⟨insF_srt H.srt (fun x hx e => ?_), fun t' i v => ?_⟩
  · obtain ⟨x1, x2, x3⟩ := x
    simp only at e
    rw [e.1, e.2] at hx
    exact hno x3 hx
  · rw [mem_insF, H.mem]
    constructor
    · rintro (e | ⟨j, j1, j2, j3⟩)
      · cases e
        exact ⟨k, rfl, hk, by rw [lk_set (by omega), how_hold _ hn, if_pos rfl]⟩
      · refine ⟨j, j1, j2, ?_⟩
        by_cases e : k = j
        · subst e
          rw [lk_set (by omega), how_hold _ hn, if_neg]
          · exact j3
          · intro e
            rw [e, how_abs hn] at j3
            cases v <;> simp at j3
        · rw [lk_set_ne e]
          exact j3
    · rintro ⟨j, j1, j2, j3⟩
      by_cases e : k = j
      · subst e
        rw [lk_set (by omega), how_hold _ hn] at j3
        split at j3
        · next e =>
          left
          subst e j1
          cases w <;> cases v <;> simp at j3 ⊢
        · exact .inr ⟨k, j1, j2, j3⟩
      · rw [lk_set_ne e] at j3
        exact .inr ⟨j, j1, j2, j3⟩
end
end Go.Proofs.Ytckppkimjiifpaa
