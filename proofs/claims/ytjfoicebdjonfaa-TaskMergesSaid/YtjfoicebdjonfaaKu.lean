/- Plain: the merged needs are sorted, cover both, and nothing less does. No condition. -/
import Derived.Test.YtjfoicebdjonfaaKk
import Derived.Test.YtjfoicebdjonfaaKm
set_option linter.unusedSectionVars false
set_option linter.unusedVariables false
set_option linter.unusedSimpArgs false
set_option linter.deprecated false
namespace Go.Tsk
open Go.Am
theorem mem_mrgL {m : List Nd} {n : Nat} {p : Nd} : p ∈ mrgL m n ↔ ∃ k, k < n ∧ has1 m (k : Nat) = true ∧ p = ((k : Int), wr1 m (k : Nat)) := by
  unfold mrgL
  rw [List.mem_filterMap]
  constructor
  · rintro ⟨k, hk, h⟩
    by_cases e : has1 m (k : Nat) = true
    · rw [if_pos e] at h
      exact ⟨k, List.mem_range.1 hk, e, by simpa using h.symm⟩
    · rw [if_neg e] at h; cases h
  · rintro ⟨k, hk, e, rfl⟩
    exact ⟨k, List.mem_range.2 hk, by rw [if_pos e]⟩
theorem mrg_kn (a b : List Nd) : ∀ p ∈ mrg a b, 0 ≤ p.1 ∧ p.1 < 67 := by
  intro p hp
  obtain ⟨k, hk, _, rfl⟩ := mem_mrgL.1 hp
  simp only
  omega
theorem gt_appL {l m : List Nd} {i : Nat} (h : i < l.length) : gt (l ++ m) i = gt l i := by
  rw [gt_eq h, gt_eq (by simp; omega), List.getElem_append_left h]
theorem gt_appR {l : List Nd} {p : Nd} : gt (l ++ [p]) l.length = p := by
  rw [gt_eq (by simp)]
  simp
theorem mrgL_srt (m : List Nd) : ∀ n, n ≤ 67 → SrtN (mrgL m n) (mrgL m n).length
  | 0, _ => fun i hi => by simp [mrgL] at hi
  | n + 1, hn => by
    have ih := mrgL_srt m n (by omega)
    have hk : ∀ i, i < (mrgL m n).length → (gt (mrgL m n) i).1 < n := fun i hi => by
      obtain ⟨k, hk, _, e⟩ := mem_mrgL.1 (gt_mem hi)
      rw [e]
      simp only
      omega
    rw [mrgL_succ]
    split
    · generalize mrgL m n = L at *
      rw [List.length_append]
      show SrtN (L ++ [((n : Int), wr1 m n)]) (L.length + 1)
      refine srtN_succ (fun i hi => ?_) ?_ fun h0 => ?_
      · obtain ⟨h1, h2⟩ := ih i hi
        rw [gt_appL hi]
        refine ⟨h1, fun h0 => ?_⟩
        rw [gt_appL (by omega)]
        exact h2 h0
      · rw [gt_appR]
        exact decide_eq_true (by simp only; omega)
      · rw [gt_appR, gt_appL (by omega)]
        exact hk _ (by omega)
    · exact ih
theorem mrg_srt (a b : List Nd) : srt (mrg a b) = true := decide_eq_true (mrgL_srt _ 67 (Nat.le_refl _))
theorem srtN_lt {l : List Nd} (hs : SrtN l l.length) : ∀ j, j < l.length → ∀ i, i < j → (gt l i).1 < (gt l j).1 := by
  intro j
  induction j with
  | zero => intro _ i hi; omega
  | succ j ih =>
    intro hj i hi
    have h2 := (hs (j + 1) hj).2 (by omega)
    simp only [Nat.add_sub_cancel] at h2
    by_cases e : i = j
    · subst e; exact h2
    · have := ih (by omega) i (by omega)
      omega
theorem covB_yes {a b : List Nd} (h : ∀ n ∈ b, ∃ m ∈ a, cvN m n = true) : covB a b = true := by
  unfold covB
  have : (b.any fun n => !(a.any fun m => cvN m n)) = false := List.any_eq_false.2 fun n hn => by
    obtain ⟨m, hm, e⟩ := h n hn
    rw [List.any_eq_true.2 ⟨m, hm, e⟩]
    simp
  rw [this]; rfl
theorem covB_no {a b : List Nd} {n : Nd} (hn : n ∈ b) (h : ∀ m ∈ a, cvN m n = false) : covB a b = false := by
  unfold covB
  have h1 : (a.any fun m => cvN m n) = false := List.any_eq_false.2 fun m hm => by rw [h m hm]; simp
  have : (b.any fun n => !(a.any fun m => cvN m n)) = true := List.any_eq_true.2 ⟨n, hn, by rw [h1]; rfl⟩
  rw [this]; rfl
theorem mrg_covs {m : List Nd} {n : Nd} (hn : n ∈ m) (h0 : 0 ≤ n.1) (h1 : n.1 < 67) : ∃ p ∈ mrgL m 67, cvN p n = true := by
  obtain ⟨k, hk⟩ : ∃ k : Nat, n.1 = k := ⟨n.1.toNat, by omega⟩
  refine ⟨((k : Int), wr1 m (k : Nat)), mem_mrgL.2 ⟨k, by omega, ?_, rfl⟩, ?_⟩
  · exact List.any_eq_true.2 ⟨n, hn, by simp [hk]⟩
  · unfold cvN
    cases h2 : n.2 with
    | false => simp [hk]
    | true =>
      have : wr1 m (k : Nat) = true := List.any_eq_true.2 ⟨n, hn, by simp [hk, h2]⟩
      rw [this]
      simp [hk]
theorem mrg_cov1 {x y : List Nd} (hx : ∀ p ∈ x, 0 ≤ p.1 ∧ p.1 < 67) : covB (mrg x y) x = true :=
  covB_yes fun n hn => mrg_covs (List.mem_append_left _ hn) (hx n hn).1 (hx n hn).2
theorem mrg_cov2 {x y : List Nd} (hy : ∀ p ∈ y, 0 ≤ p.1 ∧ p.1 < 67) : covB (mrg x y) y = true :=
  covB_yes fun n hn => mrg_covs (List.mem_append_right _ hn) (hy n hn).1 (hy n hn).2
theorem rest_ne {g : List Nd} (hs : SrtN g g.length) {i : Nat} (hi : i < g.length) : (∀ q ∈ g.take i, q.1 ≠ (gt g i).1) ∧ ∀ q ∈ g.drop (i + 1), q.1 ≠ (gt g i).1 := by
  constructor
  · intro q hq
    obtain ⟨j, hj, rfl⟩ := List.getElem_of_mem hq
    rw [List.getElem_take]
    rw [List.length_take] at hj
    have := srtN_lt hs i hi j (by omega)
    rw [gt_eq (by omega : j < g.length)] at this
    omega
  · intro q hq
    obtain ⟨j, hj, rfl⟩ := List.getElem_of_mem hq
    rw [List.getElem_drop]
    rw [List.length_drop] at hj
    have := srtN_lt hs (i + 1 + j) (by omega) i (by omega)
    rw [gt_eq (by omega : i + 1 + j < g.length)] at this
    omega
/-- What is less than the merged needs does not cover both. -/
theorem mrg_min {x y : List Nd} {i : Nat} (hi : i < (mrg x y).length) :
    ((gt (mrg x y) i).2 = false → covB ((mrg x y).take i ++ (mrg x y).drop (i + 1)) x = false ∨ covB ((mrg x y).take i ++ (mrg x y).drop (i + 1)) y = false) ∧
    ((gt (mrg x y) i).2 = true → covB ((mrg x y).take i ++ [((gt (mrg x y) i).1, false)] ++ (mrg x y).drop (i + 1)) x = false ∨ covB ((mrg x y).take i ++ [((gt (mrg x y) i).1, false)] ++ (mrg x y).drop (i + 1)) y = false) := by
  have h12 : (∀ q ∈ (mrg x y).take i, q.1 ≠ (gt (mrg x y) i).1) ∧ ∀ q ∈ (mrg x y).drop (i + 1), q.1 ≠ (gt (mrg x y) i).1 := rest_ne (mrgL_srt (x ++ y) 67 (Nat.le_refl _)) hi
  obtain ⟨h1, h2⟩ := h12
  obtain ⟨k, hk, hh, e⟩ := mem_mrgL.1 (gt_mem hi)
  change gt (mrg x y) i = _ at e
  generalize mrg x y = g at *
  rw [e] at h1 h2 ⊢
  constructor
  · intro _
    obtain ⟨n, hn, hk2⟩ := List.any_eq_true.1 hh
    have hk2 := of_decide_eq_true hk2
    have ha : ∀ q ∈ g.take i ++ g.drop (i + 1), cvN q n = false := fun q hq => by
      have : q.1 ≠ (k : Int) := by
        rcases List.mem_append.1 hq with hq | hq
        · exact h1 q hq
        · exact h2 q hq
      unfold cvN
      rw [hk2]
      simp [this]
    rcases List.mem_append.1 hn with hn | hn
    · exact .inl (covB_no hn ha)
    · exact .inr (covB_no hn ha)
  · intro hw
    obtain ⟨n, hn, hk2⟩ := List.any_eq_true.1 hw
    rw [Bool.and_eq_true] at hk2
    have hk3 := of_decide_eq_true hk2.1
    have ha : ∀ q ∈ g.take i ++ [((k : Int), false)] ++ g.drop (i + 1), cvN q n = false := fun q hq => by
      unfold cvN
      rw [hk3, hk2.2]
      rcases List.mem_append.1 hq with hq | hq
      · rcases List.mem_append.1 hq with hq | hq
        · simp [h1 q hq]
        · obtain rfl := List.mem_singleton.1 hq
          simp
      · simp [h2 q hq]
    rcases List.mem_append.1 hn with hn | hn
    · exact .inl (covB_no hn ha)
    · exact .inr (covB_no hn ha)
end Go.Tsk
