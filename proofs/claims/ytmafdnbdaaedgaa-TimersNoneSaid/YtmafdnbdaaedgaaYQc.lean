/- Timers: the heap's order, up and down, plain. No condition. -/
import Derived.Test.YtmafdnbdaaedgaaYQb
import Derived.Test.YtmafdnbdaaedgaaYb1
set_option linter.unusedSectionVars false
set_option linter.unusedVariables false
set_option linter.unusedSimpArgs false
set_option linter.deprecated false
namespace Go.Proofs.Ytmafdnbdaaedgaa
open Go.RowKit Go.Cx Go.Am
def lt3 (a b : It) : Prop := a.2.2 < b.2.2 ∨ (a.2.2 = b.2.2 ∧ a.2.1 < b.2.1)
def le3 (a b : It) : Prop := ¬ lt3 b a
theorem cmp3_lt (a b : It) : cmp3 a b < 0 ↔ lt3 a b := by
  unfold cmp3 cmpI lt3
  repeat' split
  all_goals omega
theorem le3_rfl (a : It) : le3 a a := by unfold le3 lt3; omega
theorem le3_of_lt {a b : It} (h : lt3 a b) : le3 a b := by unfold le3; unfold lt3 at *; omega
theorem le3_trans {a b c : It} (h1 : le3 a b) (h2 : le3 b c) : le3 a c := by unfold le3 lt3 at *; omega
instance (a b : It) : Decidable (lt3 a b) := inferInstanceAs (Decidable (_ ∨ _))
/-- In order as a heap, of the first n. -/
def Hp (p : List It) (n : Nat) : Prop := ∀ k, 0 < k → k < n → le3 (at3 p ((k - 1) / 2)) (at3 p k)
structure UpI (p : List It) (n j : Nat) : Prop where
  a : ∀ k, 0 < k → k < n → k ≠ j → le3 (at3 p ((k - 1) / 2)) (at3 p k)
  b : ∀ k, 0 < k → k < n → (k - 1) / 2 = j → 0 < j → le3 (at3 p ((j - 1) / 2)) (at3 p k)
theorem up_stop {p : List It} {n j : Nat} (h : UpI p n j) (hs : j = 0 ∨ ¬ lt3 (at3 p j) (at3 p ((j - 1) / 2))) : Hp p n := fun k h0 hk => by
  by_cases e : k = j
  · subst e
    rcases hs with hs | hs
    · omega
    · exact hs
  · exact h.a k h0 hk e
theorem up_step {p : List It} {n j : Nat} (hn : n ≤ p.length) (hj : j < n) (h0 : 0 < j) (h : UpI p n j) (hs : lt3 (at3 p j) (at3 p ((j - 1) / 2))) : UpI (swP p ((j - 1) / 2) j) n ((j - 1) / 2) := by
  obtain ⟨i, ei⟩ : ∃ i, i = (j - 1) / 2 := ⟨_, rfl⟩
  rw [← ei] at hs ⊢
  have hi : i < p.length := by omega
  have hjl : j < p.length := by omega
  refine ⟨fun k k0 kn ki => ?_, fun k k0 kn ki i0 => ?_⟩
  · rw [swP_at hi hjl, swP_at hi hjl]
    by_cases e : k = j
    · subst e
      rw [← ei, if_neg (by omega), if_pos rfl, if_pos rfl]
      exact le3_of_lt hs
    · rw [if_neg e, if_neg ki]
      by_cases e1 : (k - 1) / 2 = j
      · rw [if_pos e1]
        have := h.b k k0 kn e1 h0
        rwa [← ei] at this
      · rw [if_neg e1]
        have := h.a k k0 kn e
        by_cases e2 : (k - 1) / 2 = i
        · rw [if_pos e2]
          rw [e2] at this
          exact le3_trans (le3_of_lt hs) this
        · rw [if_neg e2]
          exact this
  · rw [swP_at hi hjl, swP_at hi hjl, if_neg (by omega), if_neg (by omega)]
    have h1 := h.a i i0 (by omega) (by omega)
    by_cases e : k = j
    · rw [if_pos e]
      exact h1
    · rw [if_neg e, if_neg (by omega)]
      have := h.a k k0 kn e
      rw [ki] at this
      exact le3_trans h1 this
structure DnI (p0 p : List It) (n i0 i : Nat) : Prop where
  a : ∀ k, 0 < k → k < n → (k - 1) / 2 ≠ i → k ≠ i0 → le3 (at3 p ((k - 1) / 2)) (at3 p k)
  b : ∀ k, 0 < k → k < n → (k - 1) / 2 = i → 0 < i → le3 (at3 p ((i - 1) / 2)) (at3 p k)
  c : (i = i0 ∧ p = p0) ∨ (i0 < i ∧ (0 < i0 → le3 (at3 p ((i0 - 1) / 2)) (at3 p i0)))
theorem dn_stop {p0 p : List It} {n i0 i : Nat} (h : DnI p0 p n i0 i) (hs : ∀ k, 0 < k → k < n → (k - 1) / 2 = i → le3 (at3 p i) (at3 p k)) : (i0 < i → Hp p n) ∧ (¬ i0 < i → p = p0 ∧ UpI p n i0) := by
  refine ⟨fun hi k k0 kn => ?_, fun hi => ?_⟩
  · by_cases e : k = i0
    · subst e
      rcases h.c with ⟨e1, _⟩ | ⟨_, e1⟩
      · omega
      · exact e1 k0
    · by_cases e1 : (k - 1) / 2 = i
      · rw [e1]
        exact hs k k0 kn e1
      · exact h.a k k0 kn e1 e
  · rcases h.c with ⟨e1, e2⟩ | ⟨e1, _⟩
    · subst e1
      refine ⟨e2, fun k k0 kn ke => ?_, fun k k0 kn ke j0 => h.b k k0 kn ke j0⟩
      by_cases e1 : (k - 1) / 2 = i
      · rw [e1]
        exact hs k k0 kn e1
      · exact h.a k k0 kn e1 ke
    · exact absurd e1 hi
theorem dn_step {p0 p : List It} {n i0 i j : Nat} (hn : n ≤ p.length) (hj : j < n) (j0 : 0 < j) (ji : (j - 1) / 2 = i) (h : DnI p0 p n i0 i) (hs : lt3 (at3 p j) (at3 p i)) (hm : ∀ k, 0 < k → k < n → (k - 1) / 2 = i → le3 (at3 p j) (at3 p k)) : DnI p0 (swP p i j) n i0 j := by
  have hi : i < p.length := by omega
  have hjl : j < p.length := by omega
  have hi0 : i0 ≤ i := by rcases h.c with ⟨e1, _⟩ | ⟨e1, _⟩ <;> omega
  refine ⟨fun k k0 kn ki ki0 => ?_, fun k k0 kn ki i0 => ?_, .inr ⟨by omega, fun g0 => ?_⟩⟩
  · rw [swP_at hi hjl, swP_at hi hjl, if_neg ki]
    by_cases e : k = j
    · subst e
      rw [ji, if_pos rfl, if_pos rfl]
      exact le3_of_lt hs
    · rw [if_neg e]
      by_cases e1 : (k - 1) / 2 = i
      · rw [if_pos e1, if_neg (by omega)]
        exact hm k k0 kn e1
      · rw [if_neg e1]
        by_cases e2 : k = i
        · subst e2
          rw [if_pos rfl]
          exact h.b j j0 hj ji k0
        · rw [if_neg e2]
          exact h.a k k0 kn e1 ki0
  · rw [swP_at hi hjl, swP_at hi hjl, ji, if_neg (by omega), if_pos rfl, if_neg (by omega), if_neg (by omega)]
    have := h.a k k0 kn (by omega) (by omega)
    rwa [ki] at this
  · rw [swP_at hi hjl, swP_at hi hjl, if_neg (by omega), if_neg (by omega), if_neg (by omega)]
    by_cases e : i0 = i
    · subst e
      rw [if_pos rfl]
      exact h.b j j0 hj ji g0
    · rw [if_neg e]
      rcases h.c with ⟨e1, _⟩ | ⟨_, e1⟩
      · omega
      · exact e1 g0
theorem hp_root {p : List It} {n : Nat} (h : Hp p n) : ∀ k, k < n → le3 (at3 p 0) (at3 p k)
  | 0, _ => le3_rfl _
  | k + 1, hk => le3_trans (hp_root h ((k + 1 - 1) / 2) (by omega)) (h (k + 1) (by omega) hk)
  termination_by k => k
  decreasing_by omega
/-- What a walk over the heap keeps. -/
structure Fr (n : Nat) (H0 : Heap) (q : Nat) (p0 : List It) (H : Heap) (p : List It) : Prop where
  perm : p.Perm p0
  hi : ∀ k, n ≤ k → at3 p k = at3 p0 k
  len : H.length = H0.length
  keep : ∀ k, k ≠ q → k ∉ p0.map (·.1) → H[k]? = H0[k]?
theorem Fr.rfl' (n : Nat) (H : Heap) (q : Nat) (p : List It) : Fr n H q p H p := ⟨.refl _, fun _ _ => rfl, rfl, fun _ _ _ => rfl⟩
theorem Fr.trans {n : Nat} {H0 H1 H2 : Heap} {q : Nat} {p0 p1 p2 : List It} (h : Fr n H0 q p0 H1 p1) (g : Fr n H1 q p1 H2 p2) : Fr n H0 q p0 H2 p2 :=
  ⟨g.perm.trans h.perm, fun k hk => (g.hi k hk).trans (h.hi k hk), g.len.trans h.len, fun k h1 h2 => (g.keep k h1 (fun e => h2 (((h.perm.map (·.1)).mem_iff).1 e))).trans (h.keep k h1 h2)⟩
theorem at3_mem {p : List It} {i : Nat} (h : i < p.length) : at3 p i ∈ p := by rw [at3_eq h]; exact List.getElem_mem h
theorem Fr.swap {n : Nat} {H : Heap} {q : Nat} {p : List It} (Z : List (List AV)) {i j : Nat} (hn : n ≤ p.length) (hi : i < n) (hj : j < n) : Fr n H q p (swH H q p Z i j) (swP p i j) :=
  ⟨swP_perm (by omega) (by omega), fun k hk => by rw [swP_at (by omega) (by omega), if_neg (by omega), if_neg (by omega)], swH_len, fun k h1 h2 =>
    swH_at h1 (fun e => h2 (List.mem_map.2 ⟨_, at3_mem (i := i) (by omega), e.symm⟩)) (fun e => h2 (List.mem_map.2 ⟨_, at3_mem (i := j) (by omega), e.symm⟩))⟩
end Go.Proofs.Ytmafdnbdaaedgaa
