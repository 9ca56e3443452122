/- TaskEnds: what two tasks hold is apart; plain laws. No condition. -/
import Derived.Test.YtjfoicebdjonfaaQLk
import Derived.Test.YtjfoicebdjonfaaQKk
import Derived.Test.YtjfoicebdjonfaaQb2
set_option linter.unusedSectionVars false
set_option linter.unusedVariables false
set_option linter.unusedSimpArgs false
set_option linter.deprecated false
namespace Go.Proofs.Ytjfoicebdjonfaa
open Go.Cx Go.Am Go.Tsk
theorem holds_out {st : List Lk} {t : Int} {p : Int × Bool} (h : p ∈ holds st t) : ∃ i, i < st.length ∧ p.1 = (i : Int) ∧ p.2 = decide (how (lk st i).held t = 2) ∧ how (lk st i).held t ≠ 0 := by
  unfold holds holdsTo at h
  rw [List.mem_filterMap] at h
  obtain ⟨i, h1, h2⟩ := h
  split at h2
  · cases h2
  · next hh =>
    cases h2
    exact ⟨i, List.mem_range.1 h1, rfl, rfl, hh⟩
theorem how_in {m : List (Int × Int)} {t : Int} (h0 : how m t ≠ 0) : (t, how m t) ∈ m := by
  have hk : t ∈ keys m := Classical.byContradiction fun c => h0 (by
    unfold how
    rw [mfind_abs c]
    rfl)
  obtain ⟨a, h1, h2⟩ := find_idx (m := m) hk
  have : how m t = a := by unfold how mfind; rw [h2]; rfl
  rw [this]
  exact List.mem_of_getElem? h1
theorem holds_apart {N : Int} {st : List Lk} (h : LInvN N st) {t1 t2 : Int} (ht : t1 ≠ t2) : apaB (holds st t1) (holds st t2) = true := by
  unfold apaB
  rw [Bool.not_eq_true', List.any_eq_false]
  intro n hn
  rw [List.any_eq_true]
  rintro ⟨m, hm, hmn⟩
  obtain ⟨i, i1, i2, i3, i4⟩ := holds_out hn
  obtain ⟨j, j1, j2, j3, j4⟩ := holds_out hm
  unfold apN at hmn
  simp only [Bool.and_eq_true, Bool.or_eq_true, decide_eq_true_eq] at hmn
  obtain ⟨e, hw⟩ := hmn
  have hij : i = j := by omega
  subst hij
  have key : ∀ a b : Int, a ≠ b → how (lk st i).held a = 2 → how (lk st i).held b ≠ 0 → False := fun a b hab h2 hb => by
    have hal := (h.ok i i1).alone _ (how_in (by rw [h2]; decide)) h2
    have hmb := how_in hb
    rw [hal, List.mem_singleton] at hmb
    exact hab (congrArg Prod.fst hmb).symm
  rcases hw with hw | hw
  · rw [j3, decide_eq_true_eq] at hw
    exact key t1 t2 ht hw i4
  · rw [i3, decide_eq_true_eq] at hw
    exact key t2 t1 (fun e => ht e.symm) hw j4
end Go.Proofs.Ytjfoicebdjonfaa
