/- Plain: all plans are sound. No condition. -/
import Derived.Test.YtjfoicebdjonfaaKi
import Derived.Test.YtjfoicebdjonfaaKl
set_option linter.unusedSectionVars false
set_option linter.unusedVariables false
set_option linter.unusedSimpArgs false
set_option linter.deprecated false
namespace Go.Tsk
open Go.Am
def fH (l : List Stp) (h : List Nd) : Option (List Nd) := l.foldlM stp h
theorem fH_app (l m : List Stp) (h : List Nd) : fH (l ++ m) h = (fH l h).bind (fH m) := by
  unfold fH
  rw [List.foldlM_append]
  rfl
theorem fH_st2 : ∀ (l : List Stp) (c : List Nd × List (List Nd)), (l.foldlM st2 c).map Prod.fst = fH l c.1
  | [], c => rfl
  | s :: l, c => by
    unfold fH
    rw [List.foldlM_cons, List.foldlM_cons]
    unfold st2
    cases h : stp c.1 s with
    | none => rfl
    | some h' => exact fH_st2 l (h', c.2 ++ [h'])
theorem snd_of {l : List Stp} (h : fH l [] = some []) : snd' l = true := by
  have := fH_st2 l ([], [])
  rw [show fH l ([], []).1 = some [] from h] at this
  unfold snd' runP
  cases hc : List.foldlM st2 ([], []) l with
  | none => rw [hc] at this; cases this
  | some c =>
    rw [hc] at this
    obtain ⟨c1, c2⟩ := c
    simp only [Option.map_some, Option.some.injEq] at this
    subst this
    rfl
theorem fH_lk {l : List Nd} (hs : SrtN l l.length) : ∀ i, i ≤ l.length → fH (Go.Proofs.Ytjfoicebdjonfaa.lkS (l.take i)) [] = some (l.take i)
  | 0, _ => rfl
  | i + 1, hi => by
    rw [Go.Proofs.Ytjfoicebdjonfaa.lkS_snoc (by omega), fH_app, fH_lk hs i (by omega)]
    obtain ⟨h1, h2⟩ := hs i (by omega)
    have hl : (l.take i).length = i := by simp; omega
    show (fH [_] (l.take i)) = _
    have : stp (l.take i) (2, (gt l i).1, (gt l i).2) = some (l.take i ++ [gt l i]) := by
      unfold stp
      rw [if_pos rfl]
      simp only
      rw [if_neg]
      rintro (e | ⟨e1, e2⟩)
      · rw [h1] at e; cases e
      · rw [hl] at e1 e2
        have := h2 e1
        rw [gt_take (by omega)] at e2
        omega
    unfold fH
    simp only [List.foldlM_cons, List.foldlM_nil, this]
    rw [take_gt (by omega)]
    rfl
theorem srtN_pw {l : List Nd} (hs : SrtN l l.length) : PW l := by
  have key : ∀ j, j < l.length → ∀ i, i < j → (gt l i).1 < (gt l j).1 := by
    intro j
    induction j with
    | zero => intro _ i hi; omega
    | succ j ih =>
      intro hj i hi
      have h2 := (hs (j + 1) hj).2 (by omega)
      simp only [Nat.add_sub_cancel] at h2
      by_cases e : i = j
      · subst e; exact h2
      · have := ih (by omega) i (by omega)
        omega
  unfold PW
  rw [List.pairwise_iff_getElem]
  intro i j hi hj hij
  have := key j hj i hij
  rwa [gt_eq hi, gt_eq hj] at this
theorem idl_app {x : Int} {q : Nd} (hq : q.1 = x) : ∀ (l : List Nd) (i : Int), (∀ p ∈ l, ¬ p.1 = x) → idl x (l ++ [q]) i = i + l.length
  | [], i, _ => by simp [idl, hq]
  | p :: l, i, h => by
    show idl x (p :: (l ++ [q])) i = _
    unfold idl
    rw [if_neg (h p (by simp)), idl_app hq l (i + 1) fun r hr => h r (by simp [hr])]
    simp
    omega
theorem fH_un : ∀ (n : Nat) (l : List Nd), l.length = n → PW l → fH (l.reverse.map fun x => (4, x)) l = some []
  | 0, l, hn, _ => by
    obtain rfl := List.eq_nil_of_length_eq_zero hn
    rfl
  | n + 1, l, hn, hp => by
    obtain ⟨m, q, rfl⟩ : ∃ m q, l = m ++ [q] := by
      rcases List.eq_nil_or_concat l with h | ⟨m, q, h⟩
      · rw [h] at hn; simp at hn
      · exact ⟨m, q, by simpa using h⟩
    have hm : m.length = n := by simpa using hn
    unfold PW at hp
    rw [List.pairwise_append] at hp
    obtain ⟨hp1, _, hp3⟩ := hp
    have hi : idl q.1 (m ++ [q]) 0 = (m.length : Int) := by
      rw [idl_app rfl m 0 fun p hpm => by have := hp3 p hpm q (by simp); omega]
      omega
    rw [List.reverse_append]
    simp only [List.reverse_cons, List.reverse_nil, List.nil_append, List.map_append, List.map_cons, List.map_nil]
    rw [fH_app]
    have : stp (m ++ [q]) (4, q) = some m := by
      unfold stp
      rw [if_neg (by show ¬ (4 : Int) = 2; decide), if_pos rfl]
      simp only
      rw [hi, if_neg (by omega), Int.toNat_natCast]
      simp [List.eraseIdx_append_of_length_le]
    have h1 : fH [((4 : Int), q)] (m ++ [q]) = some m := by
      unfold fH
      simp only [List.foldlM_cons, List.foldlM_nil, this]
      rfl
    rw [h1]
    exact fH_un n m hm hp1
theorem stp_do (h : List Nd) : stp h (3, 0, false) = some h := by simp [stp]
theorem fH_plan {l : List Nd} (hs : srt l = true) : fH (Go.Proofs.Ytjfoicebdjonfaa.planS l) [] = some [] := by
  have hs := of_decide_eq_true hs
  unfold Go.Proofs.Ytjfoicebdjonfaa.planS
  rw [fH_app, fH_app]
  have h1 := fH_lk hs l.length (Nat.le_refl _)
  rw [List.take_length] at h1
  rw [h1]
  have h2 : fH [((3 : Int), (0 : Int), false)] l = some l := by
    unfold fH
    simp only [List.foldlM_cons, List.foldlM_nil, stp_do]
    rfl
  show ((fH [((3 : Int), (0 : Int), false)] l).bind _) = _
  rw [h2]
  exact fH_un _ l rfl (srtN_pw hs)
theorem fH_sw (n : Nat) (hn : n ≤ 64) : fH (Go.Proofs.Ytjfoicebdjonfaa.swL n) [] = some [] := by
  induction n with
  | zero => rfl
  | succ n ih =>
    rw [Go.Proofs.Ytjfoicebdjonfaa.swL_succ, fH_app, ih (by omega)]
    exact fH_plan (Go.Proofs.Ytjfoicebdjonfaa.srt1 _ _ (decide_eq_true (by omega)))
end Go.Tsk
namespace Go.Proofs.Ytjfoicebdjonfaa
open Go.Am Go.Tsk
theorem snd_un (l : List Nd) : snd' (unS l).1 = true := by
  unfold unS
  split
  · rfl
  · next h =>
    refine snd_of (fH_plan ?_)
    cases e : srt l
    · exact absurd (.inr e) h
    · rfl
theorem snd_sw (n : Int) : snd' (swS n).1 = true := by
  unfold swS
  split
  · exact snd_of (fH_sw _ (by omega))
  · rfl
theorem snd_rd (k : Int) (w : Bool) : snd' (ofS k w []).1 = true := by
  unfold ofS
  split
  · next h => exact snd_of (fH_plan (srt1 k w h))
  · rfl
theorem snd_hv (k : Int) : snd' (ofS k true [(1, true), (2, true)]).1 = true := by
  unfold ofS
  split
  · next h => exact snd_of (fH_plan (srt3 k h))
  · rfl
theorem snd_kl (k : Int) : snd' (klS k).1 = true := by
  unfold klS
  split
  · next h =>
    refine snd_of ?_
    simp only
    rw [fH_app, fH_plan (srt1 k false h)]
    rfl
  · rfl
theorem snd_bk (k : Int) (h : (bkS k).2 = 0) : snd' (ahS ++ (bkS k).1) = true := by
  unfold bkS at h ⊢
  split
  · rfl
  · next h0 =>
    rw [if_neg h0] at h
    split
    · next hk =>
      have := of_decide_eq_true hk
      refine snd_of ?_
      have e1 : ¬ k = 1 := by omega
      have e0 : ¬ k = 0 := by omega
      have e2 : ¬ k ≤ 1 := by omega
      have e3 : 0 ≤ k := by omega
      have e4 : k < 67 := by omega
      have e5 : ¬ (1 : Int) = k := by omega
      have e6 : ¬ (0 : Int) = k := by omega
      simp [fH, ahS, planS, lkS, stp, kn, gt, idl, e1, e0, e2, e3, e4, e5, e6]
    · next hk => rw [if_neg hk] at h; cases h
end Go.Proofs.Ytjfoicebdjonfaa
