/- LocksRuns: what asking and giving back make of both; plain laws over the contracts. No condition but bounds of lengths. -/
import Derived.Test.YtckppkimjiifpaaQNe
import Derived.Test.YtckppkimjiifpaaQb1
set_option linter.unusedSectionVars false
set_option linter.unusedVariables false
set_option linter.unusedSimpArgs false
set_option linter.deprecated false
namespace Go.Proofs.Ytckppkimjiifpaa
open Go.RowKit Go.Cx Go.Am
theorem give_w {g : FuncId} {al : List AV} {H H0 : Heap} {e : Int} (h : ACalls E0 g al H fun r H' => r = .tup [.v (.slice none 0 0), .v (.int .i64 e)] ∧ H' = H0) : ACalls E0 g al H fun r H' => r = .tup [.sl 1 (cels ([] : List Int)), .v (.int .i64 e)] ∧ H' = H0 := by
  refine calls_wk ?_
  unfold ACalls at h ⊢
  refine ⟨h.1, fun w M vs hG hv => (h.2 w M vs hG hv).mono ?_⟩
  rintro e' w' ⟨r, H', v, M', rfl, ⟨rfl, rfl⟩, q⟩
  exact ⟨_, _, v, M', rfl, ⟨_, (show Wk (.tup [.v (.slice none 0 0), .v (.int .i64 e)]) (.tup [.sl 1 (cels ([] : List Int)), .v (.int .i64 e)]) from Wk.tups ⟨Wk.nil 1, Wk.refl _, trivial⟩), rfl, rfl⟩, q⟩
def giveF (n : Int) (h r : List One) (t k : Int) : List Int × Int × List One × List One :=
  if ¬ ((0 ≤ k ∧ k < n) ∧ 0 ≤ t ∧ t < 4096) then ([], 210, h, r)
  else if posF h t k h.length < 0 then ([], 213, h, r)
  else ((entF k r (h.take (posF h t k h.length).toNat ++ h.drop ((posF h t k h.length).toNat + 1))).1, 0, (entF k r (h.take (posF h t k h.length).toNat ++ h.drop ((posF h t k h.length).toNat + 1))).2)
theorem fgive_am (n : Int) (h r : List One) (t k : Int) (hl : h.length ≤ 1000) (hr : r.length ≤ 1000) : ACalls E0 33 [.ptr 0 0, .v (.int .i64 t), .v (.int .i64 k)] [some (.obj [.v (.int .i64 n), .sl 3 (cels h), .sl 3 (cels r)])] fun x H' => x = .tup [.sl 1 (cels (giveF n h r t k).1), .v (.int .i64 (giveF n h r t k).2.1)] ∧ H' = [some (.obj [.v (.int .i64 n), .sl 3 (cels (giveF n h r t k).2.2.1), .sl 3 (cels (giveF n h r t k).2.2.2)])] := by
  unfold giveF
  split
  · next c => exact fgive1_am n h r t k hl hr c
  · next c =>
    have c := Classical.not_not.1 c
    split
    · next c2 => exact fgive2_am n h r t k hl hr c c2
    · next c2 =>
      obtain ⟨a, ha⟩ := Int.eq_ofNat_of_zero_le (show 0 ≤ posF h t k h.length by omega)
      have := fgive3_am n h r t k a hl hr c ha
      rw [ha, Int.toNat_natCast]
      exact this
section
variable {n : Nat} {st : List Lk} {h r : List One}
theorem any_pos {l : List (Int × Bool)} {p : Int × Bool → Bool} (q : l.any p = true) : ∃ x ∈ l, p x = true := List.any_eq_true.1 q
theorem Rel.ask (R : Rel n st h r) (hn : 1 ≤ n ∧ n ≤ 67) (ht : tot st ≤ 1000) (t k : Int) (w : Bool) :
    ∃ st', (ACalls E0 22 [.ptr 0 0, .v (.int .i64 t), .agg [.v (.int .i64 k), .v (.bool w)]] (LH st) fun x H' => x = .tup [.v (.bool (askF n h r t k w).1), .v (.int .i64 (askF n h r t k w).2.1)] ∧ H' = LH st') ∧ Rel n st' (askF n h r t k w).2.2.1 (askF n h r t k w).2.2.2 ∧ tot st' ≤ tot st + 1 ∧ (askF n h r t k w).2.2.1.length + (askF n h r t k w).2.2.2.length ≤ h.length + r.length + 1 := by
  have hs := R.len
  have hrow : ∀ i, (lk st i).row.length ≤ 1000000 := fun i => by have := tot_ge st i; omega
  by_cases c0 : (0 ≤ k ∧ k < n) ∧ 0 ≤ t ∧ t < 4096
  · obtain ⟨i, rfl⟩ := Int.eq_ofNat_of_zero_le c0.1.1
    have hi : i < st.length := by omega
    have hin : i < n := by omega
    have hT : isT t := c0.2
    have ok := R.inv.ok i hi
    have hinv := ask_inv R.inv w hi (show 0 ≤ t ∧ t < (4096 : Int) from c0.2)
    have e1 : ((wtF r t).isSome || (hsF h t).any fun x => decide (x.1 = (i : Int))) = true ↔ waits st t ≠ none ∨ how (lk st i).held t ≠ 0 := by
      rw [R.waits_eq, R.holds_eq, Bool.or_eq_true]
      refine or_congr ?_ ?_
      · cases waits st t <;> simp
      · constructor
        · intro q
          obtain ⟨x, hx, e⟩ := any_pos q
          obtain ⟨j, j1, j2, _, j4⟩ := holds_out hx
          have : x.1 = (i : Int) := by simpa using e
          obtain rfl : i = j := by omega
          exact j4
        · intro q
          exact List.any_eq_true.2 ⟨_, holds_in hi q, by simp⟩
    have e2 : ((hsF h t).any fun x => decide ((i : Int) < x.1)) = true ↔ ¬ laterNo st t i := by
      rw [R.holds_eq]
      constructor
      · intro q hq
        obtain ⟨x, hx, e⟩ := any_pos q
        obtain ⟨j, j1, j2, _, j4⟩ := holds_out hx
        have : (i : Int) < x.1 := by simpa using e
        exact j4 (hq j (by omega) j1)
      · intro q
        obtain ⟨j, hj⟩ := Classical.not_forall.1 q
        have j1 : i < j := Classical.byContradiction fun c => hj fun a => absurd a c
        have j2 : j < st.length := Classical.byContradiction fun c => hj fun _ a => absurd a c
        have j3 : how (lk st j).held t ≠ 0 := fun a => hj fun _ _ => a
        exact List.any_eq_true.2 ⟨_, holds_in j2 j3, by simpa using j1⟩
    have e3 : (hdF r i).length = 0 ↔ (lk st i).row = [] := by
      rw [R.queue_eq hin]
      unfold queue
      simp
    have e4 := relH_fits R.held hin ok.val ok.nd w
    unfold askF
    rw [if_neg (Classical.not_not.2 c0)]
    by_cases q1 : waits st t ≠ none ∨ how (lk st i).held t ≠ 0
    · rw [if_pos (e1.2 q1)]
      exact ⟨st, lask1_am st t i w hi hT (by omega) hrow q1, R, by omega, by simp only; omega⟩
    · rw [if_neg (fun a => q1 (e1.1 a))]
      have hw : waits st t = none := Classical.byContradiction fun c => q1 (.inl c)
      have hh : how (lk st i).held t = 0 := Classical.byContradiction fun c => q1 (.inr c)
      have hkn : t ∉ keys (lk st i).held := (how_zero ok.val t).1 hh
      by_cases q2 : laterNo st t i
      · rw [if_neg (fun a => (e2.1 a) q2)]
        unfold askS at hinv
        rw [if_neg q1, if_neg (Classical.not_not.2 q2)] at hinv
        by_cases q3 : (lk st i).row = [] ∧ fitsB (lk st i).held w = true
        · rw [if_pos ⟨e3.2 q3.1, by rw [e4]; exact q3.2⟩]
          rw [if_pos q3] at hinv
          refine ⟨_, lask3_am st t i w hi hT (by omega) hrow hw hh q2 q3.1 q3.2, ⟨by rw [List.length_set]; exact hs, hinv.1, ?_, fun j hj => ?_, R.rng⟩, hinv.2, ?_⟩
          · exact relH_hold hs R.held hin w hkn _
          · by_cases e : i = j
            · subst e
              rw [lk_set hi]
              exact R.rows i hj
            · rw [lk_set_ne e]
              exact R.rows j hj
          · simp only [insF_len]
            omega
        · rw [if_neg (fun a => q3 ⟨e3.1 a.1, by rw [← e4]; exact a.2⟩)]
          rw [if_neg q3] at hinv
          have hq4 : (lk st i).row ≠ [] ∨ fitsB (lk st i).held w = false := by
            by_cases a : (lk st i).row = []
            · exact .inr (by simpa [a] using q3)
            · exact .inl a
          refine ⟨_, lask4_am st t i w hi hT (by omega) hrow hw hh q2 hq4, ⟨by rw [List.length_set]; exact hs, hinv.1, ⟨R.held.srt, fun t' i' v => ?_⟩, fun j hj => ?_, fun x hx => ?_⟩, hinv.2, ?_⟩
          · rw [R.held.mem]
            have : ∀ j, (lk (st.set i ⟨(lk st i).held, (lk st i).row ++ [(t, w)]⟩) j).held = (lk st j).held := fun j => by
              by_cases e : i = j
              · subst e; rw [lk_set hi]
              · rw [lk_set_ne e]
            simp only [this]
          · unfold rowOf
            rw [List.filter_append, List.map_append]
            have hj2 := R.rows j hj
            unfold rowOf at hj2
            by_cases e : i = j
            · subst e
              rw [lk_set hi, hj2]
              simp
            · rw [lk_set_ne e, hj2, List.filter_cons_of_neg (by simp; omega)]
              simp
          · rcases List.mem_append.1 hx with hx | hx
            · exact R.rng x hx
            · rw [List.mem_singleton.1 hx]
              exact ⟨i, rfl, hin⟩
          · simp only [List.length_append, List.length_cons, List.length_nil]
            omega
      · rw [if_pos (e2.2 q2)]
        refine ⟨st, lask2_am st t i w hi hT (by omega) hrow hw hh ?_, R, by omega, by simp only; omega⟩
        refine Classical.byContradiction fun c => q2 fun j h3 h4 => ?_
        exact Classical.byContradiction fun c2 => c ⟨j, h3, h4, c2⟩
  · unfold askF
    rw [if_pos c0]
    refine ⟨st, lask0_am st t k w (by omega) ?_, R, by omega, by simp only; omega⟩
    by_cases c1 : 0 ≤ k ∧ k < st.length
    · right
      intro c2
      exact c0 ⟨by omega, c2⟩
    · exact .inl c1
/-- Who is let in, of both. -/
theorem ent_rel (hl : st.length = n) {k : Nat} (hk : k < n) : ∀ (r : List One) (m : List (Int × Int)) (h : List One) (row0 : List (Int × Bool)), RelH n (st.set k ⟨m, row0⟩) h → LkOk m (rowOf r k) →
    (entF k r h).1 = (enterL m (rowOf r k)).1 ∧ (∀ row1, RelH n (st.set k ⟨(enterL m (rowOf r k)).2.1, row1⟩) (entF k r h).2.1) ∧ rowOf (entF k r h).2.2 k = (enterL m (rowOf r k)).2.2 ∧ (∀ j : Int, j ≠ k → rowOf (entF k r h).2.2 j = rowOf r j) ∧ ∀ x ∈ (entF k r h).2.2, x ∈ r
  | [], m, h, row0, H, _ => by
    refine ⟨rfl, fun row1 => ⟨H.srt, fun t i w => ?_⟩, rfl, fun _ _ => rfl, fun _ a => a⟩
    rw [show (entF (k : Int) [] h).2.1 = h from rfl, H.mem]
    have : ∀ j, (lk (st.set k ⟨(enterL m (rowOf [] k)).2.1, row1⟩) j).held = (lk (st.set k ⟨m, row0⟩) j).held := fun j => by
      by_cases e : k = j
      · subst e
        rw [lk_set (by omega), lk_set (by omega)]
        rfl
      · rw [lk_set_ne e, lk_set_ne e]
    simp only [this]
  | (t, i, w) :: r, m, h, row0, H, ok => by
    by_cases e : i = (k : Int)
    · subst e
      have er : rowOf ((t, (k : Int), w) :: r) k = (t, w) :: rowOf r k := by
        unfold rowOf
        rw [List.filter_cons_of_pos (by simp)]
        rfl
      rw [er] at ok ⊢
      have hm : (lk (st.set k ⟨m, row0⟩) k).held = m := by rw [lk_set (by omega)]
      have hfit := relH_fits (st := st.set k ⟨m, row0⟩) H hk (by rw [hm]; exact ok.val) (by rw [hm]; exact ok.nd) w
      rw [hm] at hfit
      unfold entF enterL
      simp only [ne_eq, not_true_eq_false, if_false]
      rw [hfit]
      by_cases hf : fitsB m w = true
      · rw [if_neg (by rw [hf]; simp), if_pos hf]
        obtain ⟨h1, h2, h3⟩ := hold_ok ok hf
        have hn : t ∉ keys m := ok.apart (t, w) List.mem_cons_self
        have H2 := relH_hold (st := st.set k ⟨m, row0⟩) (by rw [List.length_set]; exact hl) H hk (t := t) w (by rw [hm]; exact hn) row0
        rw [hm, set_set'] at H2
        obtain ⟨i1, i2, i3, i4, i5⟩ := ent_rel hl hk r (holdM m t w) (insF h (t, k, w)) row0 H2 h1
        refine ⟨by simp only [i1], i2, i3, fun j hj => ?_, fun x hx => List.mem_cons_of_mem _ (i5 x hx)⟩
        rw [i4 j hj]
        unfold rowOf
        rw [List.filter_cons_of_neg (by simp; exact fun e => hj e.symm)]
      · have hf2 : fitsB m w = false := by simpa using hf
        rw [if_pos hf2, if_neg hf]
        refine ⟨rfl, fun row1 => ⟨H.srt, fun t' i' w' => ?_⟩, er, fun _ _ => rfl, fun _ a => a⟩
        simp only
        rw [H.mem]
        have : ∀ j, (lk (st.set k ⟨m, row1⟩) j).held = (lk (st.set k ⟨m, row0⟩) j).held := fun j => by
          by_cases e : k = j
          · subst e
            rw [lk_set (by omega), lk_set (by omega)]
          · rw [lk_set_ne e, lk_set_ne e]
        simp only [this]
    · have er : rowOf ((t, i, w) :: r) k = rowOf r k := by
        unfold rowOf
        rw [List.filter_cons_of_neg (by simpa using e)]
      rw [er] at ok ⊢
      obtain ⟨i1, i2, i3, i4, i5⟩ := ent_rel hl hk r m h row0 H ok
      unfold entF
      simp only [ne_eq, e, not_false_eq_true, if_true]
      refine ⟨i1, i2, ?_, fun j hj => ?_, fun x hx => ?_⟩
      · unfold rowOf at i3 ⊢
        rw [List.filter_cons_of_neg (by simpa using e)]
        exact i3
      · have := i4 j hj
        unfold rowOf at this ⊢
        by_cases e2 : i = j
        · rw [List.filter_cons_of_pos (by simpa using e2), List.filter_cons_of_pos (by simpa using e2), List.map_cons, List.map_cons, this]
        · rw [List.filter_cons_of_neg (by simpa using e2), List.filter_cons_of_neg (by simpa using e2), this]
      · rcases List.mem_cons.1 hx with rfl | hx
        · simp
        · exact List.mem_cons_of_mem _ (i5 x hx)
theorem entF_sz (k : Int) : ∀ (r h : List One), (entF k r h).2.1.length + (entF k r h).2.2.length = h.length + r.length
  | [], h => rfl
  | x :: r, h => by
    unfold entF
    split
    · have := entF_sz k r h
      simp only [List.length_cons]
      omega
    · split
      · rfl
      · have := entF_sz k r (insF h x)
        rw [insF_len] at this
        simp only [List.length_cons]
        omega
theorem Rel.give (R : Rel n st h r) (hn : 1 ≤ n ∧ n ≤ 67) (ht : tot st ≤ 1000) (t k : Int) :
    ∃ st', (ACalls E0 15 [.ptr 0 0, .v (.int .i64 t), .v (.int .i64 k)] (LH st) fun x H' => x = .tup [.sl 1 (cels (giveF n h r t k).1), .v (.int .i64 (giveF n h r t k).2.1)] ∧ H' = LH st') ∧ Rel n st' (giveF n h r t k).2.2.1 (giveF n h r t k).2.2.2 ∧ tot st' ≤ tot st ∧ (giveF n h r t k).2.2.1.length + (giveF n h r t k).2.2.2.length ≤ h.length + r.length ∧ (giveF n h r t k).1.length ≤ r.length := by
  have hs := R.len
  have hrow : ∀ i, (lk st i).row.length ≤ 1000000 := fun i => by have := tot_ge st i; omega
  by_cases c0 : (0 ≤ k ∧ k < n) ∧ 0 ≤ t ∧ t < 4096
  · obtain ⟨i, rfl⟩ := Int.eq_ofNat_of_zero_le c0.1.1
    have hi : i < st.length := by omega
    have hin : i < n := by omega
    have hT : isT t := c0.2
    have ok := R.inv.ok i hi
    unfold giveF
    rw [if_neg (Classical.not_not.2 c0)]
    have hpos := posF_in h t i h.length
    by_cases hh : how (lk st i).held t = 0
    · have hp : posF h t i h.length < 0 := by
        rcases hpos with e | ⟨j, j1, j2, j3, j4⟩
        · omega
        · exfalso
          have hm := gt_mem j1
          have : gt h j = (t, (i : Int), (gt h j).2.2) := by rw [← j3, ← j4]
          rw [this] at hm
          obtain ⟨q, q1, q2, q3⟩ := (R.held.mem _ _ _).1 hm
          obtain rfl : i = q := by omega
          rw [hh] at q3
          split at q3 <;> cases q3
      rw [if_pos hp]
      exact ⟨st, give_w (lgive1_am st t i hi hT hh), R, Nat.le_refl _, Nat.le_refl _, Nat.zero_le _⟩
    · have hk : t ∈ keys (lk st i).held := Classical.byContradiction fun c => hh (how_abs c)
      have hmem := (R.held.mem t i _).2 ⟨i, rfl, hin, R.how_w hin hh⟩
      have hp : ∃ a : Nat, posF h t i h.length = (a : Int) ∧ a < h.length ∧ (gt h a).1 = t ∧ (gt h a).2.1 = (i : Int) := by
        rcases hpos with e | ⟨j, j1, j2, j3, j4⟩
        · exfalso
          have key : ∀ q, q ≤ h.length → posF h t i q = -1 → ∀ j, j < q → ¬ ((gt h j).1 = t ∧ (gt h j).2.1 = (i : Int)) := by
            intro q
            induction q with
            | zero => intro _ _ j hj; omega
            | succ q ih =>
              intro hq hp j hj
              unfold posF at hp
              split at hp
              · omega
              · next hc =>
                by_cases e : j = q
                · subst e; exact hc
                · exact ih (by omega) hp j (by omega)
          obtain ⟨j, hj, e2⟩ := List.getElem_of_mem hmem
          have := key h.length (Nat.le_refl _) e j hj
          rw [gt_eq hj, e2] at this
          exact this ⟨rfl, rfl⟩
        · exact ⟨j, j2, j1, j3, j4⟩
      obtain ⟨a, a1, a2, a3, a4⟩ := hp
      rw [if_neg (by omega), a1, Int.toNat_natCast]
      obtain ⟨d1, d2, d3, d4⟩ := mdel_ok ok hk
      have hx : gt h a = (t, (i : Int), (gt h a).2.2) := by rw [← a3, ← a4]
      have hsplit : h = h.take a ++ gt h a :: h.drop (a + 1) := by rw [← drop_gt a2, List.take_append_drop]
      have hsub : (h.take a ++ h.drop (a + 1)).Sublist h := by
        conv => rhs; rw [hsplit]
        exact List.Sublist.append (List.Sublist.refl _) (List.sublist_cons_self _ _)
      have H1 : RelH n (st.set i ⟨mdel (lk st i).held t, (lk st i).row⟩) (h.take a ++ h.drop (a + 1)) := by
        refine ⟨R.held.srt.sublist hsub, fun t' i' w => ?_⟩
        have hiff : (t', i', w) ∈ h.take a ++ h.drop (a + 1) ↔ (t', i', w) ∈ h ∧ ¬ (t' = t ∧ i' = (i : Int)) := by
          constructor
          · intro q
            refine ⟨hsub.subset q, fun e => ?_⟩
            have hsrt := R.held.srt
            rw [hsplit, List.pairwise_append, List.pairwise_cons] at hsrt
            rcases List.mem_append.1 q with q | q
            · have := hsrt.2.2 _ q (gt h a) (by simp)
              rw [ahd_iff] at this
              simp only [e.1, e.2, a3, a4] at this
              omega
            · have := hsrt.2.1.1 _ q
              rw [ahd_iff] at this
              simp only [e.1, e.2, a3, a4] at this
              omega
          · rintro ⟨q, e⟩
            rw [hsplit] at q
            rcases List.mem_append.1 q with q | q
            · exact List.mem_append.2 (.inl q)
            · rcases List.mem_cons.1 q with q | q
              · exfalso
                rw [hx] at q
                cases q
                exact e ⟨rfl, rfl⟩
              · exact List.mem_append.2 (.inr q)
        rw [hiff, R.held.mem]
        constructor
        · rintro ⟨⟨j, j1, j2, j3⟩, e⟩
          refine ⟨j, j1, j2, ?_⟩
          by_cases e2 : i = j
          · subst e2
            rw [lk_set hi, how_del ok hk, if_neg (fun q => e ⟨q, j1⟩)]
            exact j3
          · rw [lk_set_ne e2]
            exact j3
        · rintro ⟨j, j1, j2, j3⟩
          by_cases e2 : i = j
          · subst e2
            rw [lk_set hi, how_del ok hk] at j3
            split at j3
            · split at j3 <;> cases j3
            · next e3 => exact ⟨⟨i, j1, j2, j3⟩, fun q => e3 q.1⟩
          · rw [lk_set_ne e2] at j3
            exact ⟨⟨j, j1, j2, j3⟩, fun q => e2 (by omega)⟩
      have hrw := R.rows i hin
      obtain ⟨i1, i2, i3, i4, i5⟩ := ent_rel hs hin r (mdel (lk st i).held t) _ (lk st i).row H1 (by rw [hrw]; exact d1)
      rw [hrw] at i1 i2 i3
      obtain ⟨g1, g2, _⟩ := gave_inv R.inv hi hk
      have hsz := entF_sz (i : Int) r (h.take a ++ h.drop (a + 1))
      have hln := entF_len (i : Int) r (h.take a ++ h.drop (a + 1))
      have hl1 := hsub.length_le
      refine ⟨st.set i (gaveK (lk st i) t), ?_, ⟨by rw [List.length_set]; exact hs, g1, i2 _, fun j hj => ?_, fun x hx => R.rng x (i5 x hx)⟩, by omega, by simp only; omega, by simp only; omega⟩
      · have := lgive2_am st t i hi hT hh (hrow i)
        simp only
        rw [i1]
        exact this
      · by_cases e : i = j
        · subst e
          rw [lk_set hi]
          exact i3
        · rw [lk_set_ne e]
          show rowOf (entF _ _ _).2.2 _ = _
          rw [i4 j (by omega)]
          exact R.rows j hj
  · unfold giveF
    rw [if_pos c0]
    refine ⟨st, give_w (lgive0_am st t k (by omega) ?_), R, Nat.le_refl _, Nat.le_refl _, Nat.zero_le _⟩
    by_cases c1 : 0 ≤ k ∧ k < st.length
    · right
      intro c2
      exact c0 ⟨by omega, c2⟩
    · exact .inl c1
theorem rel_init (hn : 1 ≤ n ∧ n ≤ 67) : Rel n (reps n) [] [] := by
  have hlk : ∀ i, lk (reps n) i = lk0 := fun i => by
    unfold lk reps
    rw [List.getD_eq_getElem?_getD, List.getElem?_replicate]
    split <;> rfl
  refine ⟨by simp [reps], (reps_inv n).1, ⟨List.Pairwise.nil, fun t i w => ?_⟩, fun k _ => by rw [hlk]; rfl, fun x hx => by cases hx⟩
  constructor
  · intro h; cases h
  · rintro ⟨k, _, _, e⟩
    rw [hlk] at e
    cases w <;> simp [how, mfind, lk0] at e
end
end Go.Proofs.Ytckppkimjiifpaa
