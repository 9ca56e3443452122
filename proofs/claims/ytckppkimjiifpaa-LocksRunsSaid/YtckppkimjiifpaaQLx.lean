/- Locks: For, by the machine, over the library's sort. No condition but bounds of lengths. -/
import Derived.Test.YtckppkimjiifpaaQLw
import Derived.Test.YtckppkimjiifpaaQb1
import Derived.Test.YtckppkimjiifpaaQgs
set_option linter.unusedSectionVars false
set_option linter.unusedVariables false
set_option linter.unusedSimpArgs false
set_option linter.deprecated false
namespace Go.Proofs.Ytckppkimjiifpaa
open Go.RowKit Go.Cx Go.Am
set_option maxRecDepth 8000
set_option maxHeartbeats 2000000
attribute [local irreducible] ACalls jcall jsame jex jexg jexh jguard jconv jload jpart jstore jbin jslice jidxA jidx jfield jfieldA jbuild jbuildS jmake jappend jlen jpick jres jcnd jcopy jcap jborn jdraw jops jop jstr jstrc jlive jend jlenM jmmake jlook jmput jmdel jrange jnext jentry jlk jmp2 jmd2 jlm jrg jnx jny jen jeo
attribute [local go_sem] reduceIte Nat.reduceEqDiff Nat.reduceAdd Nat.reduceMul Nat.reduceLT Nat.reduceLeDiff Nat.reduceSub Int.reduceLT Int.reduceLE Int.reduceToNat Int.reduceNeg Int.reduceAdd Int.reduceSub UInt8.reduceToNat Int.reduceEq reduceCtorEq Int.reducePow Int.reduceMul Nat.reducePow E0
attribute [local go_sem ↓] reduceIte
attribute [local go_sem high] chunks_bvs
attribute [local go_sem] tgs_nil tgs_snoc tagC_eq rwb_nil jop_makeMap jop_lookup jop_mapUpdate jop_delete jop_range jop_next jop_entry jmmake_m jlook_m jlk_mI jmput_m jmp2_mI jmdel_m jmd2_mB jlenM_m jlm_mB jrange_m jnext_m jnx_m jentry_m jen_m jeo_mS nbB_mI nbB_mSI bmap_mI bmap_mSI mB_nil vI nbB_o nbB_r nbB_i bmap_o bmap_r bmap_i gfB_o gfB_r gfB_i cl1_iiib
attribute [local go_sem ←] List.map_take List.map_drop

/-- Those who stand before t in a row. -/
def before (q : List Int) (t : Int) : List Int := q.takeWhile fun x => decide (x ≠ t)
theorem before_take {t : Int} : ∀ {q : List Int} {j : Nat}, t ∉ q.take j → (q.drop j).head? = some t ∨ q.length ≤ j → before q t = q.take j
  | [], j, _, _ => by simp [before]
  | a :: q, 0, _, h => by
    rcases h with h | h
    · have : a = t := by simpa using h
      subst this
      simp [before]
    · simp at h
  | a :: q, j + 1, h1, h2 => by
    have h1' : ¬ (t = a ∨ t ∈ q.take j) := by simpa using h1
    have ha : decide (a ≠ t) = true := decide_eq_true fun e => h1' (.inl e.symm)
    have ih := before_take (q := q) (j := j) (t := t) (fun h => h1' (.inr h)) (by simpa using h2)
    unfold before at ih ⊢
    rw [List.takeWhile_cons, ha, if_pos rfl, ih]
    rfl
/-- For whom a task waits. -/
def forL (st : List Lk) (t : Int) : List Int := match waits st t with
  | some (i, _) => holders st i ++ before (queue st i) t
  | none => []
theorem lfor_am (hso : SortOk) (st : List Lk) (t : Int) (hl : st.length ≤ 1000) (hr : ∀ i, (lk st i).row.length ≤ 1000000 ∧ (lk st i).held.length ≤ 1000000) : ACalls E0 18 [.ptr 0 0, .v (.int .i64 t)] (LH st) fun r H' => r = .sl 1 (cels (forL st t)) ∧ H' = LH st := by
  have h3 := lwaits_am st t hl (fun i => (hr i).1)
  unfold forL
  cases hw : waits st t with
  | none =>
    rw [hw] at h3
    simp only [needA, Option.isSome_none] at h3
    refine calls_q (calls_of Try.func18 rfl (by kernel_rfl) (by kernel_rfl) (by rw [Try.ntmps18]; exact Nat.le_of_ble_eq_true rfl) (fun hH0 hA0 => ?_)); rw [Try.results18]
    (repeat' (first | (have hs := Mk.out hs; (try simp only [decide_eq_true_eq, decide_eq_false_iff_not, Bool.not_eq_true, Bool.not_eq_false, Bool.not_true, Bool.not_false, Bool.not_eq_eq_eq_not, Bool.and_eq_true, Bool.or_eq_true, beq_iff_eq, bne_iff_ne, beq_eq_false_iff_ne, ne_eq, Classical.not_not, not_true_eq_false, not_false_eq_true, forall_const, Bool.false_eq_true, false_implies, eq_self] at hs); (try (exfalso; omega)); (try simp (disch := omega) only [go_sem, hs])) | (refine z_seqr rfl ?_) | (refine w_seq rfl fun K hK => ?_) | (refine z_reg rfl ?_) | (refine z_cond rfl ?_) | (refine w_skip rfl ?_; ((repeat ((fail_if_success (refine hK _ _ (cl_id ?_))); clear hK)); refine hK _ _ (cl_id ?_); clear hK)) | (refine w_ret rfl ?_; (try dsimp only [anorm, ablock, astay]); refine z_end ?_) | (refine z_end0 ?_) | (refine w_block rfl ?_) | (refine w_scope rfl ?_) | (refine w_label rfl ?_; ((repeat ((fail_if_success (refine hK _ _ (cl_id ?_))); clear hK)); refine hK _ _ (cl_id ?_); clear hK)) | (refine w_exit rfl ?_; (try dsimp only [anorm, ablock, astay]); (try simp only [reduceIte, ↓reduceIte, Nat.reduceEqDiff]); ((repeat ((fail_if_success (refine hK _ _ (cl_id ?_))); clear hK)); refine hK _ _ (cl_id ?_); clear hK)) | (refine jend_go [(11, [4]), (10, [1, 7, 25, 26, 27]), (9, [1, 7, 25, 26, 27]), (8, [1, 7, 9, 25, 26, 27, 33]), (7, [1, 7, 9, 25, 26, 27]), (6, [1, 7, 25, 26, 27, 28]), (5, [1, 7, 25, 26, 27]), (4, [0, 1, 5, 7]), (3, [4]), (2, [0, 1, 5, 17]), (1, [0, 1, 5, 6]), (0, [0, 1])] ?_; simp only [tabAt_cons, sel_nil, sel_cons, put_at, ofl_cons, ofl_nil, T0_at, List.getElem?_cons_zero, List.getElem?_cons_succ, List.getElem?_nil, Option.getD_some, Option.getD_none, reduceIte, ↓reduceIte, Nat.reduceEqDiff]; refine jl_go ?_) | simp (disch := omega) only [go_sem] | (refine jc_t ?_) | (refine jc_f ?_) | (refine z_ret (h3) ?_) | (refine And.intro (by (first | omega | (simp; done) | (simp; omega))) ?_) | (refine mc_b (fun hs => ?_) fun hs => ?_) | (refine mg_st (fun hs => ?_) fun hs => ?_) | (refine mg_sf (fun hs => ?_) fun hs => ?_) | (refine mall_s (fun hs => ?_) fun hs => ?_) | (refine malln_s (fun hs => ?_) fun hs => ?_) | (refine mpk_s (fun hs => ?_) fun hs => ?_) | ((repeat ((fail_if_success (refine hK _ _ (cl_id ?_))); clear hK)); refine hK _ _ (cl_id ?_); clear hK)))
    exact end_L 0 (Nat.le_refl _) ⟨rfl, rfl⟩ ⟨trivial, Wk.nil 1⟩
  | some p =>
    obtain ⟨i, w⟩ := p
    rw [hw] at h3
    simp only [needA, Option.isSome_some] at h3
    simp only
    obtain ⟨hi, _⟩ := waits_out hw
    have hh := lholders_hot hso st i hi (hr i).2
    have hq := lqueue_am st i hi (hr i).1
    have lq : (queue st i).length ≤ 1000000 := by unfold queue; rw [List.length_map]; exact (hr i).1
    have lh : (holders st i).length ≤ 1000000 := by
      unfold holders
      rw [srtI_len, List.length_map]
      exact (hr i).2
    have hes : nbss 0 (cels (holders st i)) := of_eq_true (cels_nbss _)
    generalize queue st i = q at *
    generalize holders st i = z at *
    refine calls_q (calls_of Try.func18 rfl (by kernel_rfl) (by kernel_rfl) (by rw [Try.ntmps18]; exact Nat.le_of_ble_eq_true rfl) (fun hH0 hA0 => ?_)); rw [Try.results18]
    (repeat' (first | (have hs := Mk.out hs; (try simp only [decide_eq_true_eq, decide_eq_false_iff_not, Bool.not_eq_true, Bool.not_eq_false, Bool.not_true, Bool.not_false, Bool.not_eq_eq_eq_not, Bool.and_eq_true, Bool.or_eq_true, beq_iff_eq, bne_iff_ne, beq_eq_false_iff_ne, ne_eq, Classical.not_not, not_true_eq_false, not_false_eq_true, forall_const, Bool.false_eq_true, false_implies, eq_self] at hs); (try (exfalso; omega)); (try simp (disch := omega) only [go_sem, hs])) | (refine z_seqr rfl ?_) | (refine w_seq rfl fun K hK => ?_) | (refine z_reg rfl ?_) | (refine z_cond rfl ?_) | (refine w_skip rfl ?_; ((repeat ((fail_if_success (refine hK _ _ (cl_id ?_))); clear hK)); refine hK _ _ (cl_id ?_); clear hK)) | (refine w_ret rfl ?_; (try dsimp only [anorm, ablock, astay]); refine z_end ?_) | (refine z_end0 ?_) | (refine w_block rfl ?_) | (refine w_scope rfl ?_) | (refine w_label rfl ?_; ((repeat ((fail_if_success (refine hK _ _ (cl_id ?_))); clear hK)); refine hK _ _ (cl_id ?_); clear hK)) | (refine w_exit rfl ?_; (try dsimp only [anorm, ablock, astay]); (try simp only [reduceIte, ↓reduceIte, Nat.reduceEqDiff]); ((repeat ((fail_if_success (refine hK _ _ (cl_id ?_))); clear hK)); refine hK _ _ (cl_id ?_); clear hK)) | (refine jend_go [(11, [4]), (10, [1, 7, 25, 26, 27]), (9, [1, 7, 25, 26, 27]), (8, [1, 7, 9, 25, 26, 27, 33]), (7, [1, 7, 9, 25, 26, 27]), (6, [1, 7, 25, 26, 27, 28]), (5, [1, 7, 25, 26, 27]), (4, [0, 1, 5, 7]), (3, [4]), (2, [0, 1, 5, 17]), (1, [0, 1, 5, 6]), (0, [0, 1])] ?_; simp only [tabAt_cons, sel_nil, sel_cons, put_at, ofl_cons, ofl_nil, T0_at, List.getElem?_cons_zero, List.getElem?_cons_succ, List.getElem?_nil, Option.getD_some, Option.getD_none, reduceIte, ↓reduceIte, Nat.reduceEqDiff]; refine jl_go ?_) | simp (disch := omega) only [go_sem] | (refine jc_t ?_) | (refine jc_f ?_) | (refine z_ret (h3) ?_) | (apply zLR hh hes; (case ok => (simp only [nbs, nb, nbss, cels_nbss, and_true, true_and]; try omega))) | (apply zL hq rfl; (case ok => (simp only [nbs, nb, nbss, cels_nbss, and_true, true_and]; try omega))) | (refine And.intro (by (first | omega | (simp; done) | (simp; omega))) ?_) | (refine mc_b (fun hs => ?_) fun hs => ?_) | (refine mg_st (fun hs => ?_) fun hs => ?_) | (refine mg_sf (fun hs => ?_) fun hs => ?_) | (refine mall_s (fun hs => ?_) fun hs => ?_) | (refine malln_s (fun hs => ?_) fun hs => ?_) | (refine mpk_s (fun hs => ?_) fun hs => ?_) | ((repeat ((fail_if_success (refine hK _ _ (cl_id ?_))); clear hK)); refine hK _ _ (cl_id ?_); clear hK)))
    refine z_loop (α := Nat) rfl (fun j => j ≤ q.length ∧ t ∉ q.take j) (fun j => q.length - j) (fun j => [(1, .v (.int .i64 t)), (7, .hs (LH st).length 1 0 (z ++ q.take j).length), (25, .sl 1 (cels q)), (26, .v (.int .i64 (q.length : Int))), (27, .v (.int .i64 (j : Int)))]) (fun j => LH st ++ [some (.row true 1 (cels (z ++ q.take j)))]) 0 ⟨Nat.zero_le _, by simp⟩ (cq_ren [1] (Nat.le_refl _) (LH_nbs st) (by decide) ?_ ?_) ?_
    · simp only [List.take_zero, List.append_nil]
      (simp (disch := omega) only [go_sem])
    · simp only [List.take_zero, List.append_nil]
      (simp (disch := omega) only [go_sem])
    rintro j ⟨hj1, hj2⟩ Ko hKo
    have fin : ∀ y, before q t = q.take j → y = z ++ before q t → y = z ++ q.take j := fun y h1 h2 => by rw [h2, h1]
    by_cases c1 : (j : Int) < q.length
    · by_cases c2 : gt q j = t
      · have hb : before q t = q.take j := before_take hj2 (.inl (by rw [List.head?_drop, List.getElem?_eq_getElem (by omega), ← c2, gt_eq (by omega)]))
        simp only [hb] at hK
        clear hKo fin
        generalize z ++ q.take j = acc at *
        (repeat' (first | (have hs := Mk.out hs; (try simp only [decide_eq_true_eq, decide_eq_false_iff_not, Bool.not_eq_true, Bool.not_eq_false, Bool.not_true, Bool.not_false, Bool.not_eq_eq_eq_not, Bool.and_eq_true, Bool.or_eq_true, beq_iff_eq, bne_iff_ne, beq_eq_false_iff_ne, ne_eq, Classical.not_not, not_true_eq_false, not_false_eq_true, forall_const, Bool.false_eq_true, false_implies, eq_self] at hs); (try (exfalso; omega)); (try simp (disch := omega) only [go_sem, c1, c2, hs])) | (refine z_seqr rfl ?_) | (refine w_seq rfl fun K hK => ?_) | (refine z_reg rfl ?_) | (refine z_cond rfl ?_) | (refine w_skip rfl ?_; ((repeat ((fail_if_success (refine hK _ _ (cl_id ?_))); clear hK)); refine hK _ _ (cl_id ?_); clear hK)) | (refine w_ret rfl ?_; (try dsimp only [anorm, ablock, astay]); refine z_end ?_) | (refine z_end0 ?_) | (refine w_block rfl ?_) | (refine w_scope rfl ?_) | (refine w_label rfl ?_; ((repeat ((fail_if_success (refine hK _ _ (cl_id ?_))); clear hK)); refine hK _ _ (cl_id ?_); clear hK)) | (refine w_exit rfl ?_; (try dsimp only [anorm, ablock, astay]); (try simp only [reduceIte, ↓reduceIte, Nat.reduceEqDiff]); ((repeat ((fail_if_success (refine hK _ _ (cl_id ?_))); clear hK)); refine hK _ _ (cl_id ?_); clear hK)) | (refine jend_go [(11, [4]), (10, [1, 7, 25, 26, 27]), (9, [1, 7, 25, 26, 27]), (8, [1, 7, 9, 25, 26, 27, 33]), (7, [1, 7, 9, 25, 26, 27]), (6, [1, 7, 25, 26, 27, 28]), (5, [1, 7, 25, 26, 27]), (4, [0, 1, 5, 7]), (3, [4]), (2, [0, 1, 5, 17]), (1, [0, 1, 5, 6]), (0, [0, 1])] ?_; simp only [tabAt_cons, sel_nil, sel_cons, put_at, ofl_cons, ofl_nil, T0_at, List.getElem?_cons_zero, List.getElem?_cons_succ, List.getElem?_nil, Option.getD_some, Option.getD_none, reduceIte, ↓reduceIte, Nat.reduceEqDiff]; refine jl_go ?_) | simp (disch := omega) only [go_sem, c1, c2] | (refine jc_t ?_) | (refine jc_f ?_) | (refine And.intro (by (first | omega | (simp; done) | (simp; omega))) ?_) | (refine mc_b (fun hs => ?_) fun hs => ?_) | (refine mg_st (fun hs => ?_) fun hs => ?_) | (refine mg_sf (fun hs => ?_) fun hs => ?_) | (refine mall_s (fun hs => ?_) fun hs => ?_) | (refine malln_s (fun hs => ?_) fun hs => ?_) | (refine mpk_s (fun hs => ?_) fun hs => ?_) | ((repeat ((fail_if_success (refine hK _ _ (cl_id ?_))); clear hK)); refine hK _ _ (cl_id ?_); clear hK)))
        exact end_L 1 (Nat.le_refl _) ⟨rfl, rfl⟩ ⟨of_eq_true (cels_nbss _), Wk.of (frzC (Nat.le_refl _) (by rw [Nat.sub_self]; rfl) rfl)⟩
      · have e1 : z ++ q.take (j + 1) = z ++ q.take j ++ [gt q j] := by rw [take_gt (by omega), List.append_assoc]
        have hKo := fun T' H' => hKo T' H' (j + 1) ⟨by omega, by
          rw [take_gt (by omega)]
          intro hh
          rcases List.mem_append.1 hh with hh | hh
          · exact hj2 hh
          · exact c2 (List.mem_singleton.1 hh).symm⟩ (by omega)
        rw [e1] at hKo
        have hle : (z ++ q.take j).length ≤ 2000000 := by
          rw [List.length_append, List.length_take]
          omega
        clear fin
        generalize z ++ q.take j = acc at *
        have tk : List.take acc.length acc = acc := List.take_length
        (repeat' (first | (have hs := Mk.out hs; (try simp only [decide_eq_true_eq, decide_eq_false_iff_not, Bool.not_eq_true, Bool.not_eq_false, Bool.not_true, Bool.not_false, Bool.not_eq_eq_eq_not, Bool.and_eq_true, Bool.or_eq_true, beq_iff_eq, bne_iff_ne, beq_eq_false_iff_ne, ne_eq, Classical.not_not, not_true_eq_false, not_false_eq_true, forall_const, Bool.false_eq_true, false_implies, eq_self] at hs); (try (exfalso; omega)); (try simp (disch := omega) only [go_sem, c1, c2, tk, hs])) | (refine z_seqr rfl ?_) | (refine w_seq rfl fun K hK => ?_) | (refine z_reg rfl ?_) | (refine z_cond rfl ?_) | (refine w_skip rfl ?_; ((repeat ((fail_if_success (refine hK _ _ (cl_id ?_))); clear hK)); refine hK _ _ (cl_id ?_); clear hK)) | (refine w_ret rfl ?_; (try dsimp only [anorm, ablock, astay]); refine z_end ?_) | (refine z_end0 ?_) | (refine w_block rfl ?_) | (refine w_scope rfl ?_) | (refine w_label rfl ?_; ((repeat ((fail_if_success (refine hK _ _ (cl_id ?_))); clear hK)); refine hK _ _ (cl_id ?_); clear hK)) | (refine w_exit rfl ?_; (try dsimp only [anorm, ablock, astay]); (try simp only [reduceIte, ↓reduceIte, Nat.reduceEqDiff]); ((repeat ((fail_if_success (refine hK _ _ (cl_id ?_))); clear hK)); refine hK _ _ (cl_id ?_); clear hK)) | (refine jend_go [(11, [4]), (10, [1, 7, 25, 26, 27]), (9, [1, 7, 25, 26, 27]), (8, [1, 7, 9, 25, 26, 27, 33]), (7, [1, 7, 9, 25, 26, 27]), (6, [1, 7, 25, 26, 27, 28]), (5, [1, 7, 25, 26, 27]), (4, [0, 1, 5, 7]), (3, [4]), (2, [0, 1, 5, 17]), (1, [0, 1, 5, 6]), (0, [0, 1])] ?_; simp only [tabAt_cons, sel_nil, sel_cons, put_at, ofl_cons, ofl_nil, T0_at, List.getElem?_cons_zero, List.getElem?_cons_succ, List.getElem?_nil, Option.getD_some, Option.getD_none, reduceIte, ↓reduceIte, Nat.reduceEqDiff]; refine jl_go ?_) | simp (disch := omega) only [go_sem, c1, c2, tk] | (refine jc_t ?_) | (refine jc_f ?_) | (refine And.intro (by (first | omega | (simp; done) | (simp; omega))) ?_) | (refine mc_b (fun hs => ?_) fun hs => ?_) | (refine mg_st (fun hs => ?_) fun hs => ?_) | (refine mg_sf (fun hs => ?_) fun hs => ?_) | (refine mall_s (fun hs => ?_) fun hs => ?_) | (refine malln_s (fun hs => ?_) fun hs => ?_) | (refine mpk_s (fun hs => ?_) fun hs => ?_) | ((repeat ((fail_if_success (refine hK _ _ (cl_id ?_))); clear hK)); refine hK _ _ (cl_id ?_); clear hK)))
        refine hKo _ _ (cq_ren [2] (Nat.le_refl _) (LH_nbs st) (by decide) ?_ ?_)
        · (simp (disch := omega) only [go_sem])
        · (simp (disch := omega) only [go_sem])
          omega
    · have hb : before q t = q.take j := before_take hj2 (.inr (by omega))
      simp only [hb] at hK
      clear hKo fin
      generalize z ++ q.take j = acc at *
      (repeat' (first | (have hs := Mk.out hs; (try simp only [decide_eq_true_eq, decide_eq_false_iff_not, Bool.not_eq_true, Bool.not_eq_false, Bool.not_true, Bool.not_false, Bool.not_eq_eq_eq_not, Bool.and_eq_true, Bool.or_eq_true, beq_iff_eq, bne_iff_ne, beq_eq_false_iff_ne, ne_eq, Classical.not_not, not_true_eq_false, not_false_eq_true, forall_const, Bool.false_eq_true, false_implies, eq_self] at hs); (try (exfalso; omega)); (try simp (disch := omega) only [go_sem, c1, hs])) | (refine z_seqr rfl ?_) | (refine w_seq rfl fun K hK => ?_) | (refine z_reg rfl ?_) | (refine z_cond rfl ?_) | (refine w_skip rfl ?_; ((repeat ((fail_if_success (refine hK _ _ (cl_id ?_))); clear hK)); refine hK _ _ (cl_id ?_); clear hK)) | (refine w_ret rfl ?_; (try dsimp only [anorm, ablock, astay]); refine z_end ?_) | (refine z_end0 ?_) | (refine w_block rfl ?_) | (refine w_scope rfl ?_) | (refine w_label rfl ?_; ((repeat ((fail_if_success (refine hK _ _ (cl_id ?_))); clear hK)); refine hK _ _ (cl_id ?_); clear hK)) | (refine w_exit rfl ?_; (try dsimp only [anorm, ablock, astay]); (try simp only [reduceIte, ↓reduceIte, Nat.reduceEqDiff]); ((repeat ((fail_if_success (refine hK _ _ (cl_id ?_))); clear hK)); refine hK _ _ (cl_id ?_); clear hK)) | (refine jend_go [(11, [4]), (10, [1, 7, 25, 26, 27]), (9, [1, 7, 25, 26, 27]), (8, [1, 7, 9, 25, 26, 27, 33]), (7, [1, 7, 9, 25, 26, 27]), (6, [1, 7, 25, 26, 27, 28]), (5, [1, 7, 25, 26, 27]), (4, [0, 1, 5, 7]), (3, [4]), (2, [0, 1, 5, 17]), (1, [0, 1, 5, 6]), (0, [0, 1])] ?_; simp only [tabAt_cons, sel_nil, sel_cons, put_at, ofl_cons, ofl_nil, T0_at, List.getElem?_cons_zero, List.getElem?_cons_succ, List.getElem?_nil, Option.getD_some, Option.getD_none, reduceIte, ↓reduceIte, Nat.reduceEqDiff]; refine jl_go ?_) | simp (disch := omega) only [go_sem, c1] | (refine jc_t ?_) | (refine jc_f ?_) | (refine And.intro (by (first | omega | (simp; done) | (simp; omega))) ?_) | (refine mc_b (fun hs => ?_) fun hs => ?_) | (refine mg_st (fun hs => ?_) fun hs => ?_) | (refine mg_sf (fun hs => ?_) fun hs => ?_) | (refine mall_s (fun hs => ?_) fun hs => ?_) | (refine malln_s (fun hs => ?_) fun hs => ?_) | (refine mpk_s (fun hs => ?_) fun hs => ?_) | ((repeat ((fail_if_success (refine hK _ _ (cl_id ?_))); clear hK)); refine hK _ _ (cl_id ?_); clear hK)))
      exact end_L 1 (Nat.le_refl _) ⟨rfl, rfl⟩ ⟨of_eq_true (cels_nbss _), Wk.of (frzC (Nat.le_refl _) (by rw [Nat.sub_self]; rfl) rfl)⟩
end Go.Proofs.Ytckppkimjiifpaa
