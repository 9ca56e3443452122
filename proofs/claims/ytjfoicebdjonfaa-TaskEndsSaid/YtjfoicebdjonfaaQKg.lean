/- The package task: Held, Sound, the page's example. No condition but bounds of lengths. -/
import Derived.Test.YtjfoicebdjonfaaQKf
import Derived.Test.YtjfoicebdjonfaaQb2
import Derived.Test.YtjfoicebdjonfaaQgs
set_option linter.unusedSectionVars false
set_option linter.unusedVariables false
set_option linter.unusedSimpArgs false
set_option linter.deprecated false
namespace Go.Tsk
open Go.Am
def hel (l : List Stp) : List (List Nd) × Int := match runP l with
  | some (_, o) => (o, 0)
  | none => ([], 240)
end Go.Tsk
namespace Go.Proofs.Ytjfoicebdjonfaa
open Go.RowKit Go.Cx Go.Am Go.Tsk
set_option maxRecDepth 8000
set_option maxHeartbeats 2000000
attribute [local irreducible] ACalls jcall jsame jex jexg jexh jguard jconv jload jpart jstore jbin jslice jidxA jidx jfield jfieldA jbuild jbuildS jmake jappend jlen jpick jres jcnd jcopy jcap jborn jdraw jops jop jstr jstrc jlive jend jlenM
attribute [local go_sem] reduceIte Nat.reduceEqDiff Nat.reduceAdd Nat.reduceMul Nat.reduceLT Nat.reduceLeDiff Nat.reduceSub Int.reduceLT Int.reduceLE Int.reduceToNat Int.reduceNeg Int.reduceAdd Int.reduceSub UInt8.reduceToNat Int.reduceEq reduceCtorEq Int.reducePow Int.reduceMul Nat.reducePow E0
attribute [local go_sem ↓] reduceIte
attribute [local go_sem high] chunks_bvs
attribute [local go_sem] bmap nbB gfB tgs_nil tgs_snoc tagC_eq rwb_nil rwc_nil rwc_len rwc_take rwc_snoc rwc_nbss rwc_amapss
attribute [local go_sem ←] List.map_take List.map_drop

theorem held_am (l : List Stp) (hl : l.length ≤ 1000) : ACalls E0 10 [.sl 3 (cels l)] [] fun r H' => r = .tup [.sl 1 (rwC 2 (hel l).1), .v (.int .i64 (hel l).2)] ∧ H' = [] := by
  unfold hel
  rcases runP_ends l with ⟨h, o, hr⟩ | ⟨hr, i, h, o, hi, hr2, hs⟩
  · rw [hr]
    simp only
    have hw := walk_am l hl l.length (Nat.le_refl _) h o (by rw [List.take_length]; exact hr) (fun h => absurd h (Nat.lt_irrefl _))
    have c1 : ¬ (l.length : Int) < l.length := by omega
    refine calls_q (calls_of Try.func10 rfl (by kernel_rfl) (by kernel_rfl) (by rw [Try.ntmps10]; exact Nat.le_of_ble_eq_true rfl) (fun hH0 hA0 => ?_)); rw [Try.results10]
    (repeat' (first | (have hs := Mk.out hs; (try simp only [decide_eq_true_eq, decide_eq_false_iff_not, Bool.not_eq_true, Bool.not_eq_false, Bool.not_true, Bool.not_false, Bool.not_eq_eq_eq_not, Bool.and_eq_true, Bool.or_eq_true, beq_iff_eq, bne_iff_ne, beq_eq_false_iff_ne, ne_eq, Classical.not_not, not_true_eq_false, not_false_eq_true, forall_const, Bool.false_eq_true, false_implies, eq_self] at hs); (try (exfalso; omega)); (try simp (disch := omega) only [go_sem, c1, hs])) | (refine z_seqr rfl ?_) | (refine w_seq rfl fun K hK => ?_) | (refine z_reg rfl ?_) | (refine z_cond rfl ?_) | (refine w_skip rfl ?_; ((repeat ((fail_if_success (refine hK _ _ (cl_id ?_))); clear hK)); refine hK _ _ (cl_id ?_); clear hK)) | (refine w_ret rfl ?_; (try dsimp only [anorm, ablock, astay]); refine z_end ?_) | (refine z_end0 ?_) | (refine w_block rfl ?_) | (refine w_scope rfl ?_) | (refine w_label rfl ?_; ((repeat ((fail_if_success (refine hK _ _ (cl_id ?_))); clear hK)); refine hK _ _ (cl_id ?_); clear hK)) | (refine w_exit rfl ?_; (try dsimp only [anorm, ablock, astay]); (try simp only [reduceIte, ↓reduceIte, Nat.reduceEqDiff]); ((repeat ((fail_if_success (refine hK _ _ (cl_id ?_))); clear hK)); refine hK _ _ (cl_id ?_); clear hK)) | (refine jend_go [(4, [2, 3]), (3, [2, 3]), (2, [4, 10]), (1, [0, 4]), (0, [0])] ?_; simp only [tabAt_cons, sel_nil, sel_cons, put_at, ofl_cons, ofl_nil, T0_at, List.getElem?_cons_zero, List.getElem?_cons_succ, List.getElem?_nil, Option.getD_some, Option.getD_none, reduceIte, ↓reduceIte, Nat.reduceEqDiff]; refine jl_go ?_) | simp (disch := omega) only [go_sem, c1] | (refine jc_t ?_) | (refine jc_f ?_) | (apply zc (hw) [0]; (case ok => simp (disch := omega) only [go_sem, cok, sgOk, bcl, c1])) | (refine And.intro (by (first | omega | (simp; done) | (simp; omega))) ?_) | (refine mc_b (fun hs => ?_) fun hs => ?_) | (refine mg_st (fun hs => ?_) fun hs => ?_) | (refine mg_sf (fun hs => ?_) fun hs => ?_) | (refine mall_s (fun hs => ?_) fun hs => ?_) | (refine malln_s (fun hs => ?_) fun hs => ?_) | (refine mpk_s (fun hs => ?_) fun hs => ?_) | ((repeat ((fail_if_success (refine hK _ _ (cl_id ?_))); clear hK)); refine hK _ _ (cl_id ?_); clear hK)))
    exact end_d 2 ⟨rfl, rfl⟩ ⟨by (simp (disch := omega) only [go_sem]), by simp only [frz_tup, List.map_cons, List.map_nil, frz_v]; exact Wk.tups ⟨Wk.of (frzRC (by simp) rfl rfl), Wk.refl _, trivial⟩⟩
  · rw [hr]
    simp only
    have hw := walk_am l hl i (by omega) h o hr2 (fun _ => hs)
    have c1 : (i : Int) < l.length := by omega
    refine calls_q (calls_of Try.func10 rfl (by kernel_rfl) (by kernel_rfl) (by rw [Try.ntmps10]; exact Nat.le_of_ble_eq_true rfl) (fun hH0 hA0 => ?_)); rw [Try.results10]
    (repeat' (first | (have hs := Mk.out hs; (try simp only [decide_eq_true_eq, decide_eq_false_iff_not, Bool.not_eq_true, Bool.not_eq_false, Bool.not_true, Bool.not_false, Bool.not_eq_eq_eq_not, Bool.and_eq_true, Bool.or_eq_true, beq_iff_eq, bne_iff_ne, beq_eq_false_iff_ne, ne_eq, Classical.not_not, not_true_eq_false, not_false_eq_true, forall_const, Bool.false_eq_true, false_implies, eq_self] at hs); (try (exfalso; omega)); (try simp (disch := omega) only [go_sem, c1, hs])) | (refine z_seqr rfl ?_) | (refine w_seq rfl fun K hK => ?_) | (refine z_reg rfl ?_) | (refine z_cond rfl ?_) | (refine w_skip rfl ?_; ((repeat ((fail_if_success (refine hK _ _ (cl_id ?_))); clear hK)); refine hK _ _ (cl_id ?_); clear hK)) | (refine w_ret rfl ?_; (try dsimp only [anorm, ablock, astay]); refine z_end ?_) | (refine z_end0 ?_) | (refine w_block rfl ?_) | (refine w_scope rfl ?_) | (refine w_label rfl ?_; ((repeat ((fail_if_success (refine hK _ _ (cl_id ?_))); clear hK)); refine hK _ _ (cl_id ?_); clear hK)) | (refine w_exit rfl ?_; (try dsimp only [anorm, ablock, astay]); (try simp only [reduceIte, ↓reduceIte, Nat.reduceEqDiff]); ((repeat ((fail_if_success (refine hK _ _ (cl_id ?_))); clear hK)); refine hK _ _ (cl_id ?_); clear hK)) | (refine jend_go [(4, [2, 3]), (3, [2, 3]), (2, [4, 10]), (1, [0, 4]), (0, [0])] ?_; simp only [tabAt_cons, sel_nil, sel_cons, put_at, ofl_cons, ofl_nil, T0_at, List.getElem?_cons_zero, List.getElem?_cons_succ, List.getElem?_nil, Option.getD_some, Option.getD_none, reduceIte, ↓reduceIte, Nat.reduceEqDiff]; refine jl_go ?_) | simp (disch := omega) only [go_sem, c1] | (refine jc_t ?_) | (refine jc_f ?_) | (apply zc (hw) [0]; (case ok => simp (disch := omega) only [go_sem, cok, sgOk, bcl, c1])) | (refine And.intro (by (first | omega | (simp; done) | (simp; omega))) ?_) | (refine mc_b (fun hs => ?_) fun hs => ?_) | (refine mg_st (fun hs => ?_) fun hs => ?_) | (refine mg_sf (fun hs => ?_) fun hs => ?_) | (refine mall_s (fun hs => ?_) fun hs => ?_) | (refine malln_s (fun hs => ?_) fun hs => ?_) | (refine mpk_s (fun hs => ?_) fun hs => ?_) | ((repeat ((fail_if_success (refine hK _ _ (cl_id ?_))); clear hK)); refine hK _ _ (cl_id ?_); clear hK)))
    exact end_d 1 ⟨rfl, rfl⟩ ⟨by (simp (disch := omega) only [go_sem]), by simp only [frz_tup, List.map_cons, List.map_nil, frz_v]; exact Wk.tups ⟨Wk.nil 1, Wk.refl _, trivial⟩⟩
def lt5 : List Stp := planS [(5, true)]
theorem awake_am : ACalls E0 15 [] [] fun r H' => r = .v (.bool true) ∧ H' = [] := by
  have hl := light_am 5
  have e1 : ofS 5 true [] = (lt5, 0) := rfl
  rw [e1] at hl
  have hh := held_am lt5 (by decide)
  have e2 : hel lt5 = ([[((5 : Int), true)], [((5 : Int), true)], []], 0) := by decide +kernel
  rw [e2] at hh
  have e3 : cels lt5 = [[.v (.int .i64 2), .v (.int .i64 5), .v (.bool true)], [.v (.int .i64 3), .v (.int .i64 0), .v (.bool false)], [.v (.int .i64 4), .v (.int .i64 5), .v (.bool true)]] := rfl
  simp only [e3] at hl hh
  change ACalls E0 _ _ _ (fun r H' => r = .tup [.sl 1 [[.sl 2 [[.v (.int .i64 5), .v (.bool true)]]], [.sl 2 [[.v (.int .i64 5), .v (.bool true)]]], [.sl 2 []]], .v (.int .i64 0)] ∧ H' = []) at hh
  have e0 : ∀ z : Int, decide (z = z) = true := fun z => decide_eq_true rfl
  refine calls_q (calls_of Try.func15 rfl (by kernel_rfl) (by kernel_rfl) (by rw [Try.ntmps15]; exact Nat.le_of_ble_eq_true rfl) (fun hH0 hA0 => ?_)); rw [Try.results15]
  (repeat' (first | (have hs := Mk.out hs; (try simp only [decide_eq_true_eq, decide_eq_false_iff_not, Bool.not_eq_true, Bool.not_eq_false, Bool.not_true, Bool.not_false, Bool.not_eq_eq_eq_not, Bool.and_eq_true, Bool.or_eq_true, beq_iff_eq, bne_iff_ne, beq_eq_false_iff_ne, ne_eq, Classical.not_not, not_true_eq_false, not_false_eq_true, forall_const, Bool.false_eq_true, false_implies, eq_self] at hs); (try (exfalso; omega)); (try simp (disch := omega) only [go_sem, e0, hs])) | (refine z_seqr rfl ?_) | (refine w_seq rfl fun K hK => ?_) | (refine z_reg rfl ?_) | (refine z_cond rfl ?_) | (refine w_skip rfl ?_; ((repeat ((fail_if_success (refine hK _ _ (cl_id ?_))); clear hK)); refine hK _ _ (cl_id ?_); clear hK)) | (refine w_ret rfl ?_; (try dsimp only [anorm, ablock, astay]); refine z_end ?_) | (refine z_end0 ?_) | (refine w_block rfl ?_) | (refine w_scope rfl ?_) | (refine w_label rfl ?_; ((repeat ((fail_if_success (refine hK _ _ (cl_id ?_))); clear hK)); refine hK _ _ (cl_id ?_); clear hK)) | (refine w_exit rfl ?_; (try dsimp only [anorm, ablock, astay]); (try simp only [reduceIte, ↓reduceIte, Nat.reduceEqDiff]); ((repeat ((fail_if_success (refine hK _ _ (cl_id ?_))); clear hK)); refine hK _ _ (cl_id ?_); clear hK)) | (refine jend_go [(3, [0]), (2, [1, 2, 3, 4]), (1, [1, 2]), (0, [])] ?_; simp only [tabAt_cons, sel_nil, sel_cons, put_at, ofl_cons, ofl_nil, T0_at, List.getElem?_cons_zero, List.getElem?_cons_succ, List.getElem?_nil, Option.getD_some, Option.getD_none, reduceIte, ↓reduceIte, Nat.reduceEqDiff]; refine jl_go ?_) | simp (disch := omega) only [go_sem, e0] | (refine jc_t ?_) | (refine jc_f ?_) | (apply zc (hl) []; (case ok => simp (disch := omega) only [go_sem, cok, sgOk, bcl, e0])) | (apply zc (hh) []; (case ok => simp (disch := omega) only [go_sem, cok, sgOk, bcl, e0])) | (refine And.intro (by (first | omega | (simp; done) | (simp; omega))) ?_) | (refine mc_b (fun hs => ?_) fun hs => ?_) | (refine mg_st (fun hs => ?_) fun hs => ?_) | (refine mg_sf (fun hs => ?_) fun hs => ?_) | (refine mall_s (fun hs => ?_) fun hs => ?_) | (refine malln_s (fun hs => ?_) fun hs => ?_) | (refine mpk_s (fun hs => ?_) fun hs => ?_) | ((repeat ((fail_if_success (refine hK _ _ (cl_id ?_))); clear hK)); refine hK _ _ (cl_id ?_); clear hK)))
  exact end_d 0 ⟨rfl, rfl⟩ ⟨by (simp (disch := omega) only [go_sem]), by (simp (disch := omega) only [go_sem])⟩
end Go.Proofs.Ytjfoicebdjonfaa
