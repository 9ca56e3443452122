/- The package task: Sweep by the machine; plans come to their ends with nothing held. No condition but bounds of lengths. -/
import Derived.Test.YtjfoicebdjonfaaQKg
import Derived.Test.YtjfoicebdjonfaaQb2
import Derived.Test.YtjfoicebdjonfaaQgs
set_option linter.unusedSectionVars false
set_option linter.unusedVariables false
set_option linter.unusedSimpArgs false
set_option linter.deprecated false
namespace Go.Tsk
open Go.Am
def PW (h : List Nd) : Prop := h.Pairwise fun a b => a.1 < b.1
end Go.Tsk
namespace Go.Proofs.Ytjfoicebdjonfaa
open Go.RowKit Go.Cx Go.Am Go.Tsk
set_option maxRecDepth 8000
set_option maxHeartbeats 2000000
attribute [local irreducible] ACalls jcall jsame jex jexg jexh jguard jconv jload jpart jstore jbin jslice jidxA jidx jfield jfieldA jbuild jbuildS jmake jappend jlen jpick jres jcnd jcopy jcap jborn jdraw jops jop jstr jstrc jlive jend jlenM
attribute [local go_sem] reduceIte Nat.reduceEqDiff Nat.reduceAdd Nat.reduceMul Nat.reduceLT Nat.reduceLeDiff Nat.reduceSub Int.reduceLT Int.reduceLE Int.reduceToNat Int.reduceNeg Int.reduceAdd Int.reduceSub UInt8.reduceToNat Int.reduceEq reduceCtorEq Int.reducePow Int.reduceMul Nat.reducePow E0
attribute [local go_sem ↓] reduceIte
attribute [local go_sem high] chunks_bvs
attribute [local go_sem] bmap nbB gfB tgs_nil tgs_snoc tagC_eq rwb_nil rwc_nil rwc_len rwc_take rwc_snoc rwc_nbss rwc_amapss
attribute [local go_sem ←] List.map_take List.map_drop

theorem srt1 (k : Int) (w : Bool) (hk : shd k = true) : srt [(k, w)] = true := by
  have := of_decide_eq_true hk
  refine decide_eq_true fun i hi => ?_
  obtain rfl : i = 0 := by simp at hi; omega
  exact ⟨decide_eq_true (show 0 ≤ k ∧ k < 67 by omega), fun h => absurd h (Nat.lt_irrefl _)⟩
theorem srt3 (k : Int) (hk : shd k = true) : srt [((1 : Int), true), (2, true), (k, true)] = true := by
  have := of_decide_eq_true hk
  refine decide_eq_true fun i hi => ?_
  have hi : i < 3 := hi
  match i, hi with
  | 0, _ => exact ⟨rfl, fun h => absurd h (Nat.lt_irrefl _)⟩
  | 1, _ => exact ⟨rfl, fun _ => by show (1 : Int) < 2; decide⟩
  | 2, _ => exact ⟨decide_eq_true (show 0 ≤ k ∧ k < 67 by omega), fun _ => by show (2 : Int) < k; omega⟩
theorem swL_succ (i : Nat) : swL (i + 1) = swL i ++ planS [(3 + (i : Int), false)] := by
  unfold swL
  rw [List.range_succ, List.flatMap_append]
  simp
theorem swL_len (i : Nat) : (swL i).length = 3 * i := by
  induction i with
  | zero => rfl
  | succ i ih => rw [swL_succ, List.length_append, ih]; simp [planS, lkS]; omega
theorem cutN_am (l : List (Int × Bool)) : ACalls E0 16 [.sl 2 (cels l)] [] fun r H' => r = .sl 2 (cels (l.take 80)) ∧ H' = [] := by
  by_cases h : l.length ≤ 80
  · have h1 : ¬ 80 < (l.length : Int) := by omega
    rw [List.take_of_length_le h]
    refine calls_q (calls_of Try.func16 rfl (by kernel_rfl) (by kernel_rfl) (by rw [Try.ntmps16]; exact Nat.le_of_ble_eq_true rfl) (fun hH0 hA0 => ?_)); rw [Try.results16]
    (repeat' (first | (have hs := Mk.out hs; (try simp only [decide_eq_true_eq, decide_eq_false_iff_not, Bool.not_eq_true, Bool.not_eq_false, Bool.not_true, Bool.not_false, Bool.not_eq_eq_eq_not, Bool.and_eq_true, Bool.or_eq_true, beq_iff_eq, bne_iff_ne, beq_eq_false_iff_ne, ne_eq, Classical.not_not, not_true_eq_false, not_false_eq_true, forall_const, Bool.false_eq_true, false_implies, eq_self] at hs); (try (exfalso; omega)); (try simp (disch := omega) only [go_sem, h1, hs])) | (refine z_seqr rfl ?_) | (refine w_seq rfl fun K hK => ?_) | (refine z_reg rfl ?_) | (refine z_cond rfl ?_) | (refine w_skip rfl ?_; ((repeat ((fail_if_success (refine hK _ _ (cl_id ?_))); clear hK)); refine hK _ _ (cl_id ?_); clear hK)) | (refine w_ret rfl ?_; (try dsimp only [anorm, ablock, astay]); refine z_end ?_) | (refine z_end0 ?_) | (refine w_block rfl ?_) | (refine w_scope rfl ?_) | (refine w_label rfl ?_; ((repeat ((fail_if_success (refine hK _ _ (cl_id ?_))); clear hK)); refine hK _ _ (cl_id ?_); clear hK)) | (refine w_exit rfl ?_; (try dsimp only [anorm, ablock, astay]); (try simp only [reduceIte, ↓reduceIte, Nat.reduceEqDiff]); ((repeat ((fail_if_success (refine hK _ _ (cl_id ?_))); clear hK)); refine hK _ _ (cl_id ?_); clear hK)) | (refine jend_go [(3, [2]), (2, [2]), (1, [0, 5]), (0, [0])] ?_; simp only [tabAt_cons, sel_nil, sel_cons, put_at, ofl_cons, ofl_nil, T0_at, List.getElem?_cons_zero, List.getElem?_cons_succ, List.getElem?_nil, Option.getD_some, Option.getD_none, reduceIte, ↓reduceIte, Nat.reduceEqDiff]; refine jl_go ?_) | simp (disch := omega) only [go_sem, h1] | (refine jc_t ?_) | (refine jc_f ?_) | (refine And.intro (by (first | omega | (simp; done) | (simp; omega))) ?_) | (refine mc_b (fun hs => ?_) fun hs => ?_) | (refine mg_st (fun hs => ?_) fun hs => ?_) | (refine mg_sf (fun hs => ?_) fun hs => ?_) | (refine mall_s (fun hs => ?_) fun hs => ?_) | (refine malln_s (fun hs => ?_) fun hs => ?_) | (refine mpk_s (fun hs => ?_) fun hs => ?_) | ((repeat ((fail_if_success (refine hK _ _ (cl_id ?_))); clear hK)); refine hK _ _ (cl_id ?_); clear hK)))
    exact end_d 0 ⟨rfl, rfl⟩ ⟨by (simp (disch := omega) only [go_sem]), by (simp (disch := omega) only [go_sem])⟩
  · have h1 : 80 < (l.length : Int) := by omega
    have h2 : 80 ≤ (l.length : Int) := by omega
    refine calls_q (calls_of Try.func16 rfl (by kernel_rfl) (by kernel_rfl) (by rw [Try.ntmps16]; exact Nat.le_of_ble_eq_true rfl) (fun hH0 hA0 => ?_)); rw [Try.results16]
    (repeat' (first | (have hs := Mk.out hs; (try simp only [decide_eq_true_eq, decide_eq_false_iff_not, Bool.not_eq_true, Bool.not_eq_false, Bool.not_true, Bool.not_false, Bool.not_eq_eq_eq_not, Bool.and_eq_true, Bool.or_eq_true, beq_iff_eq, bne_iff_ne, beq_eq_false_iff_ne, ne_eq, Classical.not_not, not_true_eq_false, not_false_eq_true, forall_const, Bool.false_eq_true, false_implies, eq_self] at hs); (try (exfalso; omega)); (try simp (disch := omega) only [go_sem, h1, h2, hs])) | (refine z_seqr rfl ?_) | (refine w_seq rfl fun K hK => ?_) | (refine z_reg rfl ?_) | (refine z_cond rfl ?_) | (refine w_skip rfl ?_; ((repeat ((fail_if_success (refine hK _ _ (cl_id ?_))); clear hK)); refine hK _ _ (cl_id ?_); clear hK)) | (refine w_ret rfl ?_; (try dsimp only [anorm, ablock, astay]); refine z_end ?_) | (refine z_end0 ?_) | (refine w_block rfl ?_) | (refine w_scope rfl ?_) | (refine w_label rfl ?_; ((repeat ((fail_if_success (refine hK _ _ (cl_id ?_))); clear hK)); refine hK _ _ (cl_id ?_); clear hK)) | (refine w_exit rfl ?_; (try dsimp only [anorm, ablock, astay]); (try simp only [reduceIte, ↓reduceIte, Nat.reduceEqDiff]); ((repeat ((fail_if_success (refine hK _ _ (cl_id ?_))); clear hK)); refine hK _ _ (cl_id ?_); clear hK)) | (refine jend_go [(3, [2]), (2, [2]), (1, [0, 5]), (0, [0])] ?_; simp only [tabAt_cons, sel_nil, sel_cons, put_at, ofl_cons, ofl_nil, T0_at, List.getElem?_cons_zero, List.getElem?_cons_succ, List.getElem?_nil, Option.getD_some, Option.getD_none, reduceIte, ↓reduceIte, Nat.reduceEqDiff]; refine jl_go ?_) | simp (disch := omega) only [go_sem, h1, h2] | (refine jc_t ?_) | (refine jc_f ?_) | (refine And.intro (by (first | omega | (simp; done) | (simp; omega))) ?_) | (refine mc_b (fun hs => ?_) fun hs => ?_) | (refine mg_st (fun hs => ?_) fun hs => ?_) | (refine mg_sf (fun hs => ?_) fun hs => ?_) | (refine mall_s (fun hs => ?_) fun hs => ?_) | (refine malln_s (fun hs => ?_) fun hs => ?_) | (refine mpk_s (fun hs => ?_) fun hs => ?_) | ((repeat ((fail_if_success (refine hK _ _ (cl_id ?_))); clear hK)); refine hK _ _ (cl_id ?_); clear hK)))
    exact end_d 0 ⟨rfl, rfl⟩ ⟨by (simp (disch := omega) only [go_sem]), by (simp (disch := omega) only [go_sem])⟩
theorem sweep_am (n : Int) : ACalls E0 20 [.v (.int .i64 n)] [] fun r H' => r = .tup [.sl 3 (cels (swS n).1), .v (.int .i64 (swS n).2)] ∧ H' = [] := by
  unfold swS
  by_cases h1 : n < 1
  · rw [if_neg (by omega)]
    refine calls_q (calls_of Try.func20 rfl (by kernel_rfl) (by kernel_rfl) (by rw [Try.ntmps20]; exact Nat.le_of_ble_eq_true rfl) (fun hH0 hA0 => ?_)); rw [Try.results20]
    (repeat' (first | (have hs := Mk.out hs; (try simp only [decide_eq_true_eq, decide_eq_false_iff_not, Bool.not_eq_true, Bool.not_eq_false, Bool.not_true, Bool.not_false, Bool.not_eq_eq_eq_not, Bool.and_eq_true, Bool.or_eq_true, beq_iff_eq, bne_iff_ne, beq_eq_false_iff_ne, ne_eq, Classical.not_not, not_true_eq_false, not_false_eq_true, forall_const, Bool.false_eq_true, false_implies, eq_self] at hs); (try (exfalso; omega)); (try simp (disch := omega) only [go_sem, h1, hs])) | (refine z_seqr rfl ?_) | (refine w_seq rfl fun K hK => ?_) | (refine z_reg rfl ?_) | (refine z_cond rfl ?_) | (refine w_skip rfl ?_; ((repeat ((fail_if_success (refine hK _ _ (cl_id ?_))); clear hK)); refine hK _ _ (cl_id ?_); clear hK)) | (refine w_ret rfl ?_; (try dsimp only [anorm, ablock, astay]); refine z_end ?_) | (refine z_end0 ?_) | (refine w_block rfl ?_) | (refine w_scope rfl ?_) | (refine w_label rfl ?_; ((repeat ((fail_if_success (refine hK _ _ (cl_id ?_))); clear hK)); refine hK _ _ (cl_id ?_); clear hK)) | (refine w_exit rfl ?_; (try dsimp only [anorm, ablock, astay]); (try simp only [reduceIte, ↓reduceIte, Nat.reduceEqDiff]); ((repeat ((fail_if_success (refine hK _ _ (cl_id ?_))); clear hK)); refine hK _ _ (cl_id ?_); clear hK)) | (refine jend_go [(9, [2, 3]), (8, [4, 12, 13]), (7, [4, 12, 13]), (6, [4, 5, 12, 13]), (5, [4, 12, 13, 14]), (4, [4, 12, 13]), (3, [0, 4]), (2, [2, 3]), (1, [0, 11]), (0, [0])] ?_; simp only [tabAt_cons, sel_nil, sel_cons, put_at, ofl_cons, ofl_nil, T0_at, List.getElem?_cons_zero, List.getElem?_cons_succ, List.getElem?_nil, Option.getD_some, Option.getD_none, reduceIte, ↓reduceIte, Nat.reduceEqDiff]; refine jl_go ?_) | simp (disch := omega) only [go_sem, h1] | (refine jc_t ?_) | (refine jc_f ?_) | (refine And.intro (by (first | omega | (simp; done) | (simp; omega))) ?_) | (refine mc_b (fun hs => ?_) fun hs => ?_) | (refine mg_st (fun hs => ?_) fun hs => ?_) | (refine mg_sf (fun hs => ?_) fun hs => ?_) | (refine mall_s (fun hs => ?_) fun hs => ?_) | (refine malln_s (fun hs => ?_) fun hs => ?_) | (refine mpk_s (fun hs => ?_) fun hs => ?_) | ((repeat ((fail_if_success (refine hK _ _ (cl_id ?_))); clear hK)); refine hK _ _ (cl_id ?_); clear hK)))
    exact end_d 1 ⟨rfl, rfl⟩ ⟨by (simp (disch := omega) only [go_sem]), by simp only [frz_tup, List.map_cons, List.map_nil, frz_v]; exact Wk.tups ⟨Wk.nil 3, Wk.refl _, trivial⟩⟩
  by_cases h2 : 64 < n
  · rw [if_neg (by omega)]
    refine calls_q (calls_of Try.func20 rfl (by kernel_rfl) (by kernel_rfl) (by rw [Try.ntmps20]; exact Nat.le_of_ble_eq_true rfl) (fun hH0 hA0 => ?_)); rw [Try.results20]
    (repeat' (first | (have hs := Mk.out hs; (try simp only [decide_eq_true_eq, decide_eq_false_iff_not, Bool.not_eq_true, Bool.not_eq_false, Bool.not_true, Bool.not_false, Bool.not_eq_eq_eq_not, Bool.and_eq_true, Bool.or_eq_true, beq_iff_eq, bne_iff_ne, beq_eq_false_iff_ne, ne_eq, Classical.not_not, not_true_eq_false, not_false_eq_true, forall_const, Bool.false_eq_true, false_implies, eq_self] at hs); (try (exfalso; omega)); (try simp (disch := omega) only [go_sem, h1, h2, hs])) | (refine z_seqr rfl ?_) | (refine w_seq rfl fun K hK => ?_) | (refine z_reg rfl ?_) | (refine z_cond rfl ?_) | (refine w_skip rfl ?_; ((repeat ((fail_if_success (refine hK _ _ (cl_id ?_))); clear hK)); refine hK _ _ (cl_id ?_); clear hK)) | (refine w_ret rfl ?_; (try dsimp only [anorm, ablock, astay]); refine z_end ?_) | (refine z_end0 ?_) | (refine w_block rfl ?_) | (refine w_scope rfl ?_) | (refine w_label rfl ?_; ((repeat ((fail_if_success (refine hK _ _ (cl_id ?_))); clear hK)); refine hK _ _ (cl_id ?_); clear hK)) | (refine w_exit rfl ?_; (try dsimp only [anorm, ablock, astay]); (try simp only [reduceIte, ↓reduceIte, Nat.reduceEqDiff]); ((repeat ((fail_if_success (refine hK _ _ (cl_id ?_))); clear hK)); refine hK _ _ (cl_id ?_); clear hK)) | (refine jend_go [(9, [2, 3]), (8, [4, 12, 13]), (7, [4, 12, 13]), (6, [4, 5, 12, 13]), (5, [4, 12, 13, 14]), (4, [4, 12, 13]), (3, [0, 4]), (2, [2, 3]), (1, [0, 11]), (0, [0])] ?_; simp only [tabAt_cons, sel_nil, sel_cons, put_at, ofl_cons, ofl_nil, T0_at, List.getElem?_cons_zero, List.getElem?_cons_succ, List.getElem?_nil, Option.getD_some, Option.getD_none, reduceIte, ↓reduceIte, Nat.reduceEqDiff]; refine jl_go ?_) | simp (disch := omega) only [go_sem, h1, h2] | (refine jc_t ?_) | (refine jc_f ?_) | (refine And.intro (by (first | omega | (simp; done) | (simp; omega))) ?_) | (refine mc_b (fun hs => ?_) fun hs => ?_) | (refine mg_st (fun hs => ?_) fun hs => ?_) | (refine mg_sf (fun hs => ?_) fun hs => ?_) | (refine mall_s (fun hs => ?_) fun hs => ?_) | (refine malln_s (fun hs => ?_) fun hs => ?_) | (refine mpk_s (fun hs => ?_) fun hs => ?_) | ((repeat ((fail_if_success (refine hK _ _ (cl_id ?_))); clear hK)); refine hK _ _ (cl_id ?_); clear hK)))
    exact end_d 1 ⟨rfl, rfl⟩ ⟨by (simp (disch := omega) only [go_sem]), by simp only [frz_tup, List.map_cons, List.map_nil, frz_v]; exact Wk.tups ⟨Wk.nil 3, Wk.refl _, trivial⟩⟩
  rw [if_pos (by omega)]
  obtain ⟨m, rfl⟩ : ∃ m : Nat, n = m := ⟨n.toNat, by omega⟩
  rw [Int.toNat_natCast]
  refine calls_q (calls_of Try.func20 rfl (by kernel_rfl) (by kernel_rfl) (by rw [Try.ntmps20]; exact Nat.le_of_ble_eq_true rfl) (fun hH0 hA0 => ?_)); rw [Try.results20]
  (repeat' (first | (have hs := Mk.out hs; (try simp only [decide_eq_true_eq, decide_eq_false_iff_not, Bool.not_eq_true, Bool.not_eq_false, Bool.not_true, Bool.not_false, Bool.not_eq_eq_eq_not, Bool.and_eq_true, Bool.or_eq_true, beq_iff_eq, bne_iff_ne, beq_eq_false_iff_ne, ne_eq, Classical.not_not, not_true_eq_false, not_false_eq_true, forall_const, Bool.false_eq_true, false_implies, eq_self] at hs); (try (exfalso; omega)); (try simp (disch := omega) only [go_sem, h1, h2, hs])) | (refine z_seqr rfl ?_) | (refine w_seq rfl fun K hK => ?_) | (refine z_reg rfl ?_) | (refine z_cond rfl ?_) | (refine w_skip rfl ?_; ((repeat ((fail_if_success (refine hK _ _ (cl_id ?_))); clear hK)); refine hK _ _ (cl_id ?_); clear hK)) | (refine w_ret rfl ?_; (try dsimp only [anorm, ablock, astay]); refine z_end ?_) | (refine z_end0 ?_) | (refine w_block rfl ?_) | (refine w_scope rfl ?_) | (refine w_label rfl ?_; ((repeat ((fail_if_success (refine hK _ _ (cl_id ?_))); clear hK)); refine hK _ _ (cl_id ?_); clear hK)) | (refine w_exit rfl ?_; (try dsimp only [anorm, ablock, astay]); (try simp only [reduceIte, ↓reduceIte, Nat.reduceEqDiff]); ((repeat ((fail_if_success (refine hK _ _ (cl_id ?_))); clear hK)); refine hK _ _ (cl_id ?_); clear hK)) | (refine jend_go [(9, [2, 3]), (8, [4, 12, 13]), (7, [4, 12, 13]), (6, [4, 5, 12, 13]), (5, [4, 12, 13, 14]), (4, [4, 12, 13]), (3, [0, 4]), (2, [2, 3]), (1, [0, 11]), (0, [0])] ?_; simp only [tabAt_cons, sel_nil, sel_cons, put_at, ofl_cons, ofl_nil, T0_at, List.getElem?_cons_zero, List.getElem?_cons_succ, List.getElem?_nil, Option.getD_some, Option.getD_none, reduceIte, ↓reduceIte, Nat.reduceEqDiff]; refine jl_go ?_) | simp (disch := omega) only [go_sem, h1, h2] | (refine jc_t ?_) | (refine jc_f ?_) | (refine And.intro (by (first | omega | (simp; done) | (simp; omega))) ?_) | (refine mc_b (fun hs => ?_) fun hs => ?_) | (refine mg_st (fun hs => ?_) fun hs => ?_) | (refine mg_sf (fun hs => ?_) fun hs => ?_) | (refine mall_s (fun hs => ?_) fun hs => ?_) | (refine malln_s (fun hs => ?_) fun hs => ?_) | (refine mpk_s (fun hs => ?_) fun hs => ?_) | ((repeat ((fail_if_success (refine hK _ _ (cl_id ?_))); clear hK)); refine hK _ _ (cl_id ?_); clear hK)))
  refine z_loop rfl (fun i => i ≤ m) (fun i => m - i) (fun i => [(4, .hs 0 3 0 (swL i).length), (12, .v (.int .i64 (m : Int))), (13, .v (.int .i64 (i : Int)))]) (fun i => [some (.row true 3 (cels (swL i)))]) 0 (Nat.zero_le _) ?_ ?_
  · have e0 : swL 0 = [] := rfl
    rw [e0]
    refine (cq_bare 3 4 rfl).trans (cq_any [0] rfl (by simp [lv]) ?_ ?_)
    · (simp (disch := omega) only [go_sem])
    · (simp (disch := omega) only [go_sem])
  intro i hi K hK
  by_cases hlt : (i : Int) < m
  · have hr := reads_am (3 + (i : Int))
    have hp := plan_am [(3 + (i : Int), false)] (by simp)
    change ACalls E0 _ [.sl 2 [[.v (.int .i64 (3 + (i : Int))), .v (.bool false)]]] _ _ at hp
    have hln := swL_len i
    have hpl : (planS [(3 + (i : Int), false)]).length = 3 := by simp [planS, lkS]
    have hK2 := hK
    clear hK
    have hK := fun T' H' => hK2 T' H' (i + 1) (by omega) (by omega)
    clear hK2
    rw [swL_succ] at hK
    revert hK
    generalize planS [(3 + (i : Int), false)] = P at *
    generalize swL i = L1 at *
    intro hK
    have tk : P.take P.length = P := List.take_length
    (repeat' (first | (have hs := Mk.out hs; (try simp only [decide_eq_true_eq, decide_eq_false_iff_not, Bool.not_eq_true, Bool.not_eq_false, Bool.not_true, Bool.not_false, Bool.not_eq_eq_eq_not, Bool.and_eq_true, Bool.or_eq_true, beq_iff_eq, bne_iff_ne, beq_eq_false_iff_ne, ne_eq, Classical.not_not, not_true_eq_false, not_false_eq_true, forall_const, Bool.false_eq_true, false_implies, eq_self] at hs); (try (exfalso; omega)); (try simp (disch := omega) only [go_sem, hlt, tk, hs])) | (refine z_seqr rfl ?_) | (refine w_seq rfl fun K hK => ?_) | (refine z_reg rfl ?_) | (refine z_cond rfl ?_) | (refine w_skip rfl ?_; ((repeat ((fail_if_success (refine hK _ _ (cl_id ?_))); clear hK)); refine hK _ _ (cl_id ?_); clear hK)) | (refine w_ret rfl ?_; (try dsimp only [anorm, ablock, astay]); refine z_end ?_) | (refine z_end0 ?_) | (refine w_block rfl ?_) | (refine w_scope rfl ?_) | (refine w_label rfl ?_; ((repeat ((fail_if_success (refine hK _ _ (cl_id ?_))); clear hK)); refine hK _ _ (cl_id ?_); clear hK)) | (refine w_exit rfl ?_; (try dsimp only [anorm, ablock, astay]); (try simp only [reduceIte, ↓reduceIte, Nat.reduceEqDiff]); ((repeat ((fail_if_success (refine hK _ _ (cl_id ?_))); clear hK)); refine hK _ _ (cl_id ?_); clear hK)) | (refine jend_go [(9, [2, 3]), (8, [4, 12, 13]), (7, [4, 12, 13]), (6, [4, 5, 12, 13]), (5, [4, 12, 13, 14]), (4, [4, 12, 13]), (3, [0, 4]), (2, [2, 3]), (1, [0, 11]), (0, [0])] ?_; simp only [tabAt_cons, sel_nil, sel_cons, put_at, ofl_cons, ofl_nil, T0_at, List.getElem?_cons_zero, List.getElem?_cons_succ, List.getElem?_nil, Option.getD_some, Option.getD_none, reduceIte, ↓reduceIte, Nat.reduceEqDiff]; refine jl_go ?_) | simp (disch := omega) only [go_sem, hlt, tk] | (refine jc_t ?_) | (refine jc_f ?_) | (apply zc (hr) []; (case ok => simp (disch := omega) only [go_sem, cok, sgOk, bcl, hlt, tk])) | (apply zl (hp) []; (case ok => simp (disch := omega) only [go_sem, cok, sgOk, bcl, hlt, tk])) | (refine And.intro (by (first | omega | (simp; done) | (simp; omega))) ?_) | (refine mc_b (fun hs => ?_) fun hs => ?_) | (refine mg_st (fun hs => ?_) fun hs => ?_) | (refine mg_sf (fun hs => ?_) fun hs => ?_) | (refine mall_s (fun hs => ?_) fun hs => ?_) | (refine malln_s (fun hs => ?_) fun hs => ?_) | (refine mpk_s (fun hs => ?_) fun hs => ?_) | ((repeat ((fail_if_success (refine hK _ _ (cl_id ?_))); clear hK)); refine hK _ _ (cl_id ?_); clear hK)))
    refine hK _ _ (cq_any [3] rfl (by simp [lv]) ?_ ?_)
    · (simp (disch := omega) only [go_sem])
    · (simp (disch := omega) only [go_sem])
      omega
  · obtain rfl : i = m := by omega
    have hln := swL_len i
    clear hK
    generalize swL i = L1 at *
    (repeat' (first | (have hs := Mk.out hs; (try simp only [decide_eq_true_eq, decide_eq_false_iff_not, Bool.not_eq_true, Bool.not_eq_false, Bool.not_true, Bool.not_false, Bool.not_eq_eq_eq_not, Bool.and_eq_true, Bool.or_eq_true, beq_iff_eq, bne_iff_ne, beq_eq_false_iff_ne, ne_eq, Classical.not_not, not_true_eq_false, not_false_eq_true, forall_const, Bool.false_eq_true, false_implies, eq_self] at hs); (try (exfalso; omega)); (try simp (disch := omega) only [go_sem, hlt, hs])) | (refine z_seqr rfl ?_) | (refine w_seq rfl fun K hK => ?_) | (refine z_reg rfl ?_) | (refine z_cond rfl ?_) | (refine w_skip rfl ?_; ((repeat ((fail_if_success (refine hK _ _ (cl_id ?_))); clear hK)); refine hK _ _ (cl_id ?_); clear hK)) | (refine w_ret rfl ?_; (try dsimp only [anorm, ablock, astay]); refine z_end ?_) | (refine z_end0 ?_) | (refine w_block rfl ?_) | (refine w_scope rfl ?_) | (refine w_label rfl ?_; ((repeat ((fail_if_success (refine hK _ _ (cl_id ?_))); clear hK)); refine hK _ _ (cl_id ?_); clear hK)) | (refine w_exit rfl ?_; (try dsimp only [anorm, ablock, astay]); (try simp only [reduceIte, ↓reduceIte, Nat.reduceEqDiff]); ((repeat ((fail_if_success (refine hK _ _ (cl_id ?_))); clear hK)); refine hK _ _ (cl_id ?_); clear hK)) | (refine jend_go [(9, [2, 3]), (8, [4, 12, 13]), (7, [4, 12, 13]), (6, [4, 5, 12, 13]), (5, [4, 12, 13, 14]), (4, [4, 12, 13]), (3, [0, 4]), (2, [2, 3]), (1, [0, 11]), (0, [0])] ?_; simp only [tabAt_cons, sel_nil, sel_cons, put_at, ofl_cons, ofl_nil, T0_at, List.getElem?_cons_zero, List.getElem?_cons_succ, List.getElem?_nil, Option.getD_some, Option.getD_none, reduceIte, ↓reduceIte, Nat.reduceEqDiff]; refine jl_go ?_) | simp (disch := omega) only [go_sem, hlt] | (refine jc_t ?_) | (refine jc_f ?_) | (refine And.intro (by (first | omega | (simp; done) | (simp; omega))) ?_) | (refine mc_b (fun hs => ?_) fun hs => ?_) | (refine mg_st (fun hs => ?_) fun hs => ?_) | (refine mg_sf (fun hs => ?_) fun hs => ?_) | (refine mall_s (fun hs => ?_) fun hs => ?_) | (refine malln_s (fun hs => ?_) fun hs => ?_) | (refine mpk_s (fun hs => ?_) fun hs => ?_) | ((repeat ((fail_if_success (refine hK _ _ (cl_id ?_))); clear hK)); refine hK _ _ (cl_id ?_); clear hK)))
    exact end_d 2 ⟨rfl, rfl⟩ ⟨by (simp (disch := omega) only [go_sem]), by simp only [frz_tup, List.map_cons, List.map_nil, frz_v]; exact Wk.tups ⟨Wk.of (frzC (by simp) rfl (by first | rfl | (simp; done) | omega)), Wk.refl _, trivial⟩⟩
end Go.Proofs.Ytjfoicebdjonfaa
namespace Go.Tsk
open Go.Am
def fH (l : List Stp) (h : List Nd) : Option (List Nd) := l.foldlM stp h
theorem fH_app (l m : List Stp) (h : List Nd) : fH (l ++ m) h = (fH l h).bind (fH m) := by
  unfold fH
  rw [List.foldlM_append]
  rfl
theorem fH_lk {l : List Nd} (hs : SrtN l l.length) : ∀ i, i ≤ l.length → fH (Go.Proofs.Ytjfoicebdjonfaa.lkS (l.take i)) [] = some (l.take i)
  | 0, _ => rfl
  | i + 1, hi => by
    rw [Go.Proofs.Ytjfoicebdjonfaa.lkS_snoc (by omega), fH_app, fH_lk hs i (by omega)]
    obtain ⟨h1, h2⟩ := hs i (by omega)
    have hl : (l.take i).length = i := by simp; omega
    show (fH [_] (l.take i)) = _
    have : stp (l.take i) (2, (gt l i).1, (gt l i).2) = some (l.take i ++ [gt l i]) := by
      unfold stp
      rw [if_pos rfl]
      simp only
      rw [if_neg]
      rintro (e | ⟨e1, e2⟩)
      · rw [h1] at e; cases e
      · rw [hl] at e1 e2
        have := h2 e1
        rw [gt_take (by omega)] at e2
        omega
    unfold fH
    simp only [List.foldlM_cons, List.foldlM_nil, this]
    rw [take_gt (by omega)]
    rfl
theorem srtN_pw {l : List Nd} (hs : SrtN l l.length) : PW l := by
  have key : ∀ j, j < l.length → ∀ i, i < j → (gt l i).1 < (gt l j).1 := by
    intro j
    induction j with
    | zero => intro _ i hi; omega
    | succ j ih =>
      intro hj i hi
      have h2 := (hs (j + 1) hj).2 (by omega)
      simp only [Nat.add_sub_cancel] at h2
      by_cases e : i = j
      · subst e; exact h2
      · have := ih (by omega) i (by omega)
        omega
  unfold PW
  rw [List.pairwise_iff_getElem]
  intro i j hi hj hij
  have := key j hj i hij
  rwa [gt_eq hi, gt_eq hj] at this
theorem idl_app {x : Int} {q : Nd} (hq : q.1 = x) : ∀ (l : List Nd) (i : Int), (∀ p ∈ l, ¬ p.1 = x) → idl x (l ++ [q]) i = i + l.length
  | [], i, _ => by simp [idl, hq]
  | p :: l, i, h => by
    show idl x (p :: (l ++ [q])) i = _
    unfold idl
    rw [if_neg (h p (by simp)), idl_app hq l (i + 1) fun r hr => h r (by simp [hr])]
    simp
    omega
theorem fH_un : ∀ (n : Nat) (l : List Nd), l.length = n → PW l → fH (l.reverse.map fun x => (4, x)) l = some []
  | 0, l, hn, _ => by
    obtain rfl := List.eq_nil_of_length_eq_zero hn
    rfl
  | n + 1, l, hn, hp => by
    obtain ⟨m, q, rfl⟩ : ∃ m q, l = m ++ [q] := by
      rcases List.eq_nil_or_concat l with h | ⟨m, q, h⟩
      · rw [h] at hn; simp at hn
      · exact ⟨m, q, by simpa using h⟩
    have hm : m.length = n := by simpa using hn
    unfold PW at hp
    rw [List.pairwise_append] at hp
    obtain ⟨hp1, _, hp3⟩ := hp
    have hi : idl q.1 (m ++ [q]) 0 = (m.length : Int) := by
      rw [idl_app rfl m 0 fun p hpm => by have := hp3 p hpm q (by simp); omega]
      omega
    rw [List.reverse_append]
    simp only [List.reverse_cons, List.reverse_nil, List.nil_append, List.map_append, List.map_cons, List.map_nil]
    rw [fH_app]
    have : stp (m ++ [q]) (4, q) = some m := by
      unfold stp
      rw [if_neg (by show ¬ (4 : Int) = 2; decide), if_pos rfl]
      simp only
      rw [hi, if_neg (by omega), Int.toNat_natCast]
      simp [List.eraseIdx_append_of_length_le]
    have h1 : fH [((4 : Int), q)] (m ++ [q]) = some m := by
      unfold fH
      simp only [List.foldlM_cons, List.foldlM_nil, this]
      rfl
    rw [h1]
    exact fH_un n m hm hp1
theorem stp_do (h : List Nd) : stp h (3, 0, false) = some h := by simp [stp]
theorem fH_plan {l : List Nd} (hs : srt l = true) : fH (Go.Proofs.Ytjfoicebdjonfaa.planS l) [] = some [] := by
  have hs := of_decide_eq_true hs
  unfold Go.Proofs.Ytjfoicebdjonfaa.planS
  rw [fH_app, fH_app]
  have h1 := fH_lk hs l.length (Nat.le_refl _)
  rw [List.take_length] at h1
  rw [h1]
  have h2 : fH [((3 : Int), (0 : Int), false)] l = some l := by
    unfold fH
    simp only [List.foldlM_cons, List.foldlM_nil, stp_do]
    rfl
  show ((fH [((3 : Int), (0 : Int), false)] l).bind _) = _
  rw [h2]
  exact fH_un _ l rfl (srtN_pw hs)
theorem fH_sw (n : Nat) (hn : n ≤ 64) : fH (Go.Proofs.Ytjfoicebdjonfaa.swL n) [] = some [] := by
  induction n with
  | zero => rfl
  | succ n ih =>
    rw [Go.Proofs.Ytjfoicebdjonfaa.swL_succ, fH_app, ih (by omega)]
    exact fH_plan (Go.Proofs.Ytjfoicebdjonfaa.srt1 _ _ (decide_eq_true (by omega)))
end Go.Tsk
