/- The needs of both; the reference's Merge, by the machine. No condition but bounds of lengths. -/
import Derived.Test.YtjfoicebdjonfaaQKg
import Derived.Test.YtjfoicebdjonfaaQb2
import Derived.Test.YtjfoicebdjonfaaQgs
set_option linter.unusedSectionVars false
set_option linter.unusedVariables false
set_option linter.unusedSimpArgs false
set_option linter.deprecated false
namespace Go.Tsk
open Go.Am
def has1 (l : List Nd) (k : Int) : Bool := l.any fun x => decide (x.1 = k)
def wr1 (l : List Nd) (k : Int) : Bool := l.any fun x => decide (x.1 = k) && x.2
def mrgL (l : List Nd) (n : Nat) : List Nd := (List.range n).filterMap fun k : Nat => if has1 l k = true then some ((k : Int), wr1 l k) else none
def mrg (a b : List Nd) : List Nd := mrgL (a ++ b) 67
theorem mrgL_succ (l : List Nd) (n : Nat) : mrgL l (n + 1) = if has1 l n = true then mrgL l n ++ [((n : Int), wr1 l n)] else mrgL l n := by
  unfold mrgL
  rw [List.range_succ, List.filterMap_append]
  by_cases h : has1 l n = true
  · rw [if_pos h]; simp [h]
  · rw [if_neg h]; simp [h]
theorem mrgL_len (l : List Nd) (n : Nat) : (mrgL l n).length ≤ n := by
  unfold mrgL
  have := List.length_filterMap_le (fun k : Nat => if has1 l k = true then some ((k : Int), wr1 l k) else none) (List.range n)
  simpa using this
theorem has1_take {l : List Nd} {i : Nat} {k : Int} (h : i < l.length) : has1 (l.take (i + 1)) k = (has1 (l.take i) k || decide ((gt l i).1 = k)) := by
  unfold has1
  rw [take_gt h, List.any_append]
  simp
theorem wr1_take {l : List Nd} {i : Nat} {k : Int} (h : i < l.length) : wr1 (l.take (i + 1)) k = (wr1 (l.take i) k || (decide ((gt l i).1 = k) && (gt l i).2)) := by
  unfold wr1
  rw [take_gt h, List.any_append]
  simp
end Go.Tsk
namespace Go.Proofs.Ytjfoicebdjonfaa
open Go.RowKit Go.Cx Go.Am Go.Tsk
set_option maxRecDepth 8000
set_option maxHeartbeats 2000000
attribute [local irreducible] ACalls jcall jsame jex jexg jexh jguard jconv jload jpart jstore jbin jslice jidxA jidx jfield jfieldA jbuild jbuildS jmake jappend jlen jpick jres jcnd jcopy jcap jborn jdraw jops jop jstr jstrc jlive jend jlenM
attribute [local go_sem] reduceIte Nat.reduceEqDiff Nat.reduceAdd Nat.reduceMul Nat.reduceLT Nat.reduceLeDiff Nat.reduceSub Int.reduceLT Int.reduceLE Int.reduceToNat Int.reduceNeg Int.reduceAdd Int.reduceSub UInt8.reduceToNat Int.reduceEq reduceCtorEq Int.reducePow Int.reduceMul Nat.reducePow E0
attribute [local go_sem ↓] reduceIte
attribute [local go_sem high] chunks_bvs
attribute [local go_sem] bmap nbB gfB tgs_nil tgs_snoc tagC_eq rwb_nil rwc_nil rwc_len rwc_take rwc_snoc rwc_nbss rwc_amapss
attribute [local go_sem ←] List.map_take List.map_drop

theorem rmerge_am (a b : List Nd) (ha : a.length ≤ 1000) (hb : b.length ≤ 1000) : ACalls E0 40 [.sl 2 (cels a), .sl 2 (cels b)] [] fun r H' => r = .sl 2 (cels (mrg a b)) ∧ H' = [] := by
  unfold mrg
  have hm : (a ++ b).length = a.length + b.length := by simp
  refine calls_q (calls_of Try.func40 rfl (by kernel_rfl) (by kernel_rfl) (by rw [Try.ntmps40]; exact Nat.le_of_ble_eq_true rfl) (fun hH0 hA0 => ?_)); rw [Try.results40]
  (repeat' (first | (have hs := Mk.out hs; (try simp only [decide_eq_true_eq, decide_eq_false_iff_not, Bool.not_eq_true, Bool.not_eq_false, Bool.not_true, Bool.not_false, Bool.not_eq_eq_eq_not, Bool.and_eq_true, Bool.or_eq_true, beq_iff_eq, bne_iff_ne, beq_eq_false_iff_ne, ne_eq, Classical.not_not, not_true_eq_false, not_false_eq_true, forall_const, Bool.false_eq_true, false_implies, eq_self] at hs); (try (exfalso; omega)); (try simp (disch := omega) only [go_sem, hs])) | (refine z_seqr rfl ?_) | (refine w_seq rfl fun K hK => ?_) | (refine z_reg rfl ?_) | (refine z_cond rfl ?_) | (refine w_skip rfl ?_; ((repeat ((fail_if_success (refine hK _ _ (cl_id ?_))); clear hK)); refine hK _ _ (cl_id ?_); clear hK)) | (refine w_ret rfl ?_; (try dsimp only [anorm, ablock, astay]); refine z_end ?_) | (refine z_end0 ?_) | (refine w_block rfl ?_) | (refine w_scope rfl ?_) | (refine w_label rfl ?_; ((repeat ((fail_if_success (refine hK _ _ (cl_id ?_))); clear hK)); refine hK _ _ (cl_id ?_); clear hK)) | (refine w_exit rfl ?_; (try dsimp only [anorm, ablock, astay]); (try simp only [reduceIte, ↓reduceIte, Nat.reduceEqDiff]); ((repeat ((fail_if_success (refine hK _ _ (cl_id ?_))); clear hK)); refine hK _ _ (cl_id ?_); clear hK)) | (refine jend_go [(17, [4]), (7, [5, 6, 7]), (16, [5, 6, 7]), (15, [5, 6, 7, 9, 42]), (11, [5, 6, 7, 8, 9, 10]), (14, [5, 6, 7, 8, 9, 10]), (13, [5, 6, 7, 8, 9, 10]), (12, [5, 6, 7, 8, 9, 10, 33]), (10, [5, 6, 7, 8, 9, 10, 24]), (9, [5, 6, 7, 8, 9, 10]), (8, [5, 6, 7, 8, 9]), (6, [5, 6, 7, 18]), (5, [5, 6, 7]), (4, [5, 6]), (3, [5]), (2, [1, 5]), (1, [0, 1, 5]), (0, [0, 1])] ?_; simp only [tabAt_cons, sel_nil, sel_cons, put_at, ofl_cons, ofl_nil, T0_at, List.getElem?_cons_zero, List.getElem?_cons_succ, List.getElem?_nil, Option.getD_some, Option.getD_none, reduceIte, ↓reduceIte, Nat.reduceEqDiff]; refine jl_go ?_) | simp (disch := omega) only [go_sem] | (refine jc_t ?_) | (refine jc_f ?_) | (refine And.intro (by (first | omega | (simp; done) | (simp; omega))) ?_) | (refine mc_b (fun hs => ?_) fun hs => ?_) | (refine mg_st (fun hs => ?_) fun hs => ?_) | (refine mg_sf (fun hs => ?_) fun hs => ?_) | (refine mall_s (fun hs => ?_) fun hs => ?_) | (refine malln_s (fun hs => ?_) fun hs => ?_) | (refine mpk_s (fun hs => ?_) fun hs => ?_) | ((repeat ((fail_if_success (refine hK _ _ (cl_id ?_))); clear hK)); refine hK _ _ (cl_id ?_); clear hK)))
  generalize a ++ b = m at *
  refine z_loop rfl (fun k => k ≤ 67) (fun k => 67 - k) (fun k => [(5, .hs 0 2 0 m.length), (6, .hs 1 2 0 (mrgL m k).length), (7, .v (.int .i64 (k : Int)))]) (fun k => [some (.row true 2 (cels m)), some (.row true 2 (cels (mrgL m k)))]) 0 (Nat.zero_le _) ?_ ?_
  · have e0 : mrgL m 0 = [] := rfl
    rw [e0]
    refine (cq_bare 2 6 rfl).trans (cq_any [1, 2] rfl (by simp [lv]) ?_ ?_)
    · (simp (disch := omega) only [go_sem])
    · (simp (disch := omega) only [go_sem, hm])
  intro k hk Ko hKo
  have hml := mrgL_len m k
  by_cases hlt : (k : Int) ≤ 66
  · have hK2 := hKo
    clear hKo
    have hKo := fun T' H' => hK2 T' H' (k + 1) (by omega) (by omega)
    clear hK2
    rw [mrgL_succ] at hKo
    revert hKo
    generalize mrgL m k = L at *
    intro hKo
    (repeat' (first | (have hs := Mk.out hs; (try simp only [decide_eq_true_eq, decide_eq_false_iff_not, Bool.not_eq_true, Bool.not_eq_false, Bool.not_true, Bool.not_false, Bool.not_eq_eq_eq_not, Bool.and_eq_true, Bool.or_eq_true, beq_iff_eq, bne_iff_ne, beq_eq_false_iff_ne, ne_eq, Classical.not_not, not_true_eq_false, not_false_eq_true, forall_const, Bool.false_eq_true, false_implies, eq_self] at hs); (try (exfalso; omega)); (try simp (disch := omega) only [go_sem, hlt, hs])) | (refine z_seqr rfl ?_) | (refine w_seq rfl fun K hK => ?_) | (refine z_reg rfl ?_) | (refine z_cond rfl ?_) | (refine w_skip rfl ?_; ((repeat ((fail_if_success (refine hK _ _ (cl_id ?_))); clear hK)); refine hK _ _ (cl_id ?_); clear hK)) | (refine w_ret rfl ?_; (try dsimp only [anorm, ablock, astay]); refine z_end ?_) | (refine z_end0 ?_) | (refine w_block rfl ?_) | (refine w_scope rfl ?_) | (refine w_label rfl ?_; ((repeat ((fail_if_success (refine hK _ _ (cl_id ?_))); clear hK)); refine hK _ _ (cl_id ?_); clear hK)) | (refine w_exit rfl ?_; (try dsimp only [anorm, ablock, astay]); (try simp only [reduceIte, ↓reduceIte, Nat.reduceEqDiff]); ((repeat ((fail_if_success (refine hK _ _ (cl_id ?_))); clear hK)); refine hK _ _ (cl_id ?_); clear hK)) | (refine jend_go [(17, [4]), (7, [5, 6, 7]), (16, [5, 6, 7]), (15, [5, 6, 7, 9, 42]), (11, [5, 6, 7, 8, 9, 10]), (14, [5, 6, 7, 8, 9, 10]), (13, [5, 6, 7, 8, 9, 10]), (12, [5, 6, 7, 8, 9, 10, 33]), (10, [5, 6, 7, 8, 9, 10, 24]), (9, [5, 6, 7, 8, 9, 10]), (8, [5, 6, 7, 8, 9]), (6, [5, 6, 7, 18]), (5, [5, 6, 7]), (4, [5, 6]), (3, [5]), (2, [1, 5]), (1, [0, 1, 5]), (0, [0, 1])] ?_; simp only [tabAt_cons, sel_nil, sel_cons, put_at, ofl_cons, ofl_nil, T0_at, List.getElem?_cons_zero, List.getElem?_cons_succ, List.getElem?_nil, Option.getD_some, Option.getD_none, reduceIte, ↓reduceIte, Nat.reduceEqDiff]; refine jl_go ?_) | simp (disch := omega) only [go_sem, hlt] | (refine jc_t ?_) | (refine jc_f ?_) | (refine And.intro (by (first | omega | (simp; done) | (simp; omega))) ?_) | (refine mc_b (fun hs => ?_) fun hs => ?_) | (refine mg_st (fun hs => ?_) fun hs => ?_) | (refine mg_sf (fun hs => ?_) fun hs => ?_) | (refine mall_s (fun hs => ?_) fun hs => ?_) | (refine malln_s (fun hs => ?_) fun hs => ?_) | (refine mpk_s (fun hs => ?_) fun hs => ?_) | ((repeat ((fail_if_success (refine hK _ _ (cl_id ?_))); clear hK)); refine hK _ _ (cl_id ?_); clear hK)))
    refine z_loop rfl (fun i => i ≤ m.length) (fun i => m.length - i) (fun i => [(5, .hs 0 2 0 m.length), (6, .hs 1 2 0 L.length), (7, .v (.int .i64 (k : Int))), (8, .v (.bool (has1 (m.take i) k))), (9, .v (.bool (wr1 (m.take i) k))), (10, .v (.int .i64 (i : Int)))]) (fun _ => [some (.row true 2 (cels m)), some (.row true 2 (cels L))]) 0 (Nat.zero_le _) (cq_s ?_) ?_
    · have e1 : has1 ([] : List Nd) k = false := rfl
      have e2 : wr1 ([] : List Nd) k = false := rfl
      (simp (disch := omega) only [go_sem, e1, e2])
    intro i hi K hK
    by_cases hlt2 : (i : Int) < m.length
    · have hK2 := hK
      clear hK
      have hK := fun T' H' => hK2 T' H' (i + 1) (by omega) (by omega)
      clear hK2
      rw [has1_take (by omega), wr1_take (by omega)] at hK
      by_cases e : (gt m i).1 = (k : Int)
      · rw [decide_eq_true e, Bool.or_true, Bool.true_and] at hK
        generalize has1 (m.take i) k = b8 at *
        generalize wr1 (m.take i) k = b9 at *
        cases b9
        · rw [Bool.false_or] at hK
          (repeat' (first | (have hs := Mk.out hs; (try simp only [decide_eq_true_eq, decide_eq_false_iff_not, Bool.not_eq_true, Bool.not_eq_false, Bool.not_true, Bool.not_false, Bool.not_eq_eq_eq_not, Bool.and_eq_true, Bool.or_eq_true, beq_iff_eq, bne_iff_ne, beq_eq_false_iff_ne, ne_eq, Classical.not_not, not_true_eq_false, not_false_eq_true, forall_const, Bool.false_eq_true, false_implies, eq_self] at hs); (try (exfalso; omega)); (try simp (disch := omega) only [go_sem, hlt2, e, hs])) | (refine z_seqr rfl ?_) | (refine w_seq rfl fun K hK => ?_) | (refine z_reg rfl ?_) | (refine z_cond rfl ?_) | (refine w_skip rfl ?_; ((repeat ((fail_if_success (refine hK _ _ (cl_id ?_))); clear hK)); refine hK _ _ (cl_id ?_); clear hK)) | (refine w_ret rfl ?_; (try dsimp only [anorm, ablock, astay]); refine z_end ?_) | (refine z_end0 ?_) | (refine w_block rfl ?_) | (refine w_scope rfl ?_) | (refine w_label rfl ?_; ((repeat ((fail_if_success (refine hK _ _ (cl_id ?_))); clear hK)); refine hK _ _ (cl_id ?_); clear hK)) | (refine w_exit rfl ?_; (try dsimp only [anorm, ablock, astay]); (try simp only [reduceIte, ↓reduceIte, Nat.reduceEqDiff]); ((repeat ((fail_if_success (refine hK _ _ (cl_id ?_))); clear hK)); refine hK _ _ (cl_id ?_); clear hK)) | (refine jend_go [(17, [4]), (7, [5, 6, 7]), (16, [5, 6, 7]), (15, [5, 6, 7, 9, 42]), (11, [5, 6, 7, 8, 9, 10]), (14, [5, 6, 7, 8, 9, 10]), (13, [5, 6, 7, 8, 9, 10]), (12, [5, 6, 7, 8, 9, 10, 33]), (10, [5, 6, 7, 8, 9, 10, 24]), (9, [5, 6, 7, 8, 9, 10]), (8, [5, 6, 7, 8, 9]), (6, [5, 6, 7, 18]), (5, [5, 6, 7]), (4, [5, 6]), (3, [5]), (2, [1, 5]), (1, [0, 1, 5]), (0, [0, 1])] ?_; simp only [tabAt_cons, sel_nil, sel_cons, put_at, ofl_cons, ofl_nil, T0_at, List.getElem?_cons_zero, List.getElem?_cons_succ, List.getElem?_nil, Option.getD_some, Option.getD_none, reduceIte, ↓reduceIte, Nat.reduceEqDiff]; refine jl_go ?_) | simp (disch := omega) only [go_sem, hlt2, e] | (refine jc_t ?_) | (refine jc_f ?_) | (refine And.intro (by (first | omega | (simp; done) | (simp; omega))) ?_) | (refine mc_b (fun hs => ?_) fun hs => ?_) | (refine mg_st (fun hs => ?_) fun hs => ?_) | (refine mg_sf (fun hs => ?_) fun hs => ?_) | (refine mall_s (fun hs => ?_) fun hs => ?_) | (refine malln_s (fun hs => ?_) fun hs => ?_) | (refine mpk_s (fun hs => ?_) fun hs => ?_) | ((repeat ((fail_if_success (refine hK _ _ (cl_id ?_))); clear hK)); refine hK _ _ (cl_id ?_); clear hK)))
          refine hK _ _ (cq_any [0, 1] rfl (by simp [lv]) ?_ ?_)
          · (simp (disch := omega) only [go_sem])
          · (simp (disch := omega) only [go_sem])
            omega
        · rw [Bool.true_or] at hK
          (repeat' (first | (have hs := Mk.out hs; (try simp only [decide_eq_true_eq, decide_eq_false_iff_not, Bool.not_eq_true, Bool.not_eq_false, Bool.not_true, Bool.not_false, Bool.not_eq_eq_eq_not, Bool.and_eq_true, Bool.or_eq_true, beq_iff_eq, bne_iff_ne, beq_eq_false_iff_ne, ne_eq, Classical.not_not, not_true_eq_false, not_false_eq_true, forall_const, Bool.false_eq_true, false_implies, eq_self] at hs); (try (exfalso; omega)); (try simp (disch := omega) only [go_sem, hlt2, e, hs])) | (refine z_seqr rfl ?_) | (refine w_seq rfl fun K hK => ?_) | (refine z_reg rfl ?_) | (refine z_cond rfl ?_) | (refine w_skip rfl ?_; ((repeat ((fail_if_success (refine hK _ _ (cl_id ?_))); clear hK)); refine hK _ _ (cl_id ?_); clear hK)) | (refine w_ret rfl ?_; (try dsimp only [anorm, ablock, astay]); refine z_end ?_) | (refine z_end0 ?_) | (refine w_block rfl ?_) | (refine w_scope rfl ?_) | (refine w_label rfl ?_; ((repeat ((fail_if_success (refine hK _ _ (cl_id ?_))); clear hK)); refine hK _ _ (cl_id ?_); clear hK)) | (refine w_exit rfl ?_; (try dsimp only [anorm, ablock, astay]); (try simp only [reduceIte, ↓reduceIte, Nat.reduceEqDiff]); ((repeat ((fail_if_success (refine hK _ _ (cl_id ?_))); clear hK)); refine hK _ _ (cl_id ?_); clear hK)) | (refine jend_go [(17, [4]), (7, [5, 6, 7]), (16, [5, 6, 7]), (15, [5, 6, 7, 9, 42]), (11, [5, 6, 7, 8, 9, 10]), (14, [5, 6, 7, 8, 9, 10]), (13, [5, 6, 7, 8, 9, 10]), (12, [5, 6, 7, 8, 9, 10, 33]), (10, [5, 6, 7, 8, 9, 10, 24]), (9, [5, 6, 7, 8, 9, 10]), (8, [5, 6, 7, 8, 9]), (6, [5, 6, 7, 18]), (5, [5, 6, 7]), (4, [5, 6]), (3, [5]), (2, [1, 5]), (1, [0, 1, 5]), (0, [0, 1])] ?_; simp only [tabAt_cons, sel_nil, sel_cons, put_at, ofl_cons, ofl_nil, T0_at, List.getElem?_cons_zero, List.getElem?_cons_succ, List.getElem?_nil, Option.getD_some, Option.getD_none, reduceIte, ↓reduceIte, Nat.reduceEqDiff]; refine jl_go ?_) | simp (disch := omega) only [go_sem, hlt2, e] | (refine jc_t ?_) | (refine jc_f ?_) | (refine And.intro (by (first | omega | (simp; done) | (simp; omega))) ?_) | (refine mc_b (fun hs => ?_) fun hs => ?_) | (refine mg_st (fun hs => ?_) fun hs => ?_) | (refine mg_sf (fun hs => ?_) fun hs => ?_) | (refine mall_s (fun hs => ?_) fun hs => ?_) | (refine malln_s (fun hs => ?_) fun hs => ?_) | (refine mpk_s (fun hs => ?_) fun hs => ?_) | ((repeat ((fail_if_success (refine hK _ _ (cl_id ?_))); clear hK)); refine hK _ _ (cl_id ?_); clear hK)))
          refine hK _ _ (cq_any [0, 1] rfl (by simp [lv]) ?_ ?_)
          · (simp (disch := omega) only [go_sem])
          · (simp (disch := omega) only [go_sem])
            omega
      · rw [decide_eq_false e, Bool.or_false, Bool.false_and, Bool.or_false] at hK
        generalize has1 (m.take i) k = b8 at *
        generalize wr1 (m.take i) k = b9 at *
        (repeat' (first | (have hs := Mk.out hs; (try simp only [decide_eq_true_eq, decide_eq_false_iff_not, Bool.not_eq_true, Bool.not_eq_false, Bool.not_true, Bool.not_false, Bool.not_eq_eq_eq_not, Bool.and_eq_true, Bool.or_eq_true, beq_iff_eq, bne_iff_ne, beq_eq_false_iff_ne, ne_eq, Classical.not_not, not_true_eq_false, not_false_eq_true, forall_const, Bool.false_eq_true, false_implies, eq_self] at hs); (try (exfalso; omega)); (try simp (disch := omega) only [go_sem, hlt2, e, hs])) | (refine z_seqr rfl ?_) | (refine w_seq rfl fun K hK => ?_) | (refine z_reg rfl ?_) | (refine z_cond rfl ?_) | (refine w_skip rfl ?_; ((repeat ((fail_if_success (refine hK _ _ (cl_id ?_))); clear hK)); refine hK _ _ (cl_id ?_); clear hK)) | (refine w_ret rfl ?_; (try dsimp only [anorm, ablock, astay]); refine z_end ?_) | (refine z_end0 ?_) | (refine w_block rfl ?_) | (refine w_scope rfl ?_) | (refine w_label rfl ?_; ((repeat ((fail_if_success (refine hK _ _ (cl_id ?_))); clear hK)); refine hK _ _ (cl_id ?_); clear hK)) | (refine w_exit rfl ?_; (try dsimp only [anorm, ablock, astay]); (try simp only [reduceIte, ↓reduceIte, Nat.reduceEqDiff]); ((repeat ((fail_if_success (refine hK _ _ (cl_id ?_))); clear hK)); refine hK _ _ (cl_id ?_); clear hK)) | (refine jend_go [(17, [4]), (7, [5, 6, 7]), (16, [5, 6, 7]), (15, [5, 6, 7, 9, 42]), (11, [5, 6, 7, 8, 9, 10]), (14, [5, 6, 7, 8, 9, 10]), (13, [5, 6, 7, 8, 9, 10]), (12, [5, 6, 7, 8, 9, 10, 33]), (10, [5, 6, 7, 8, 9, 10, 24]), (9, [5, 6, 7, 8, 9, 10]), (8, [5, 6, 7, 8, 9]), (6, [5, 6, 7, 18]), (5, [5, 6, 7]), (4, [5, 6]), (3, [5]), (2, [1, 5]), (1, [0, 1, 5]), (0, [0, 1])] ?_; simp only [tabAt_cons, sel_nil, sel_cons, put_at, ofl_cons, ofl_nil, T0_at, List.getElem?_cons_zero, List.getElem?_cons_succ, List.getElem?_nil, Option.getD_some, Option.getD_none, reduceIte, ↓reduceIte, Nat.reduceEqDiff]; refine jl_go ?_) | simp (disch := omega) only [go_sem, hlt2, e] | (refine jc_t ?_) | (refine jc_f ?_) | (refine And.intro (by (first | omega | (simp; done) | (simp; omega))) ?_) | (refine mc_b (fun hs => ?_) fun hs => ?_) | (refine mg_st (fun hs => ?_) fun hs => ?_) | (refine mg_sf (fun hs => ?_) fun hs => ?_) | (refine mall_s (fun hs => ?_) fun hs => ?_) | (refine malln_s (fun hs => ?_) fun hs => ?_) | (refine mpk_s (fun hs => ?_) fun hs => ?_) | ((repeat ((fail_if_success (refine hK _ _ (cl_id ?_))); clear hK)); refine hK _ _ (cl_id ?_); clear hK)))
        refine hK _ _ (cq_any [0, 1] rfl (by simp [lv]) ?_ ?_)
        · (simp (disch := omega) only [go_sem])
        · (simp (disch := omega) only [go_sem])
          omega
    · obtain rfl : i = m.length := by omega
      rw [List.take_length]
      clear hK
      cases h8 : has1 m k with
      | true =>
        rw [h8, if_pos rfl] at hKo
        generalize wr1 m k = b9 at *
        (repeat' (first | (have hs := Mk.out hs; (try simp only [decide_eq_true_eq, decide_eq_false_iff_not, Bool.not_eq_true, Bool.not_eq_false, Bool.not_true, Bool.not_false, Bool.not_eq_eq_eq_not, Bool.and_eq_true, Bool.or_eq_true, beq_iff_eq, bne_iff_ne, beq_eq_false_iff_ne, ne_eq, Classical.not_not, not_true_eq_false, not_false_eq_true, forall_const, Bool.false_eq_true, false_implies, eq_self] at hs); (try (exfalso; omega)); (try simp (disch := omega) only [go_sem, hlt2, hs])) | (refine z_seqr rfl ?_) | (refine w_seq rfl fun K hK => ?_) | (refine z_reg rfl ?_) | (refine z_cond rfl ?_) | (refine w_skip rfl ?_; ((repeat ((fail_if_success (refine hK _ _ (cl_id ?_))); clear hK)); refine hK _ _ (cl_id ?_); clear hK)) | (refine w_ret rfl ?_; (try dsimp only [anorm, ablock, astay]); refine z_end ?_) | (refine z_end0 ?_) | (refine w_block rfl ?_) | (refine w_scope rfl ?_) | (refine w_label rfl ?_; ((repeat ((fail_if_success (refine hK _ _ (cl_id ?_))); clear hK)); refine hK _ _ (cl_id ?_); clear hK)) | (refine w_exit rfl ?_; (try dsimp only [anorm, ablock, astay]); (try simp only [reduceIte, ↓reduceIte, Nat.reduceEqDiff]); ((repeat ((fail_if_success (refine hK _ _ (cl_id ?_))); clear hK)); refine hK _ _ (cl_id ?_); clear hK)) | (refine jend_go [(17, [4]), (7, [5, 6, 7]), (16, [5, 6, 7]), (15, [5, 6, 7, 9, 42]), (11, [5, 6, 7, 8, 9, 10]), (14, [5, 6, 7, 8, 9, 10]), (13, [5, 6, 7, 8, 9, 10]), (12, [5, 6, 7, 8, 9, 10, 33]), (10, [5, 6, 7, 8, 9, 10, 24]), (9, [5, 6, 7, 8, 9, 10]), (8, [5, 6, 7, 8, 9]), (6, [5, 6, 7, 18]), (5, [5, 6, 7]), (4, [5, 6]), (3, [5]), (2, [1, 5]), (1, [0, 1, 5]), (0, [0, 1])] ?_; simp only [tabAt_cons, sel_nil, sel_cons, put_at, ofl_cons, ofl_nil, T0_at, List.getElem?_cons_zero, List.getElem?_cons_succ, List.getElem?_nil, Option.getD_some, Option.getD_none, reduceIte, ↓reduceIte, Nat.reduceEqDiff]; refine jl_go ?_) | simp (disch := omega) only [go_sem, hlt2] | (refine jc_t ?_) | (refine jc_f ?_) | (refine And.intro (by (first | omega | (simp; done) | (simp; omega))) ?_) | (refine mc_b (fun hs => ?_) fun hs => ?_) | (refine mg_st (fun hs => ?_) fun hs => ?_) | (refine mg_sf (fun hs => ?_) fun hs => ?_) | (refine mall_s (fun hs => ?_) fun hs => ?_) | (refine malln_s (fun hs => ?_) fun hs => ?_) | (refine mpk_s (fun hs => ?_) fun hs => ?_) | ((repeat ((fail_if_success (refine hK _ _ (cl_id ?_))); clear hK)); refine hK _ _ (cl_id ?_); clear hK)))
        refine hKo _ _ (cq_any [0, 3] rfl (by simp [lv]) ?_ ?_)
        · (simp (disch := omega) only [go_sem])
        · (simp (disch := omega) only [go_sem])
          omega
      | false =>
        rw [h8, if_neg (by simp)] at hKo
        generalize wr1 m k = b9 at *
        (repeat' (first | (have hs := Mk.out hs; (try simp only [decide_eq_true_eq, decide_eq_false_iff_not, Bool.not_eq_true, Bool.not_eq_false, Bool.not_true, Bool.not_false, Bool.not_eq_eq_eq_not, Bool.and_eq_true, Bool.or_eq_true, beq_iff_eq, bne_iff_ne, beq_eq_false_iff_ne, ne_eq, Classical.not_not, not_true_eq_false, not_false_eq_true, forall_const, Bool.false_eq_true, false_implies, eq_self] at hs); (try (exfalso; omega)); (try simp (disch := omega) only [go_sem, hlt2, hs])) | (refine z_seqr rfl ?_) | (refine w_seq rfl fun K hK => ?_) | (refine z_reg rfl ?_) | (refine z_cond rfl ?_) | (refine w_skip rfl ?_; ((repeat ((fail_if_success (refine hK _ _ (cl_id ?_))); clear hK)); refine hK _ _ (cl_id ?_); clear hK)) | (refine w_ret rfl ?_; (try dsimp only [anorm, ablock, astay]); refine z_end ?_) | (refine z_end0 ?_) | (refine w_block rfl ?_) | (refine w_scope rfl ?_) | (refine w_label rfl ?_; ((repeat ((fail_if_success (refine hK _ _ (cl_id ?_))); clear hK)); refine hK _ _ (cl_id ?_); clear hK)) | (refine w_exit rfl ?_; (try dsimp only [anorm, ablock, astay]); (try simp only [reduceIte, ↓reduceIte, Nat.reduceEqDiff]); ((repeat ((fail_if_success (refine hK _ _ (cl_id ?_))); clear hK)); refine hK _ _ (cl_id ?_); clear hK)) | (refine jend_go [(17, [4]), (7, [5, 6, 7]), (16, [5, 6, 7]), (15, [5, 6, 7, 9, 42]), (11, [5, 6, 7, 8, 9, 10]), (14, [5, 6, 7, 8, 9, 10]), (13, [5, 6, 7, 8, 9, 10]), (12, [5, 6, 7, 8, 9, 10, 33]), (10, [5, 6, 7, 8, 9, 10, 24]), (9, [5, 6, 7, 8, 9, 10]), (8, [5, 6, 7, 8, 9]), (6, [5, 6, 7, 18]), (5, [5, 6, 7]), (4, [5, 6]), (3, [5]), (2, [1, 5]), (1, [0, 1, 5]), (0, [0, 1])] ?_; simp only [tabAt_cons, sel_nil, sel_cons, put_at, ofl_cons, ofl_nil, T0_at, List.getElem?_cons_zero, List.getElem?_cons_succ, List.getElem?_nil, Option.getD_some, Option.getD_none, reduceIte, ↓reduceIte, Nat.reduceEqDiff]; refine jl_go ?_) | simp (disch := omega) only [go_sem, hlt2] | (refine jc_t ?_) | (refine jc_f ?_) | (refine And.intro (by (first | omega | (simp; done) | (simp; omega))) ?_) | (refine mc_b (fun hs => ?_) fun hs => ?_) | (refine mg_st (fun hs => ?_) fun hs => ?_) | (refine mg_sf (fun hs => ?_) fun hs => ?_) | (refine mall_s (fun hs => ?_) fun hs => ?_) | (refine malln_s (fun hs => ?_) fun hs => ?_) | (refine mpk_s (fun hs => ?_) fun hs => ?_) | ((repeat ((fail_if_success (refine hK _ _ (cl_id ?_))); clear hK)); refine hK _ _ (cl_id ?_); clear hK)))
        refine hKo _ _ (cq_any [0, 1] rfl (by simp [lv]) ?_ ?_)
        · (simp (disch := omega) only [go_sem])
        · (simp (disch := omega) only [go_sem])
          omega
  · obtain rfl : k = 67 := by omega
    clear hKo
    generalize mrgL m 67 = L at *
    (repeat' (first | (have hs := Mk.out hs; (try simp only [decide_eq_true_eq, decide_eq_false_iff_not, Bool.not_eq_true, Bool.not_eq_false, Bool.not_true, Bool.not_false, Bool.not_eq_eq_eq_not, Bool.and_eq_true, Bool.or_eq_true, beq_iff_eq, bne_iff_ne, beq_eq_false_iff_ne, ne_eq, Classical.not_not, not_true_eq_false, not_false_eq_true, forall_const, Bool.false_eq_true, false_implies, eq_self] at hs); (try (exfalso; omega)); (try simp (disch := omega) only [go_sem, hlt, hs])) | (refine z_seqr rfl ?_) | (refine w_seq rfl fun K hK => ?_) | (refine z_reg rfl ?_) | (refine z_cond rfl ?_) | (refine w_skip rfl ?_; ((repeat ((fail_if_success (refine hK _ _ (cl_id ?_))); clear hK)); refine hK _ _ (cl_id ?_); clear hK)) | (refine w_ret rfl ?_; (try dsimp only [anorm, ablock, astay]); refine z_end ?_) | (refine z_end0 ?_) | (refine w_block rfl ?_) | (refine w_scope rfl ?_) | (refine w_label rfl ?_; ((repeat ((fail_if_success (refine hK _ _ (cl_id ?_))); clear hK)); refine hK _ _ (cl_id ?_); clear hK)) | (refine w_exit rfl ?_; (try dsimp only [anorm, ablock, astay]); (try simp only [reduceIte, ↓reduceIte, Nat.reduceEqDiff]); ((repeat ((fail_if_success (refine hK _ _ (cl_id ?_))); clear hK)); refine hK _ _ (cl_id ?_); clear hK)) | (refine jend_go [(17, [4]), (7, [5, 6, 7]), (16, [5, 6, 7]), (15, [5, 6, 7, 9, 42]), (11, [5, 6, 7, 8, 9, 10]), (14, [5, 6, 7, 8, 9, 10]), (13, [5, 6, 7, 8, 9, 10]), (12, [5, 6, 7, 8, 9, 10, 33]), (10, [5, 6, 7, 8, 9, 10, 24]), (9, [5, 6, 7, 8, 9, 10]), (8, [5, 6, 7, 8, 9]), (6, [5, 6, 7, 18]), (5, [5, 6, 7]), (4, [5, 6]), (3, [5]), (2, [1, 5]), (1, [0, 1, 5]), (0, [0, 1])] ?_; simp only [tabAt_cons, sel_nil, sel_cons, put_at, ofl_cons, ofl_nil, T0_at, List.getElem?_cons_zero, List.getElem?_cons_succ, List.getElem?_nil, Option.getD_some, Option.getD_none, reduceIte, ↓reduceIte, Nat.reduceEqDiff]; refine jl_go ?_) | simp (disch := omega) only [go_sem, hlt] | (refine jc_t ?_) | (refine jc_f ?_) | (refine And.intro (by (first | omega | (simp; done) | (simp; omega))) ?_) | (refine mc_b (fun hs => ?_) fun hs => ?_) | (refine mg_st (fun hs => ?_) fun hs => ?_) | (refine mg_sf (fun hs => ?_) fun hs => ?_) | (refine mall_s (fun hs => ?_) fun hs => ?_) | (refine malln_s (fun hs => ?_) fun hs => ?_) | (refine mpk_s (fun hs => ?_) fun hs => ?_) | ((repeat ((fail_if_success (refine hK _ _ (cl_id ?_))); clear hK)); refine hK _ _ (cl_id ?_); clear hK)))
    exact end_d 1 ⟨rfl, rfl⟩ ⟨by (simp (disch := omega) only [go_sem]), Wk.of (frzC (by simp) rfl (by first | rfl | (simp; done) | omega))⟩
theorem rmergeN_am (a : List Nd) (ha : a.length ≤ 1000) : ACalls E0 40 [.sl 2 (cels a), .v (.slice none 0 0)] [] fun r H' => r = .sl 2 (cels (mrg a [])) ∧ H' = [] :=
  by
    have h := rmerge_am a [] ha (by simp)
    unfold ACalls at h ⊢
    exact ⟨h.1, fun w M vs hG hv => h.2 w M vs hG (by
      unfold VRt VRt VRt at hv ⊢
      obtain ⟨u, r, h1, h2, u2, r2, h3, h4, h5⟩ := hv
      exact ⟨u, r, h1, h2, u2, r2, h3, Wk.nil 2 _ _ _ _ h4, h5⟩)⟩
end Go.Proofs.Ytjfoicebdjonfaa
