/- Law 24's jobs: their steps, by the machine. No condition. -/
import Derived.Test.YtjfoicebdjonfaaQJa
import Derived.Test.YtjfoicebdjonfaaQJm
import Derived.Test.YtjfoicebdjonfaaQTg
import Derived.Test.YtjfoicebdjonfaaQb2
import Derived.Test.YtjfoicebdjonfaaQgs
set_option linter.unusedSectionVars false
set_option linter.unusedVariables false
set_option linter.unusedSimpArgs false
set_option linter.deprecated false
namespace Go.Proofs.Ytjfoicebdjonfaa
open Go.RowKit Go.Cx Go.Am Go.Tsk
set_option maxRecDepth 8000
set_option maxHeartbeats 2000000
attribute [local irreducible] ACalls jcall jsame jex jexg jexh jguard jconv jload jpart jstore jbin jslice jidxA jidx jfield jfieldA jbuild jbuildS jmake jappend jlen jpick jres jcnd jcopy jcap jborn jdraw jops jop jstr jstrc jlive jend jlenM
attribute [local go_sem] reduceIte Nat.reduceEqDiff Nat.reduceAdd Nat.reduceMul Nat.reduceLT Nat.reduceLeDiff Nat.reduceSub Int.reduceLT Int.reduceLE Int.reduceToNat Int.reduceNeg Int.reduceAdd Int.reduceSub UInt8.reduceToNat Int.reduceEq reduceCtorEq Int.reducePow Int.reduceMul Nat.reducePow E0
attribute [local go_sem ↓] reduceIte
attribute [local go_sem high] chunks_bvs
attribute [local go_sem] bmap nbB gfB tgs_nil tgs_snoc tagC_eq rwb_nil rwc_nil rwc_len rwc_take rwc_snoc rwc_nbss rwc_amapss
attribute [local go_sem ←] List.map_take List.map_drop

def jobQ (q n m : Int) (L : List Nd) : List Stp :=
  if q = 0 then [(3, 0, false)] else if q = 1 then (unS (mrg (L.take 80) [])).1 else if q = 2 then (swS n).1 else if q = 3 then ahS ++ (bkS m).1 else if q = 4 then ahS ++ (bkS (-1)).1
  else if q = 5 then (ofS m false []).1 else if q = 6 then (ofS m true [(1, true), (2, true)]).1 else if q = 7 then (ofS m true []).1 else planS [(0, true)]
abbrev Jb := Int × Int × List Nd
def jobS (j : Jb) (n : Int) : List Stp := jobQ (j.1.tmod 9) n (3 + j.2.1.tmod n) j.2.2
def jbC (l : List Jb) : List (List AV) := l.map fun j => [.v (.int .u8 j.1), .v (.int .u8 j.2.1), .sl 2 (cels j.2.2)]
def jbOk (j : Jb) : Prop := (0 ≤ j.1 ∧ j.1 ≤ 255) ∧ 0 ≤ j.2.1 ∧ j.2.1 ≤ 255
theorem jbC_len (l : List Jb) : (jbC l).length = l.length := by simp [jbC]
theorem fH_bk (k : Int) (h : k = -1 ∨ shd k = true) : fH (ahS ++ (bkS k).1) [] = some [] := by
  unfold bkS
  split
  · rfl
  · next h0 =>
    have hk : shd k = true := by
      rcases h with h | h
      · omega
      · exact h
    rw [if_pos hk]
    have := of_decide_eq_true hk
    have e1 : ¬ k = 1 := by omega
    have e0 : ¬ k = 0 := by omega
    have e2 : ¬ k ≤ 1 := by omega
    have e3 : 0 ≤ k := by omega
    have e4 : k < 67 := by omega
    have e5 : ¬ (1 : Int) = k := by omega
    have e6 : ¬ (0 : Int) = k := by omega
    simp [fH, ahS, planS, lkS, stp, kn, gt, idl, e1, e0, e2, e3, e4, e5, e6]
theorem fH_job (q n m : Int) (L : List Nd) (hn : 1 ≤ n ∧ n ≤ 8) (hm : 3 ≤ m ∧ m < 3 + n) : fH (jobQ q n m L) [] = some [] := by
  have hk : shd m = true := decide_eq_true (by omega)
  unfold jobQ
  split
  · rfl
  split
  · unfold unS
    split
    · rfl
    · next h =>
      refine fH_plan ?_
      cases e : srt (mrg (L.take 80) [])
      · exact absurd (.inr e) h
      · rfl
  split
  · unfold swS
    rw [if_pos (by omega)]
    exact fH_sw _ (by omega)
  split
  · exact fH_bk m (.inr hk)
  split
  · exact fH_bk (-1) (.inl rfl)
  split
  · unfold ofS
    rw [if_pos hk]
    exact fH_plan (srt1 m false hk)
  split
  · unfold ofS
    rw [if_pos hk]
    exact fH_plan (srt3 m hk)
  split
  · unfold ofS
    rw [if_pos hk]
    exact fH_plan (srt1 m true hk)
  · exact fH_plan (by decide)
theorem planS_len (l : List Nd) : (planS l).length ≤ 2 * l.length + 1 := by
  simp [planS, lkS]
  omega
theorem bk_len (k : Int) : (ahS ++ (bkS k).1).length ≤ 200 := by
  unfold bkS
  split
  · decide
  · split
    · have := planS_len [(k, true)]
      simp only [List.length_append, List.length_cons, List.length_nil, ahS] at this ⊢
      omega
    · decide
theorem jobQ_len (q n m : Int) (L : List Nd) (hn : 1 ≤ n ∧ n ≤ 8) : (jobQ q n m L).length ≤ 200 := by
  unfold jobQ
  split
  · simp
  split
  · unfold unS
    split
    · simp
    · have h1 := planS_len (mrg (L.take 80) [])
      have h2 : (mrg (L.take 80) []).length ≤ 67 := mrgL_len _ _
      simp only
      omega
  split
  · unfold swS
    rw [if_pos (by omega)]
    simp only
    rw [swL_len]
    omega
  have hb : ∀ k, (ahS ++ (bkS k).1).length ≤ 200 := bk_len
  have ho : ∀ k w a, a.length ≤ 2 → (ofS k w a).1.length ≤ 200 := fun k w a ha => by
    unfold ofS
    split
    · have := planS_len (a ++ [(k, w)])
      simp only [List.length_append, List.length_cons, List.length_nil] at this ⊢
      omega
    · simp
  split
  · exact hb m
  split
  · exact hb (-1)
  split
  · exact ho _ _ _ (by simp)
  split
  · exact ho _ _ _ (by simp)
  split
  · exact ho _ _ _ (by simp)
  · decide
theorem steps_am (j : Jb) (n : Int) (hj : (0 ≤ j.1 ∧ j.1 < 256) ∧ 0 ≤ j.2.1 ∧ j.2.1 < 256) (hn : 1 ≤ n ∧ n ≤ 8) : ACalls E0 50 [.agg [.v (.int .u8 j.1), .v (.int .u8 j.2.1), .sl 2 (cels j.2.2)], .v (.int .i64 n)] [] fun r H' => r = .sl 3 (cels (jobS j n)) ∧ H' = [] := by
  obtain ⟨p, k, L⟩ := j
  simp only at hj ⊢
  unfold jobS
  simp only
  have t1 : (IntKind.i64.wrap k).tmod n = k.tmod n := by rw [IntWalk.i64_in _ ⟨by omega, by omega⟩]
  have b1 : k.tmod n = k % n := Int.tmod_eq_emod_of_nonneg hj.2.1
  have b2 := Int.emod_nonneg k (show n ≠ 0 by omega)
  have b3 := Int.emod_lt_of_pos k (show 0 < n by omega)
  rw [← b1] at b2 b3
  have c1 : p.tmod 9 = p % 9 := Int.tmod_eq_emod_of_nonneg hj.1.1
  have c2 := Int.emod_nonneg p (show (9 : Int) ≠ 0 by decide)
  have c3 := Int.emod_lt_of_pos p (show (0 : Int) < 9 by decide)
  rw [← c1] at c2 c3
  have n0 : ¬ n = 0 := by omega
  have n1 : ¬ n = -1 := by omega
  obtain ⟨m, em⟩ : ∃ m, k.tmod n = m := ⟨_, rfl⟩
  obtain ⟨q, eq⟩ : ∃ q, p.tmod 9 = q := ⟨_, rfl⟩
  rw [em] at b2 b3 ⊢
  rw [eq] at c2 c3 ⊢
  clear b1 c1
  have hc := cutN_am L
  have hr := rmergeN_am (L.take 80) (by simp; omega)
  have hu := under_am (mrg (L.take 80) []) (by have : (mrg (L.take 80) []).length ≤ 67 := mrgL_len _ _; omega)
  have hs := sweep_am n
  have hb := behind_am (3 + m)
  have hb1 := behind_am (-1)
  have h5 := read_am (3 + m)
  have h6 := heavy_am (3 + m)
  have h7 := light_am (3 + m)
  have h8 := gate_am
  have h0 := alone_hot
  have ha := ahead_am
  unfold jobQ
  have hq : q = 0 ∨ q = 1 ∨ q = 2 ∨ q = 3 ∨ q = 4 ∨ q = 5 ∨ q = 6 ∨ q = 7 ∨ q = 8 := by omega
  rcases hq with rfl | rfl | rfl | rfl | rfl | rfl | rfl | rfl | rfl
  · simp only [reduceIte]
    clear hc hr hu hs hb hb1 h5 h6 h7 h8 ha
    refine calls_q (calls_of Try.func50 rfl (by kernel_rfl) (by kernel_rfl) (by rw [Try.ntmps50]; exact Nat.le_of_ble_eq_true rfl) (fun hH0 hA0 => ?_)); rw [Try.results50]
    (repeat' (first | (have hs := Mk.out hs; (try simp only [decide_eq_true_eq, decide_eq_false_iff_not, Bool.not_eq_true, Bool.not_eq_false, Bool.not_true, Bool.not_false, Bool.not_eq_eq_eq_not, Bool.and_eq_true, Bool.or_eq_true, beq_iff_eq, bne_iff_ne, beq_eq_false_iff_ne, ne_eq, Classical.not_not, not_true_eq_false, not_false_eq_true, forall_const, Bool.false_eq_true, false_implies, eq_self] at hs); (try (exfalso; omega)); (try simp (disch := omega) only [go_sem, eq, em, n0, n1, hs])) | (refine z_seqr rfl ?_) | (refine w_seq rfl fun K hK => ?_) | (refine z_reg rfl ?_) | (refine z_cond rfl ?_) | (refine w_skip rfl ?_; ((repeat ((fail_if_success (refine hK _ _ (cl_id ?_))); clear hK)); refine hK _ _ (cl_id ?_); clear hK)) | (refine w_ret rfl ?_; (try dsimp only [anorm, ablock, astay]); refine z_end ?_) | (refine z_end0 ?_) | (refine w_block rfl ?_) | (refine w_scope rfl ?_) | (refine w_label rfl ?_; ((repeat ((fail_if_success (refine hK _ _ (cl_id ?_))); clear hK)); refine hK _ _ (cl_id ?_); clear hK)) | (refine w_exit rfl ?_; (try dsimp only [anorm, ablock, astay]); (try simp only [reduceIte, ↓reduceIte, Nat.reduceEqDiff]); ((repeat ((fail_if_success (refine hK _ _ (cl_id ?_))); clear hK)); refine hK _ _ (cl_id ?_); clear hK)) | (refine jend_go [(23, [4]), (6, [6]), (8, [6]), (10, [6]), (13, [6]), (12, [6, 7]), (16, [6]), (15, [6, 9]), (18, [6]), (20, [6]), (22, [6]), (4, [6]), (21, [5, 78]), (19, [5, 19, 71]), (17, [5, 19, 64]), (14, [5, 6, 19, 53]), (11, [5, 6, 19, 41]), (9, [1, 5, 6, 19, 34]), (7, [1, 2, 5, 6, 19, 24]), (5, [1, 2, 5, 6, 19, 21]), (3, [1, 2, 5, 6, 19]), (2, [1, 2, 5, 6]), (1, [1, 2, 5]), (0, [1, 2])] ?_; simp only [tabAt_cons, sel_nil, sel_cons, put_at, ofl_cons, ofl_nil, T0_at, List.getElem?_cons_zero, List.getElem?_cons_succ, List.getElem?_nil, Option.getD_some, Option.getD_none, reduceIte, ↓reduceIte, Nat.reduceEqDiff]; refine jl_go ?_) | simp (disch := omega) only [go_sem, eq, em, n0, n1] | (refine jc_t ?_) | (refine jc_f ?_) | (apply zc (h0) []; (case ok => simp (disch := omega) only [go_sem, cok, sgOk, bcl, eq, em, n0, n1])) | (refine And.intro (by (first | omega | (simp; done) | (simp; omega))) ?_) | (refine mc_b (fun hs => ?_) fun hs => ?_) | (refine mg_st (fun hs => ?_) fun hs => ?_) | (refine mg_sf (fun hs => ?_) fun hs => ?_) | (refine mall_s (fun hs => ?_) fun hs => ?_) | (refine malln_s (fun hs => ?_) fun hs => ?_) | (refine mpk_s (fun hs => ?_) fun hs => ?_) | ((repeat ((fail_if_success (refine hK _ _ (cl_id ?_))); clear hK)); refine hK _ _ (cl_id ?_); clear hK)))
    exact end_d 1 ⟨rfl, rfl⟩ ⟨by (simp (disch := omega) only [go_sem]), Wk.of (frzC (l := [((3 : Int), (0 : Int), false)]) (by simp) rfl rfl)⟩
  · simp only [reduceIte, Int.reduceEq]
    clear hs hb hb1 h5 h6 h7 h8 ha h0
    generalize unS (mrg (L.take 80) []) = z at *
    generalize mrg (L.take 80) [] = z2 at *
    refine calls_q (calls_of Try.func50 rfl (by kernel_rfl) (by kernel_rfl) (by rw [Try.ntmps50]; exact Nat.le_of_ble_eq_true rfl) (fun hH0 hA0 => ?_)); rw [Try.results50]
    (repeat' (first | (have hs := Mk.out hs; (try simp only [decide_eq_true_eq, decide_eq_false_iff_not, Bool.not_eq_true, Bool.not_eq_false, Bool.not_true, Bool.not_false, Bool.not_eq_eq_eq_not, Bool.and_eq_true, Bool.or_eq_true, beq_iff_eq, bne_iff_ne, beq_eq_false_iff_ne, ne_eq, Classical.not_not, not_true_eq_false, not_false_eq_true, forall_const, Bool.false_eq_true, false_implies, eq_self] at hs); (try (exfalso; omega)); (try simp (disch := omega) only [go_sem, eq, em, n0, n1, hs])) | (refine z_seqr rfl ?_) | (refine w_seq rfl fun K hK => ?_) | (refine z_reg rfl ?_) | (refine z_cond rfl ?_) | (refine w_skip rfl ?_; ((repeat ((fail_if_success (refine hK _ _ (cl_id ?_))); clear hK)); refine hK _ _ (cl_id ?_); clear hK)) | (refine w_ret rfl ?_; (try dsimp only [anorm, ablock, astay]); refine z_end ?_) | (refine z_end0 ?_) | (refine w_block rfl ?_) | (refine w_scope rfl ?_) | (refine w_label rfl ?_; ((repeat ((fail_if_success (refine hK _ _ (cl_id ?_))); clear hK)); refine hK _ _ (cl_id ?_); clear hK)) | (refine w_exit rfl ?_; (try dsimp only [anorm, ablock, astay]); (try simp only [reduceIte, ↓reduceIte, Nat.reduceEqDiff]); ((repeat ((fail_if_success (refine hK _ _ (cl_id ?_))); clear hK)); refine hK _ _ (cl_id ?_); clear hK)) | (refine jend_go [(23, [4]), (6, [6]), (8, [6]), (10, [6]), (13, [6]), (12, [6, 7]), (16, [6]), (15, [6, 9]), (18, [6]), (20, [6]), (22, [6]), (4, [6]), (21, [5, 78]), (19, [5, 19, 71]), (17, [5, 19, 64]), (14, [5, 6, 19, 53]), (11, [5, 6, 19, 41]), (9, [1, 5, 6, 19, 34]), (7, [1, 2, 5, 6, 19, 24]), (5, [1, 2, 5, 6, 19, 21]), (3, [1, 2, 5, 6, 19]), (2, [1, 2, 5, 6]), (1, [1, 2, 5]), (0, [1, 2])] ?_; simp only [tabAt_cons, sel_nil, sel_cons, put_at, ofl_cons, ofl_nil, T0_at, List.getElem?_cons_zero, List.getElem?_cons_succ, List.getElem?_nil, Option.getD_some, Option.getD_none, reduceIte, ↓reduceIte, Nat.reduceEqDiff]; refine jl_go ?_) | simp (disch := omega) only [go_sem, eq, em, n0, n1] | (refine jc_t ?_) | (refine jc_f ?_) | (apply zc (hc) []; (case ok => simp (disch := omega) only [go_sem, cok, sgOk, bcl, eq, em, n0, n1])) | (apply zc (hr) []; (case ok => simp (disch := omega) only [go_sem, cok, sgOk, bcl, eq, em, n0, n1])) | (apply zc (hu) []; (case ok => simp (disch := omega) only [go_sem, cok, sgOk, bcl, eq, em, n0, n1])) | (refine And.intro (by (first | omega | (simp; done) | (simp; omega))) ?_) | (refine mc_b (fun hs => ?_) fun hs => ?_) | (refine mg_st (fun hs => ?_) fun hs => ?_) | (refine mg_sf (fun hs => ?_) fun hs => ?_) | (refine mall_s (fun hs => ?_) fun hs => ?_) | (refine malln_s (fun hs => ?_) fun hs => ?_) | (refine mpk_s (fun hs => ?_) fun hs => ?_) | ((repeat ((fail_if_success (refine hK _ _ (cl_id ?_))); clear hK)); refine hK _ _ (cl_id ?_); clear hK)))
    exact end_d 0 ⟨rfl, rfl⟩ ⟨by (simp (disch := omega) only [go_sem]), by (simp (disch := omega) only [go_sem])⟩
  · simp only [reduceIte, Int.reduceEq]
    clear hc hr hu hb hb1 h5 h6 h7 h8 ha h0
    generalize swS n = z at *
    refine calls_q (calls_of Try.func50 rfl (by kernel_rfl) (by kernel_rfl) (by rw [Try.ntmps50]; exact Nat.le_of_ble_eq_true rfl) (fun hH0 hA0 => ?_)); rw [Try.results50]
    (repeat' (first | (have hs := Mk.out hs; (try simp only [decide_eq_true_eq, decide_eq_false_iff_not, Bool.not_eq_true, Bool.not_eq_false, Bool.not_true, Bool.not_false, Bool.not_eq_eq_eq_not, Bool.and_eq_true, Bool.or_eq_true, beq_iff_eq, bne_iff_ne, beq_eq_false_iff_ne, ne_eq, Classical.not_not, not_true_eq_false, not_false_eq_true, forall_const, Bool.false_eq_true, false_implies, eq_self] at hs); (try (exfalso; omega)); (try simp (disch := omega) only [go_sem, eq, em, n0, n1, hs])) | (refine z_seqr rfl ?_) | (refine w_seq rfl fun K hK => ?_) | (refine z_reg rfl ?_) | (refine z_cond rfl ?_) | (refine w_skip rfl ?_; ((repeat ((fail_if_success (refine hK _ _ (cl_id ?_))); clear hK)); refine hK _ _ (cl_id ?_); clear hK)) | (refine w_ret rfl ?_; (try dsimp only [anorm, ablock, astay]); refine z_end ?_) | (refine z_end0 ?_) | (refine w_block rfl ?_) | (refine w_scope rfl ?_) | (refine w_label rfl ?_; ((repeat ((fail_if_success (refine hK _ _ (cl_id ?_))); clear hK)); refine hK _ _ (cl_id ?_); clear hK)) | (refine w_exit rfl ?_; (try dsimp only [anorm, ablock, astay]); (try simp only [reduceIte, ↓reduceIte, Nat.reduceEqDiff]); ((repeat ((fail_if_success (refine hK _ _ (cl_id ?_))); clear hK)); refine hK _ _ (cl_id ?_); clear hK)) | (refine jend_go [(23, [4]), (6, [6]), (8, [6]), (10, [6]), (13, [6]), (12, [6, 7]), (16, [6]), (15, [6, 9]), (18, [6]), (20, [6]), (22, [6]), (4, [6]), (21, [5, 78]), (19, [5, 19, 71]), (17, [5, 19, 64]), (14, [5, 6, 19, 53]), (11, [5, 6, 19, 41]), (9, [1, 5, 6, 19, 34]), (7, [1, 2, 5, 6, 19, 24]), (5, [1, 2, 5, 6, 19, 21]), (3, [1, 2, 5, 6, 19]), (2, [1, 2, 5, 6]), (1, [1, 2, 5]), (0, [1, 2])] ?_; simp only [tabAt_cons, sel_nil, sel_cons, put_at, ofl_cons, ofl_nil, T0_at, List.getElem?_cons_zero, List.getElem?_cons_succ, List.getElem?_nil, Option.getD_some, Option.getD_none, reduceIte, ↓reduceIte, Nat.reduceEqDiff]; refine jl_go ?_) | simp (disch := omega) only [go_sem, eq, em, n0, n1] | (refine jc_t ?_) | (refine jc_f ?_) | (apply zc (hs) []; (case ok => simp (disch := omega) only [go_sem, cok, sgOk, bcl, eq, em, n0, n1])) | (refine And.intro (by (first | omega | (simp; done) | (simp; omega))) ?_) | (refine mc_b (fun hs => ?_) fun hs => ?_) | (refine mg_st (fun hs => ?_) fun hs => ?_) | (refine mg_sf (fun hs => ?_) fun hs => ?_) | (refine mall_s (fun hs => ?_) fun hs => ?_) | (refine malln_s (fun hs => ?_) fun hs => ?_) | (refine mpk_s (fun hs => ?_) fun hs => ?_) | ((repeat ((fail_if_success (refine hK _ _ (cl_id ?_))); clear hK)); refine hK _ _ (cl_id ?_); clear hK)))
    exact end_d 0 ⟨rfl, rfl⟩ ⟨by (simp (disch := omega) only [go_sem]), by (simp (disch := omega) only [go_sem])⟩
  · simp only [reduceIte, Int.reduceEq]
    clear hc hr hu hs hb1 h5 h6 h7 h8 h0
    have lz := bk_len (3 + m)
    have la : ahS.length = 3 := rfl
    generalize bkS (3 + m) = z at *
    rw [List.length_append] at lz
    refine calls_q (calls_of Try.func50 rfl (by kernel_rfl) (by kernel_rfl) (by rw [Try.ntmps50]; exact Nat.le_of_ble_eq_true rfl) (fun hH0 hA0 => ?_)); rw [Try.results50]
    have l1 : ahS.length ≤ 68719476736 := by omega
    have l2 : ahS.length + z.1.length ≤ 68719476736 := by omega
    generalize ahS = A at *
    (repeat' (first | (have hs := Mk.out hs; (try simp only [decide_eq_true_eq, decide_eq_false_iff_not, Bool.not_eq_true, Bool.not_eq_false, Bool.not_true, Bool.not_false, Bool.not_eq_eq_eq_not, Bool.and_eq_true, Bool.or_eq_true, beq_iff_eq, bne_iff_ne, beq_eq_false_iff_ne, ne_eq, Classical.not_not, not_true_eq_false, not_false_eq_true, forall_const, Bool.false_eq_true, false_implies, eq_self] at hs); (try (exfalso; omega)); (try simp (disch := omega) only [go_sem, eq, em, n0, n1, l1, l2, hs])) | (refine z_seqr rfl ?_) | (refine w_seq rfl fun K hK => ?_) | (refine z_reg rfl ?_) | (refine z_cond rfl ?_) | (refine w_skip rfl ?_; ((repeat ((fail_if_success (refine hK _ _ (cl_id ?_))); clear hK)); refine hK _ _ (cl_id ?_); clear hK)) | (refine w_ret rfl ?_; (try dsimp only [anorm, ablock, astay]); refine z_end ?_) | (refine z_end0 ?_) | (refine w_block rfl ?_) | (refine w_scope rfl ?_) | (refine w_label rfl ?_; ((repeat ((fail_if_success (refine hK _ _ (cl_id ?_))); clear hK)); refine hK _ _ (cl_id ?_); clear hK)) | (refine w_exit rfl ?_; (try dsimp only [anorm, ablock, astay]); (try simp only [reduceIte, ↓reduceIte, Nat.reduceEqDiff]); ((repeat ((fail_if_success (refine hK _ _ (cl_id ?_))); clear hK)); refine hK _ _ (cl_id ?_); clear hK)) | (refine jend_go [(23, [4]), (6, [6]), (8, [6]), (10, [6]), (13, [6]), (12, [6, 7]), (16, [6]), (15, [6, 9]), (18, [6]), (20, [6]), (22, [6]), (4, [6]), (21, [5, 78]), (19, [5, 19, 71]), (17, [5, 19, 64]), (14, [5, 6, 19, 53]), (11, [5, 6, 19, 41]), (9, [1, 5, 6, 19, 34]), (7, [1, 2, 5, 6, 19, 24]), (5, [1, 2, 5, 6, 19, 21]), (3, [1, 2, 5, 6, 19]), (2, [1, 2, 5, 6]), (1, [1, 2, 5]), (0, [1, 2])] ?_; simp only [tabAt_cons, sel_nil, sel_cons, put_at, ofl_cons, ofl_nil, T0_at, List.getElem?_cons_zero, List.getElem?_cons_succ, List.getElem?_nil, Option.getD_some, Option.getD_none, reduceIte, ↓reduceIte, Nat.reduceEqDiff]; refine jl_go ?_) | simp (disch := omega) only [go_sem, eq, em, n0, n1, l1, l2] | (refine jc_t ?_) | (refine jc_f ?_) | (apply zc (hb) []; (case ok => simp (disch := omega) only [go_sem, cok, sgOk, bcl, eq, em, n0, n1, l1, l2])) | (apply zc (ha) []; (case ok => simp (disch := omega) only [go_sem, cok, sgOk, bcl, eq, em, n0, n1, l1, l2])) | (refine And.intro (by (first | omega | (simp; done) | (simp; omega))) ?_) | (refine mc_b (fun hs => ?_) fun hs => ?_) | (refine mg_st (fun hs => ?_) fun hs => ?_) | (refine mg_sf (fun hs => ?_) fun hs => ?_) | (refine mall_s (fun hs => ?_) fun hs => ?_) | (refine malln_s (fun hs => ?_) fun hs => ?_) | (refine mpk_s (fun hs => ?_) fun hs => ?_) | ((repeat ((fail_if_success (refine hK _ _ (cl_id ?_))); clear hK)); refine hK _ _ (cl_id ?_); clear hK)))
    exact end_d 1 ⟨rfl, rfl⟩ ⟨by (simp (disch := omega) only [go_sem]), Wk.of (frzC (by simp) rfl (by simp))⟩
  · simp only [reduceIte, Int.reduceEq]
    clear hc hr hu hs hb h5 h6 h7 h8 h0
    have lz := bk_len (-1)
    have la : ahS.length = 3 := rfl
    generalize bkS (-1) = z at *
    rw [List.length_append] at lz
    refine calls_q (calls_of Try.func50 rfl (by kernel_rfl) (by kernel_rfl) (by rw [Try.ntmps50]; exact Nat.le_of_ble_eq_true rfl) (fun hH0 hA0 => ?_)); rw [Try.results50]
    have l1 : ahS.length ≤ 68719476736 := by omega
    have l2 : ahS.length + z.1.length ≤ 68719476736 := by omega
    generalize ahS = A at *
    (repeat' (first | (have hs := Mk.out hs; (try simp only [decide_eq_true_eq, decide_eq_false_iff_not, Bool.not_eq_true, Bool.not_eq_false, Bool.not_true, Bool.not_false, Bool.not_eq_eq_eq_not, Bool.and_eq_true, Bool.or_eq_true, beq_iff_eq, bne_iff_ne, beq_eq_false_iff_ne, ne_eq, Classical.not_not, not_true_eq_false, not_false_eq_true, forall_const, Bool.false_eq_true, false_implies, eq_self] at hs); (try (exfalso; omega)); (try simp (disch := omega) only [go_sem, eq, em, n0, n1, l1, l2, hs])) | (refine z_seqr rfl ?_) | (refine w_seq rfl fun K hK => ?_) | (refine z_reg rfl ?_) | (refine z_cond rfl ?_) | (refine w_skip rfl ?_; ((repeat ((fail_if_success (refine hK _ _ (cl_id ?_))); clear hK)); refine hK _ _ (cl_id ?_); clear hK)) | (refine w_ret rfl ?_; (try dsimp only [anorm, ablock, astay]); refine z_end ?_) | (refine z_end0 ?_) | (refine w_block rfl ?_) | (refine w_scope rfl ?_) | (refine w_label rfl ?_; ((repeat ((fail_if_success (refine hK _ _ (cl_id ?_))); clear hK)); refine hK _ _ (cl_id ?_); clear hK)) | (refine w_exit rfl ?_; (try dsimp only [anorm, ablock, astay]); (try simp only [reduceIte, ↓reduceIte, Nat.reduceEqDiff]); ((repeat ((fail_if_success (refine hK _ _ (cl_id ?_))); clear hK)); refine hK _ _ (cl_id ?_); clear hK)) | (refine jend_go [(23, [4]), (6, [6]), (8, [6]), (10, [6]), (13, [6]), (12, [6, 7]), (16, [6]), (15, [6, 9]), (18, [6]), (20, [6]), (22, [6]), (4, [6]), (21, [5, 78]), (19, [5, 19, 71]), (17, [5, 19, 64]), (14, [5, 6, 19, 53]), (11, [5, 6, 19, 41]), (9, [1, 5, 6, 19, 34]), (7, [1, 2, 5, 6, 19, 24]), (5, [1, 2, 5, 6, 19, 21]), (3, [1, 2, 5, 6, 19]), (2, [1, 2, 5, 6]), (1, [1, 2, 5]), (0, [1, 2])] ?_; simp only [tabAt_cons, sel_nil, sel_cons, put_at, ofl_cons, ofl_nil, T0_at, List.getElem?_cons_zero, List.getElem?_cons_succ, List.getElem?_nil, Option.getD_some, Option.getD_none, reduceIte, ↓reduceIte, Nat.reduceEqDiff]; refine jl_go ?_) | simp (disch := omega) only [go_sem, eq, em, n0, n1, l1, l2] | (refine jc_t ?_) | (refine jc_f ?_) | (apply zc (hb1) []; (case ok => simp (disch := omega) only [go_sem, cok, sgOk, bcl, eq, em, n0, n1, l1, l2])) | (apply zc (ha) []; (case ok => simp (disch := omega) only [go_sem, cok, sgOk, bcl, eq, em, n0, n1, l1, l2])) | (refine And.intro (by (first | omega | (simp; done) | (simp; omega))) ?_) | (refine mc_b (fun hs => ?_) fun hs => ?_) | (refine mg_st (fun hs => ?_) fun hs => ?_) | (refine mg_sf (fun hs => ?_) fun hs => ?_) | (refine mall_s (fun hs => ?_) fun hs => ?_) | (refine malln_s (fun hs => ?_) fun hs => ?_) | (refine mpk_s (fun hs => ?_) fun hs => ?_) | ((repeat ((fail_if_success (refine hK _ _ (cl_id ?_))); clear hK)); refine hK _ _ (cl_id ?_); clear hK)))
    exact end_d 1 ⟨rfl, rfl⟩ ⟨by (simp (disch := omega) only [go_sem]), Wk.of (frzC (by simp) rfl (by simp))⟩
  · simp only [reduceIte, Int.reduceEq]
    clear hc hr hu hs hb hb1 h6 h7 h8 ha h0
    generalize ofS (3 + m) false [] = z at *
    refine calls_q (calls_of Try.func50 rfl (by kernel_rfl) (by kernel_rfl) (by rw [Try.ntmps50]; exact Nat.le_of_ble_eq_true rfl) (fun hH0 hA0 => ?_)); rw [Try.results50]
    (repeat' (first | (have hs := Mk.out hs; (try simp only [decide_eq_true_eq, decide_eq_false_iff_not, Bool.not_eq_true, Bool.not_eq_false, Bool.not_true, Bool.not_false, Bool.not_eq_eq_eq_not, Bool.and_eq_true, Bool.or_eq_true, beq_iff_eq, bne_iff_ne, beq_eq_false_iff_ne, ne_eq, Classical.not_not, not_true_eq_false, not_false_eq_true, forall_const, Bool.false_eq_true, false_implies, eq_self] at hs); (try (exfalso; omega)); (try simp (disch := omega) only [go_sem, eq, em, n0, n1, hs])) | (refine z_seqr rfl ?_) | (refine w_seq rfl fun K hK => ?_) | (refine z_reg rfl ?_) | (refine z_cond rfl ?_) | (refine w_skip rfl ?_; ((repeat ((fail_if_success (refine hK _ _ (cl_id ?_))); clear hK)); refine hK _ _ (cl_id ?_); clear hK)) | (refine w_ret rfl ?_; (try dsimp only [anorm, ablock, astay]); refine z_end ?_) | (refine z_end0 ?_) | (refine w_block rfl ?_) | (refine w_scope rfl ?_) | (refine w_label rfl ?_; ((repeat ((fail_if_success (refine hK _ _ (cl_id ?_))); clear hK)); refine hK _ _ (cl_id ?_); clear hK)) | (refine w_exit rfl ?_; (try dsimp only [anorm, ablock, astay]); (try simp only [reduceIte, ↓reduceIte, Nat.reduceEqDiff]); ((repeat ((fail_if_success (refine hK _ _ (cl_id ?_))); clear hK)); refine hK _ _ (cl_id ?_); clear hK)) | (refine jend_go [(23, [4]), (6, [6]), (8, [6]), (10, [6]), (13, [6]), (12, [6, 7]), (16, [6]), (15, [6, 9]), (18, [6]), (20, [6]), (22, [6]), (4, [6]), (21, [5, 78]), (19, [5, 19, 71]), (17, [5, 19, 64]), (14, [5, 6, 19, 53]), (11, [5, 6, 19, 41]), (9, [1, 5, 6, 19, 34]), (7, [1, 2, 5, 6, 19, 24]), (5, [1, 2, 5, 6, 19, 21]), (3, [1, 2, 5, 6, 19]), (2, [1, 2, 5, 6]), (1, [1, 2, 5]), (0, [1, 2])] ?_; simp only [tabAt_cons, sel_nil, sel_cons, put_at, ofl_cons, ofl_nil, T0_at, List.getElem?_cons_zero, List.getElem?_cons_succ, List.getElem?_nil, Option.getD_some, Option.getD_none, reduceIte, ↓reduceIte, Nat.reduceEqDiff]; refine jl_go ?_) | simp (disch := omega) only [go_sem, eq, em, n0, n1] | (refine jc_t ?_) | (refine jc_f ?_) | (apply zc (h5) []; (case ok => simp (disch := omega) only [go_sem, cok, sgOk, bcl, eq, em, n0, n1])) | (refine And.intro (by (first | omega | (simp; done) | (simp; omega))) ?_) | (refine mc_b (fun hs => ?_) fun hs => ?_) | (refine mg_st (fun hs => ?_) fun hs => ?_) | (refine mg_sf (fun hs => ?_) fun hs => ?_) | (refine mall_s (fun hs => ?_) fun hs => ?_) | (refine malln_s (fun hs => ?_) fun hs => ?_) | (refine mpk_s (fun hs => ?_) fun hs => ?_) | ((repeat ((fail_if_success (refine hK _ _ (cl_id ?_))); clear hK)); refine hK _ _ (cl_id ?_); clear hK)))
    exact end_d 0 ⟨rfl, rfl⟩ ⟨by (simp (disch := omega) only [go_sem]), by (simp (disch := omega) only [go_sem])⟩
  · simp only [reduceIte, Int.reduceEq]
    clear hc hr hu hs hb hb1 h5 h7 h8 ha h0
    generalize ofS (3 + m) true [(1, true), (2, true)] = z at *
    refine calls_q (calls_of Try.func50 rfl (by kernel_rfl) (by kernel_rfl) (by rw [Try.ntmps50]; exact Nat.le_of_ble_eq_true rfl) (fun hH0 hA0 => ?_)); rw [Try.results50]
    (repeat' (first | (have hs := Mk.out hs; (try simp only [decide_eq_true_eq, decide_eq_false_iff_not, Bool.not_eq_true, Bool.not_eq_false, Bool.not_true, Bool.not_false, Bool.not_eq_eq_eq_not, Bool.and_eq_true, Bool.or_eq_true, beq_iff_eq, bne_iff_ne, beq_eq_false_iff_ne, ne_eq, Classical.not_not, not_true_eq_false, not_false_eq_true, forall_const, Bool.false_eq_true, false_implies, eq_self] at hs); (try (exfalso; omega)); (try simp (disch := omega) only [go_sem, eq, em, n0, n1, hs])) | (refine z_seqr rfl ?_) | (refine w_seq rfl fun K hK => ?_) | (refine z_reg rfl ?_) | (refine z_cond rfl ?_) | (refine w_skip rfl ?_; ((repeat ((fail_if_success (refine hK _ _ (cl_id ?_))); clear hK)); refine hK _ _ (cl_id ?_); clear hK)) | (refine w_ret rfl ?_; (try dsimp only [anorm, ablock, astay]); refine z_end ?_) | (refine z_end0 ?_) | (refine w_block rfl ?_) | (refine w_scope rfl ?_) | (refine w_label rfl ?_; ((repeat ((fail_if_success (refine hK _ _ (cl_id ?_))); clear hK)); refine hK _ _ (cl_id ?_); clear hK)) | (refine w_exit rfl ?_; (try dsimp only [anorm, ablock, astay]); (try simp only [reduceIte, ↓reduceIte, Nat.reduceEqDiff]); ((repeat ((fail_if_success (refine hK _ _ (cl_id ?_))); clear hK)); refine hK _ _ (cl_id ?_); clear hK)) | (refine jend_go [(23, [4]), (6, [6]), (8, [6]), (10, [6]), (13, [6]), (12, [6, 7]), (16, [6]), (15, [6, 9]), (18, [6]), (20, [6]), (22, [6]), (4, [6]), (21, [5, 78]), (19, [5, 19, 71]), (17, [5, 19, 64]), (14, [5, 6, 19, 53]), (11, [5, 6, 19, 41]), (9, [1, 5, 6, 19, 34]), (7, [1, 2, 5, 6, 19, 24]), (5, [1, 2, 5, 6, 19, 21]), (3, [1, 2, 5, 6, 19]), (2, [1, 2, 5, 6]), (1, [1, 2, 5]), (0, [1, 2])] ?_; simp only [tabAt_cons, sel_nil, sel_cons, put_at, ofl_cons, ofl_nil, T0_at, List.getElem?_cons_zero, List.getElem?_cons_succ, List.getElem?_nil, Option.getD_some, Option.getD_none, reduceIte, ↓reduceIte, Nat.reduceEqDiff]; refine jl_go ?_) | simp (disch := omega) only [go_sem, eq, em, n0, n1] | (refine jc_t ?_) | (refine jc_f ?_) | (apply zc (h6) []; (case ok => simp (disch := omega) only [go_sem, cok, sgOk, bcl, eq, em, n0, n1])) | (refine And.intro (by (first | omega | (simp; done) | (simp; omega))) ?_) | (refine mc_b (fun hs => ?_) fun hs => ?_) | (refine mg_st (fun hs => ?_) fun hs => ?_) | (refine mg_sf (fun hs => ?_) fun hs => ?_) | (refine mall_s (fun hs => ?_) fun hs => ?_) | (refine malln_s (fun hs => ?_) fun hs => ?_) | (refine mpk_s (fun hs => ?_) fun hs => ?_) | ((repeat ((fail_if_success (refine hK _ _ (cl_id ?_))); clear hK)); refine hK _ _ (cl_id ?_); clear hK)))
    exact end_d 0 ⟨rfl, rfl⟩ ⟨by (simp (disch := omega) only [go_sem]), by (simp (disch := omega) only [go_sem])⟩
  · simp only [reduceIte, Int.reduceEq]
    clear hc hr hu hs hb hb1 h5 h6 h8 ha h0
    generalize ofS (3 + m) true [] = z at *
    refine calls_q (calls_of Try.func50 rfl (by kernel_rfl) (by kernel_rfl) (by rw [Try.ntmps50]; exact Nat.le_of_ble_eq_true rfl) (fun hH0 hA0 => ?_)); rw [Try.results50]
    (repeat' (first | (have hs := Mk.out hs; (try simp only [decide_eq_true_eq, decide_eq_false_iff_not, Bool.not_eq_true, Bool.not_eq_false, Bool.not_true, Bool.not_false, Bool.not_eq_eq_eq_not, Bool.and_eq_true, Bool.or_eq_true, beq_iff_eq, bne_iff_ne, beq_eq_false_iff_ne, ne_eq, Classical.not_not, not_true_eq_false, not_false_eq_true, forall_const, Bool.false_eq_true, false_implies, eq_self] at hs); (try (exfalso; omega)); (try simp (disch := omega) only [go_sem, eq, em, n0, n1, hs])) | (refine z_seqr rfl ?_) | (refine w_seq rfl fun K hK => ?_) | (refine z_reg rfl ?_) | (refine z_cond rfl ?_) | (refine w_skip rfl ?_; ((repeat ((fail_if_success (refine hK _ _ (cl_id ?_))); clear hK)); refine hK _ _ (cl_id ?_); clear hK)) | (refine w_ret rfl ?_; (try dsimp only [anorm, ablock, astay]); refine z_end ?_) | (refine z_end0 ?_) | (refine w_block rfl ?_) | (refine w_scope rfl ?_) | (refine w_label rfl ?_; ((repeat ((fail_if_success (refine hK _ _ (cl_id ?_))); clear hK)); refine hK _ _ (cl_id ?_); clear hK)) | (refine w_exit rfl ?_; (try dsimp only [anorm, ablock, astay]); (try simp only [reduceIte, ↓reduceIte, Nat.reduceEqDiff]); ((repeat ((fail_if_success (refine hK _ _ (cl_id ?_))); clear hK)); refine hK _ _ (cl_id ?_); clear hK)) | (refine jend_go [(23, [4]), (6, [6]), (8, [6]), (10, [6]), (13, [6]), (12, [6, 7]), (16, [6]), (15, [6, 9]), (18, [6]), (20, [6]), (22, [6]), (4, [6]), (21, [5, 78]), (19, [5, 19, 71]), (17, [5, 19, 64]), (14, [5, 6, 19, 53]), (11, [5, 6, 19, 41]), (9, [1, 5, 6, 19, 34]), (7, [1, 2, 5, 6, 19, 24]), (5, [1, 2, 5, 6, 19, 21]), (3, [1, 2, 5, 6, 19]), (2, [1, 2, 5, 6]), (1, [1, 2, 5]), (0, [1, 2])] ?_; simp only [tabAt_cons, sel_nil, sel_cons, put_at, ofl_cons, ofl_nil, T0_at, List.getElem?_cons_zero, List.getElem?_cons_succ, List.getElem?_nil, Option.getD_some, Option.getD_none, reduceIte, ↓reduceIte, Nat.reduceEqDiff]; refine jl_go ?_) | simp (disch := omega) only [go_sem, eq, em, n0, n1] | (refine jc_t ?_) | (refine jc_f ?_) | (apply zc (h7) []; (case ok => simp (disch := omega) only [go_sem, cok, sgOk, bcl, eq, em, n0, n1])) | (refine And.intro (by (first | omega | (simp; done) | (simp; omega))) ?_) | (refine mc_b (fun hs => ?_) fun hs => ?_) | (refine mg_st (fun hs => ?_) fun hs => ?_) | (refine mg_sf (fun hs => ?_) fun hs => ?_) | (refine mall_s (fun hs => ?_) fun hs => ?_) | (refine malln_s (fun hs => ?_) fun hs => ?_) | (refine mpk_s (fun hs => ?_) fun hs => ?_) | ((repeat ((fail_if_success (refine hK _ _ (cl_id ?_))); clear hK)); refine hK _ _ (cl_id ?_); clear hK)))
    exact end_d 0 ⟨rfl, rfl⟩ ⟨by (simp (disch := omega) only [go_sem]), by (simp (disch := omega) only [go_sem])⟩
  · simp only [reduceIte, Int.reduceEq]
    clear hc hr hu hs hb hb1 h5 h6 h7 ha h0
    generalize planS [((0 : Int), true)] = z at *
    refine calls_q (calls_of Try.func50 rfl (by kernel_rfl) (by kernel_rfl) (by rw [Try.ntmps50]; exact Nat.le_of_ble_eq_true rfl) (fun hH0 hA0 => ?_)); rw [Try.results50]
    (repeat' (first | (have hs := Mk.out hs; (try simp only [decide_eq_true_eq, decide_eq_false_iff_not, Bool.not_eq_true, Bool.not_eq_false, Bool.not_true, Bool.not_false, Bool.not_eq_eq_eq_not, Bool.and_eq_true, Bool.or_eq_true, beq_iff_eq, bne_iff_ne, beq_eq_false_iff_ne, ne_eq, Classical.not_not, not_true_eq_false, not_false_eq_true, forall_const, Bool.false_eq_true, false_implies, eq_self] at hs); (try (exfalso; omega)); (try simp (disch := omega) only [go_sem, eq, em, n0, n1, hs])) | (refine z_seqr rfl ?_) | (refine w_seq rfl fun K hK => ?_) | (refine z_reg rfl ?_) | (refine z_cond rfl ?_) | (refine w_skip rfl ?_; ((repeat ((fail_if_success (refine hK _ _ (cl_id ?_))); clear hK)); refine hK _ _ (cl_id ?_); clear hK)) | (refine w_ret rfl ?_; (try dsimp only [anorm, ablock, astay]); refine z_end ?_) | (refine z_end0 ?_) | (refine w_block rfl ?_) | (refine w_scope rfl ?_) | (refine w_label rfl ?_; ((repeat ((fail_if_success (refine hK _ _ (cl_id ?_))); clear hK)); refine hK _ _ (cl_id ?_); clear hK)) | (refine w_exit rfl ?_; (try dsimp only [anorm, ablock, astay]); (try simp only [reduceIte, ↓reduceIte, Nat.reduceEqDiff]); ((repeat ((fail_if_success (refine hK _ _ (cl_id ?_))); clear hK)); refine hK _ _ (cl_id ?_); clear hK)) | (refine jend_go [(23, [4]), (6, [6]), (8, [6]), (10, [6]), (13, [6]), (12, [6, 7]), (16, [6]), (15, [6, 9]), (18, [6]), (20, [6]), (22, [6]), (4, [6]), (21, [5, 78]), (19, [5, 19, 71]), (17, [5, 19, 64]), (14, [5, 6, 19, 53]), (11, [5, 6, 19, 41]), (9, [1, 5, 6, 19, 34]), (7, [1, 2, 5, 6, 19, 24]), (5, [1, 2, 5, 6, 19, 21]), (3, [1, 2, 5, 6, 19]), (2, [1, 2, 5, 6]), (1, [1, 2, 5]), (0, [1, 2])] ?_; simp only [tabAt_cons, sel_nil, sel_cons, put_at, ofl_cons, ofl_nil, T0_at, List.getElem?_cons_zero, List.getElem?_cons_succ, List.getElem?_nil, Option.getD_some, Option.getD_none, reduceIte, ↓reduceIte, Nat.reduceEqDiff]; refine jl_go ?_) | simp (disch := omega) only [go_sem, eq, em, n0, n1] | (refine jc_t ?_) | (refine jc_f ?_) | (apply zc (h8) []; (case ok => simp (disch := omega) only [go_sem, cok, sgOk, bcl, eq, em, n0, n1])) | (refine And.intro (by (first | omega | (simp; done) | (simp; omega))) ?_) | (refine mc_b (fun hs => ?_) fun hs => ?_) | (refine mg_st (fun hs => ?_) fun hs => ?_) | (refine mg_sf (fun hs => ?_) fun hs => ?_) | (refine mall_s (fun hs => ?_) fun hs => ?_) | (refine malln_s (fun hs => ?_) fun hs => ?_) | (refine mpk_s (fun hs => ?_) fun hs => ?_) | ((repeat ((fail_if_success (refine hK _ _ (cl_id ?_))); clear hK)); refine hK _ _ (cl_id ?_); clear hK)))
    exact end_d 0 ⟨rfl, rfl⟩ ⟨by (simp (disch := omega) only [go_sem]), by (simp (disch := omega) only [go_sem])⟩
end Go.Proofs.Ytjfoicebdjonfaa
