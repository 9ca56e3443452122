/- The reference locks: a task holds, asks, gives back, by the machine. No condition but bounds of lengths. -/
import Derived.Test.YtckppkimjiifpaaQNa
import Derived.Test.YtckppkimjiifpaaQb1
import Derived.Test.YtckppkimjiifpaaQgs
set_option linter.unusedSectionVars false
set_option linter.unusedVariables false
set_option linter.unusedSimpArgs false
set_option linter.deprecated false
namespace Go.Proofs.Ytckppkimjiifpaa
open Go.RowKit Go.Cx Go.Am
set_option maxRecDepth 8000
set_option maxHeartbeats 2000000
attribute [local irreducible] ACalls jcall jsame jex jexg jexh jguard jconv jload jpart jstore jbin jslice jidxA jidx jfield jfieldA jbuild jbuildS jmake jappend jlen jpick jres jcnd jcopy jcap jborn jdraw jops jop jstr jstrc jlive jend jlenM jmmake jlook jmput jmdel jrange jnext jentry jlk jmp2 jmd2 jlm jrg jnx jny jen jeo
attribute [local go_sem] reduceIte Nat.reduceEqDiff Nat.reduceAdd Nat.reduceMul Nat.reduceLT Nat.reduceLeDiff Nat.reduceSub Int.reduceLT Int.reduceLE Int.reduceToNat Int.reduceNeg Int.reduceAdd Int.reduceSub UInt8.reduceToNat Int.reduceEq reduceCtorEq Int.reducePow Int.reduceMul Nat.reducePow E0
attribute [local go_sem ↓] reduceIte
attribute [local go_sem high] chunks_bvs
attribute [local go_sem] tgs_nil tgs_snoc tagC_eq rwb_nil jop_makeMap jop_lookup jop_mapUpdate jop_delete jop_range jop_next jop_entry jmmake_m jlook_m jlk_mI jmput_m jmp2_mI jmdel_m jmd2_mB jlenM_m jlm_mB jrange_m jnext_m jnx_m jentry_m jen_m jeo_mS nbB_mI nbB_mSI bmap_mI bmap_mSI mB_nil vI nbB_o nbB_r nbB_i bmap_o bmap_r bmap_i gfB_o gfB_r gfB_i cl1_iiib
attribute [local go_sem ←] List.map_take List.map_drop

/-- Is x ahead of y: by tasks, then locks? -/
def ahd (x y : One) : Bool := decide (x.1 < y.1) || (decide (x.1 = y.1) && decide (x.2.1 < y.2.1))
def kpos (h : List One) (y : One) : Nat := (h.takeWhile fun x => ahd x y).length
def insF (h : List One) (y : One) : List One := h.take (kpos h y) ++ [y] ++ h.drop (kpos h y)
theorem kpos_le (h : List One) (y : One) : kpos h y ≤ h.length := by
  unfold kpos
  exact (List.takeWhile_sublist _).length_le
theorem kpos_yes {h : List One} {y : One} : ∀ {i : Nat}, i < kpos h y → ahd (gt h i) y = true := by
  induction h with
  | nil => intro i hi; simp [kpos] at hi
  | cons a l ih =>
    intro i hi
    unfold kpos at hi
    rw [List.takeWhile_cons] at hi
    split at hi
    · next e =>
      cases i with
      | zero => exact e
      | succ i => exact ih (by simpa [kpos] using hi)
    · simp at hi
theorem kpos_no {h : List One} {y : One} (hi : kpos h y < h.length) : ahd (gt h (kpos h y)) y = false := by
  induction h with
  | nil => simp at hi
  | cons a l ih =>
    unfold kpos at hi ⊢
    rw [List.takeWhile_cons] at hi ⊢
    split at hi
    · next e =>
      rw [if_pos e]
      exact ih (by simpa [kpos] using hi)
    · next e =>
      rw [if_neg e]
      simpa [gt] using e
theorem fhold_am (n : Int) (h r : List One) (y : One) (hl : h.length ≤ 100000) : ACalls E0 49 [.ptr 0 0, .agg [.v (.int .i64 y.1), .v (.int .i64 y.2.1), .v (.bool y.2.2)]] [some (.obj [.v (.int .i64 n), .sl 3 (cels h), .sl 3 (cels r)])] fun x H' => x = .tup [] ∧ H' = [some (.obj [.v (.int .i64 n), .sl 3 (cels (insF h y)), .sl 3 (cels r)])] := by
  have hk := kpos_le h y
  have hy := @kpos_yes h y
  have hn := @kpos_no h y
  unfold insF
  generalize kpos h y = m at *
  obtain ⟨y1, y2, y3⟩ := y
  simp only
  refine calls_q (calls_of Try.func49 rfl (by kernel_rfl) (by kernel_rfl) (by rw [Try.ntmps49]; exact Nat.le_of_ble_eq_true rfl) (fun hH0 hA0 => ?_)); rw [Try.results49]
  (repeat' (first | (have hs := Mk.out hs; (try simp only [decide_eq_true_eq, decide_eq_false_iff_not, Bool.not_eq_true, Bool.not_eq_false, Bool.not_true, Bool.not_false, Bool.not_eq_eq_eq_not, Bool.and_eq_true, Bool.or_eq_true, beq_iff_eq, bne_iff_ne, beq_eq_false_iff_ne, ne_eq, Classical.not_not, not_true_eq_false, not_false_eq_true, forall_const, Bool.false_eq_true, false_implies, eq_self] at hs); (try (exfalso; omega)); (try simp (disch := omega) only [go_sem, hs])) | (refine z_seqr rfl ?_) | (refine z_seqd 2 [.q, .q, .q, .q, .q, .q, .q, .q, .q, .q, .q, .q, .q, .q, .q, .q, .q, .q, .q, .q, .q, .q, .q, .q, .q, .q, .q, .q, .q, .q, .q, .q, .q, .q, .q, .q, .q, .q, .q, .q, .q, .q, .q, .q, .q, .q, .q, .q] rfl (by kernel_rfl) (by kernel_rfl) ?_) | (refine w_seq rfl fun K hK => ?_) | (refine z_reg rfl ?_) | (refine z_draw 4 [.q, .b, .q, .q, .q, .q, .q, .q, (.f [0, 1]), (.m 1), .b, (.f [0]), .q, .q, .q, (.m 0), .q, .q, .e, .q, .q, .e] rfl (by kernel_rfl) (by kernel_rfl) ?_) | (refine z_cond rfl ?_) | (refine w_skip rfl ?_; ((repeat ((fail_if_success (refine hK _ _ (cl_id ?_))); clear hK)); refine hK _ _ (cl_id ?_); clear hK)) | (refine w_ret rfl ?_; (try dsimp only [anorm, ablock, astay]); refine z_end ?_) | (refine z_end0 ?_) | (refine w_block rfl ?_) | (refine w_scope rfl ?_) | (refine w_label rfl ?_; ((repeat ((fail_if_success (refine hK _ _ (cl_id ?_))); clear hK)); refine hK _ _ (cl_id ?_); clear hK)) | (refine w_exit rfl ?_; (try dsimp only [anorm, ablock, astay]); (try simp only [reduceIte, ↓reduceIte, Nat.reduceEqDiff]); ((repeat ((fail_if_success (refine hK _ _ (cl_id ?_))); clear hK)); refine hK _ _ (cl_id ?_); clear hK)) | (refine jend_go [(4, []), (3, [0, 3, 4]), (2, [0, 3, 4, 52]), (1, [0, 3, 4]), (0, [0, 3])] ?_; simp only [tabAt_cons, sel_nil, sel_cons, put_at, ofl_cons, ofl_nil, T0_at, List.getElem?_cons_zero, List.getElem?_cons_succ, List.getElem?_nil, Option.getD_some, Option.getD_none, reduceIte, ↓reduceIte, Nat.reduceEqDiff]; refine jl_go ?_) | simp (disch := omega) only [go_sem] | (refine jc_t ?_) | (refine jc_f ?_) | (refine jx rfl ?_) | (refine jx (fun _ => rfl) ?_) | (refine jxg ⟨rfl, rfl⟩ ?_) | (refine jxh ⟨rfl, rfl⟩ ?_) | (refine jx ⟨by (first | omega | (simp; done) | (simp; omega)), rfl⟩ ?_) | (refine jx (fun _ => ⟨by (first | omega | (simp; done) | (simp; omega)), rfl⟩) ?_) | (refine jxg ⟨by (first | omega | (simp; done) | (simp; omega)), rfl, rfl⟩ ?_) | (refine jxh ⟨by (first | omega | (simp; done) | (simp; omega)), rfl, rfl⟩ ?_) | (refine jx ⟨by (first | omega | (simp; done) | (simp; omega)), by (first | omega | (simp; done) | (simp; omega)), rfl⟩ ?_) | (refine And.intro (by (first | omega | (simp; done) | (simp; omega))) ?_) | (refine mc_b (fun hs => ?_) fun hs => ?_) | (refine mg_st (fun hs => ?_) fun hs => ?_) | (refine mg_sf (fun hs => ?_) fun hs => ?_) | (refine mall_s (fun hs => ?_) fun hs => ?_) | (refine malln_s (fun hs => ?_) fun hs => ?_) | (refine mpk_s (fun hs => ?_) fun hs => ?_) | ((repeat ((fail_if_success (refine hK _ _ (cl_id ?_))); clear hK)); refine hK _ _ (cl_id ?_); clear hK)))
  refine z_loop rfl (fun i => i ≤ m) (fun i => m - i) (fun i => [(0, .ptr 0 0), (3, .ptr 1 0), (4, .v (.int .i64 (i : Int)))]) (fun i => [some (.obj [.v (.int .i64 n), .sl 3 (cels h), .sl 3 (cels r)]), some (.obj [.v (.int .i64 y1), .v (.int .i64 y2), .v (.bool y3)])]) 0 (Nat.zero_le _) (cq_s ?_) ?_
  · (simp (disch := omega) only [go_sem])
  intro i hi Ko hKo
  have e10 : List.take i (List.take i h) = List.take i h := List.take_of_length_le (by rw [List.length_take]; omega)
  have e11 : i ≤ h.length → List.take (i + 1) (List.take i h ++ [(y1, y2, y3)]) = List.take i h ++ [(y1, y2, y3)] := fun q => List.take_of_length_le (by simp; omega)
  have e12 : i ≤ h.length → i + 1 + (h.length - i) = (List.take i h ++ [(y1, y2, y3)] ++ List.drop i h).length := fun q => by simp; omega
  have hne : i < m → ∃ x, gt h i = x ∧ ahd x (y1, y2, y3) = true := fun q => ⟨_, rfl, hy q⟩
  by_cases hlt : i < m
  · have hKo2 := fun T' H' => hKo T' H' (i + 1) (by omega) (by omega)
    obtain ⟨⟨x1, x2, x3⟩, hx, ha⟩ := hne hlt
    have hil : (i : Int) < h.length := by omega
    unfold ahd at ha
    simp only [Bool.or_eq_true, Bool.and_eq_true, decide_eq_true_eq] at ha
    clear hKo hne hy hn
    by_cases e1 : x1 < y1
    · (repeat' (first | (have hs := Mk.out hs; (try simp only [decide_eq_true_eq, decide_eq_false_iff_not, Bool.not_eq_true, Bool.not_eq_false, Bool.not_true, Bool.not_false, Bool.not_eq_eq_eq_not, Bool.and_eq_true, Bool.or_eq_true, beq_iff_eq, bne_iff_ne, beq_eq_false_iff_ne, ne_eq, Classical.not_not, not_true_eq_false, not_false_eq_true, forall_const, Bool.false_eq_true, false_implies, eq_self] at hs); (try (exfalso; omega)); (try simp (disch := omega) only [go_sem, hil, hx, e1, hs])) | (refine z_seqr rfl ?_) | (refine z_seqd 2 [.q, .q, .q, .q, .q, .q, .q, .q, .q, .q, .q, .q, .q, .q, .q, .q, .q, .q, .q, .q, .q, .q, .q, .q, .q, .q, .q, .q, .q, .q, .q, .q, .q, .q, .q, .q, .q, .q, .q, .q, .q, .q, .q, .q, .q, .q, .q, .q] rfl (by kernel_rfl) (by kernel_rfl) ?_) | (refine w_seq rfl fun K hK => ?_) | (refine z_reg rfl ?_) | (refine z_draw 4 [.q, .b, .q, .q, .q, .q, .q, .q, (.f [0, 1]), (.m 1), .b, (.f [0]), .q, .q, .q, (.m 0), .q, .q, .e, .q, .q, .e] rfl (by kernel_rfl) (by kernel_rfl) ?_) | (refine z_cond rfl ?_) | (refine w_skip rfl ?_; ((repeat ((fail_if_success (refine hK _ _ (cl_id ?_))); clear hK)); refine hK _ _ (cl_id ?_); clear hK)) | (refine w_ret rfl ?_; (try dsimp only [anorm, ablock, astay]); refine z_end ?_) | (refine z_end0 ?_) | (refine w_block rfl ?_) | (refine w_scope rfl ?_) | (refine w_label rfl ?_; ((repeat ((fail_if_success (refine hK _ _ (cl_id ?_))); clear hK)); refine hK _ _ (cl_id ?_); clear hK)) | (refine w_exit rfl ?_; (try dsimp only [anorm, ablock, astay]); (try simp only [reduceIte, ↓reduceIte, Nat.reduceEqDiff]); ((repeat ((fail_if_success (refine hK _ _ (cl_id ?_))); clear hK)); refine hK _ _ (cl_id ?_); clear hK)) | (refine jend_go [(4, []), (3, [0, 3, 4]), (2, [0, 3, 4, 52]), (1, [0, 3, 4]), (0, [0, 3])] ?_; simp only [tabAt_cons, sel_nil, sel_cons, put_at, ofl_cons, ofl_nil, T0_at, List.getElem?_cons_zero, List.getElem?_cons_succ, List.getElem?_nil, Option.getD_some, Option.getD_none, reduceIte, ↓reduceIte, Nat.reduceEqDiff]; refine jl_go ?_) | simp (disch := omega) only [go_sem, hil, hx, e1] | (refine jc_t ?_) | (refine jc_f ?_) | (refine jx rfl ?_) | (refine jx (fun _ => rfl) ?_) | (refine jxg ⟨rfl, rfl⟩ ?_) | (refine jxh ⟨rfl, rfl⟩ ?_) | (refine jx ⟨by (first | omega | (simp; done) | (simp; omega)), rfl⟩ ?_) | (refine jx (fun _ => ⟨by (first | omega | (simp; done) | (simp; omega)), rfl⟩) ?_) | (refine jxg ⟨by (first | omega | (simp; done) | (simp; omega)), rfl, rfl⟩ ?_) | (refine jxh ⟨by (first | omega | (simp; done) | (simp; omega)), rfl, rfl⟩ ?_) | (refine jx ⟨by (first | omega | (simp; done) | (simp; omega)), by (first | omega | (simp; done) | (simp; omega)), rfl⟩ ?_) | (refine And.intro (by (first | omega | (simp; done) | (simp; omega))) ?_) | (refine mc_b (fun hs => ?_) fun hs => ?_) | (refine mg_st (fun hs => ?_) fun hs => ?_) | (refine mg_sf (fun hs => ?_) fun hs => ?_) | (refine mall_s (fun hs => ?_) fun hs => ?_) | (refine malln_s (fun hs => ?_) fun hs => ?_) | (refine mpk_s (fun hs => ?_) fun hs => ?_) | ((repeat ((fail_if_success (refine hK _ _ (cl_id ?_))); clear hK)); refine hK _ _ (cl_id ?_); clear hK)))
      refine hKo2 _ _ (cq_s ?_)
      (simp (disch := omega) only [go_sem])
      omega
    · have e2 : x1 = y1 := by omega
      have e3 : x2 < y2 := by omega
      subst e2
      have e0 : ∀ z : Int, decide (z = z) = true := fun z => decide_eq_true rfl
      (repeat' (first | (have hs := Mk.out hs; (try simp only [decide_eq_true_eq, decide_eq_false_iff_not, Bool.not_eq_true, Bool.not_eq_false, Bool.not_true, Bool.not_false, Bool.not_eq_eq_eq_not, Bool.and_eq_true, Bool.or_eq_true, beq_iff_eq, bne_iff_ne, beq_eq_false_iff_ne, ne_eq, Classical.not_not, not_true_eq_false, not_false_eq_true, forall_const, Bool.false_eq_true, false_implies, eq_self] at hs); (try (exfalso; omega)); (try simp (disch := omega) only [go_sem, hil, hx, e1, e3, e0, hs])) | (refine z_seqr rfl ?_) | (refine z_seqd 2 [.q, .q, .q, .q, .q, .q, .q, .q, .q, .q, .q, .q, .q, .q, .q, .q, .q, .q, .q, .q, .q, .q, .q, .q, .q, .q, .q, .q, .q, .q, .q, .q, .q, .q, .q, .q, .q, .q, .q, .q, .q, .q, .q, .q, .q, .q, .q, .q] rfl (by kernel_rfl) (by kernel_rfl) ?_) | (refine w_seq rfl fun K hK => ?_) | (refine z_reg rfl ?_) | (refine z_draw 4 [.q, .b, .q, .q, .q, .q, .q, .q, (.f [0, 1]), (.m 1), .b, (.f [0]), .q, .q, .q, (.m 0), .q, .q, .e, .q, .q, .e] rfl (by kernel_rfl) (by kernel_rfl) ?_) | (refine z_cond rfl ?_) | (refine w_skip rfl ?_; ((repeat ((fail_if_success (refine hK _ _ (cl_id ?_))); clear hK)); refine hK _ _ (cl_id ?_); clear hK)) | (refine w_ret rfl ?_; (try dsimp only [anorm, ablock, astay]); refine z_end ?_) | (refine z_end0 ?_) | (refine w_block rfl ?_) | (refine w_scope rfl ?_) | (refine w_label rfl ?_; ((repeat ((fail_if_success (refine hK _ _ (cl_id ?_))); clear hK)); refine hK _ _ (cl_id ?_); clear hK)) | (refine w_exit rfl ?_; (try dsimp only [anorm, ablock, astay]); (try simp only [reduceIte, ↓reduceIte, Nat.reduceEqDiff]); ((repeat ((fail_if_success (refine hK _ _ (cl_id ?_))); clear hK)); refine hK _ _ (cl_id ?_); clear hK)) | (refine jend_go [(4, []), (3, [0, 3, 4]), (2, [0, 3, 4, 52]), (1, [0, 3, 4]), (0, [0, 3])] ?_; simp only [tabAt_cons, sel_nil, sel_cons, put_at, ofl_cons, ofl_nil, T0_at, List.getElem?_cons_zero, List.getElem?_cons_succ, List.getElem?_nil, Option.getD_some, Option.getD_none, reduceIte, ↓reduceIte, Nat.reduceEqDiff]; refine jl_go ?_) | simp (disch := omega) only [go_sem, hil, hx, e1, e3, e0] | (refine jc_t ?_) | (refine jc_f ?_) | (refine jx rfl ?_) | (refine jx (fun _ => rfl) ?_) | (refine jxg ⟨rfl, rfl⟩ ?_) | (refine jxh ⟨rfl, rfl⟩ ?_) | (refine jx ⟨by (first | omega | (simp; done) | (simp; omega)), rfl⟩ ?_) | (refine jx (fun _ => ⟨by (first | omega | (simp; done) | (simp; omega)), rfl⟩) ?_) | (refine jxg ⟨by (first | omega | (simp; done) | (simp; omega)), rfl, rfl⟩ ?_) | (refine jxh ⟨by (first | omega | (simp; done) | (simp; omega)), rfl, rfl⟩ ?_) | (refine jx ⟨by (first | omega | (simp; done) | (simp; omega)), by (first | omega | (simp; done) | (simp; omega)), rfl⟩ ?_) | (refine And.intro (by (first | omega | (simp; done) | (simp; omega))) ?_) | (refine mc_b (fun hs => ?_) fun hs => ?_) | (refine mg_st (fun hs => ?_) fun hs => ?_) | (refine mg_sf (fun hs => ?_) fun hs => ?_) | (refine mall_s (fun hs => ?_) fun hs => ?_) | (refine malln_s (fun hs => ?_) fun hs => ?_) | (refine mpk_s (fun hs => ?_) fun hs => ?_) | ((repeat ((fail_if_success (refine hK _ _ (cl_id ?_))); clear hK)); refine hK _ _ (cl_id ?_); clear hK)))
      refine hKo2 _ _ (cq_s ?_)
      (simp (disch := omega) only [go_sem])
      omega
  · obtain rfl : i = m := by omega
    clear hKo hne hy
    have e11 := e11 hk
    have e12 := e12 hk
    by_cases hil : i < h.length
    · obtain ⟨⟨x1, x2, x3⟩, hx⟩ : ∃ x, gt h i = x := ⟨_, rfl⟩
      have ha := hn hil
      rw [hx] at ha
      unfold ahd at ha
      simp only [Bool.or_eq_false_iff, Bool.and_eq_false_imp, decide_eq_false_iff_not, decide_eq_true_eq] at ha
      have hil2 : (i : Int) < h.length := by omega
      have e1 : ¬ x1 < y1 := ha.1
      by_cases e2 : x1 = y1
      · have e3 : ¬ x2 < y2 := ha.2 e2
        subst e2
        have e0 : ∀ z : Int, decide (z = z) = true := fun z => decide_eq_true rfl
        clear hn ha
        (repeat' (first | (have hs := Mk.out hs; (try simp only [decide_eq_true_eq, decide_eq_false_iff_not, Bool.not_eq_true, Bool.not_eq_false, Bool.not_true, Bool.not_false, Bool.not_eq_eq_eq_not, Bool.and_eq_true, Bool.or_eq_true, beq_iff_eq, bne_iff_ne, beq_eq_false_iff_ne, ne_eq, Classical.not_not, not_true_eq_false, not_false_eq_true, forall_const, Bool.false_eq_true, false_implies, eq_self] at hs); (try (exfalso; omega)); (try simp (disch := omega) only [go_sem, hil2, hx, e1, e3, e0, e10, e11, hs])) | (refine z_seqr rfl ?_) | (refine z_seqd 2 [.q, .q, .q, .q, .q, .q, .q, .q, .q, .q, .q, .q, .q, .q, .q, .q, .q, .q, .q, .q, .q, .q, .q, .q, .q, .q, .q, .q, .q, .q, .q, .q, .q, .q, .q, .q, .q, .q, .q, .q, .q, .q, .q, .q, .q, .q, .q, .q] rfl (by kernel_rfl) (by kernel_rfl) ?_) | (refine w_seq rfl fun K hK => ?_) | (refine z_reg rfl ?_) | (refine z_draw 4 [.q, .b, .q, .q, .q, .q, .q, .q, (.f [0, 1]), (.m 1), .b, (.f [0]), .q, .q, .q, (.m 0), .q, .q, .e, .q, .q, .e] rfl (by kernel_rfl) (by kernel_rfl) ?_) | (refine z_cond rfl ?_) | (refine w_skip rfl ?_; ((repeat ((fail_if_success (refine hK _ _ (cl_id ?_))); clear hK)); refine hK _ _ (cl_id ?_); clear hK)) | (refine w_ret rfl ?_; (try dsimp only [anorm, ablock, astay]); refine z_end ?_) | (refine z_end0 ?_) | (refine w_block rfl ?_) | (refine w_scope rfl ?_) | (refine w_label rfl ?_; ((repeat ((fail_if_success (refine hK _ _ (cl_id ?_))); clear hK)); refine hK _ _ (cl_id ?_); clear hK)) | (refine w_exit rfl ?_; (try dsimp only [anorm, ablock, astay]); (try simp only [reduceIte, ↓reduceIte, Nat.reduceEqDiff]); ((repeat ((fail_if_success (refine hK _ _ (cl_id ?_))); clear hK)); refine hK _ _ (cl_id ?_); clear hK)) | (refine jend_go [(4, []), (3, [0, 3, 4]), (2, [0, 3, 4, 52]), (1, [0, 3, 4]), (0, [0, 3])] ?_; simp only [tabAt_cons, sel_nil, sel_cons, put_at, ofl_cons, ofl_nil, T0_at, List.getElem?_cons_zero, List.getElem?_cons_succ, List.getElem?_nil, Option.getD_some, Option.getD_none, reduceIte, ↓reduceIte, Nat.reduceEqDiff]; refine jl_go ?_) | simp (disch := omega) only [go_sem, hil2, hx, e1, e3, e0, e10, e11] | (refine jc_t ?_) | (refine jc_f ?_) | (refine jx rfl ?_) | (refine jx (fun _ => rfl) ?_) | (refine jxg ⟨rfl, rfl⟩ ?_) | (refine jxh ⟨rfl, rfl⟩ ?_) | (refine jx ⟨by (first | omega | (simp; done) | (simp; omega)), rfl⟩ ?_) | (refine jx (fun _ => ⟨by (first | omega | (simp; done) | (simp; omega)), rfl⟩) ?_) | (refine jxg ⟨by (first | omega | (simp; done) | (simp; omega)), rfl, rfl⟩ ?_) | (refine jxh ⟨by (first | omega | (simp; done) | (simp; omega)), rfl, rfl⟩ ?_) | (refine jx ⟨by (first | omega | (simp; done) | (simp; omega)), by (first | omega | (simp; done) | (simp; omega)), rfl⟩ ?_) | (refine And.intro (by (first | omega | (simp; done) | (simp; omega))) ?_) | (refine mc_b (fun hs => ?_) fun hs => ?_) | (refine mg_st (fun hs => ?_) fun hs => ?_) | (refine mg_sf (fun hs => ?_) fun hs => ?_) | (refine mall_s (fun hs => ?_) fun hs => ?_) | (refine malln_s (fun hs => ?_) fun hs => ?_) | (refine mpk_s (fun hs => ?_) fun hs => ?_) | ((repeat ((fail_if_success (refine hK _ _ (cl_id ?_))); clear hK)); refine hK _ _ (cl_id ?_); clear hK)))
        have hcat : List.take i h ++ [(x1, y2, y3)] ++ List.drop i h = List.take i h ++ (x1, y2, y3) :: List.drop i h := by simp
        rw [e12, hcat]
        generalize List.take i h ++ (x1, y2, y3) :: List.drop i h = z at *
        refine end_f [0, 4] [some (.obj [.v (.int .i64 n), .hs 1 3 0 z.length, .sl 3 (cels r)])] [some (.row true 3 (cels z))] (.tup []) 1 rfl (by simp [lv]) ?_ ?_ (by simp) ?_ ⟨rfl, rfl⟩ ⟨by (simp (disch := omega) only [go_sem]), Wk.refl _⟩
        · (simp (disch := omega) only [go_sem])
        · (simp (disch := omega) only [go_sem])
        · refine ⟨⟨by (simp (disch := omega) only [go_sem]), ?_⟩, trivial⟩
          (repeat' (first | exact trivial | exact rfl | exact Wk.refl _ | exact Wk.of frz_v | exact Wk.vnil | exact Wk.of (frzC (by simp) rfl (by first | (simp; done) | (simp; omega))) | exact Wk.of frz_sl | exact Wk.of frz_ptr | exact .inl rfl | refine And.intro ?_ ?_ | refine ⟨?_, ?_⟩))
      · clear hn ha
        (repeat' (first | (have hs := Mk.out hs; (try simp only [decide_eq_true_eq, decide_eq_false_iff_not, Bool.not_eq_true, Bool.not_eq_false, Bool.not_true, Bool.not_false, Bool.not_eq_eq_eq_not, Bool.and_eq_true, Bool.or_eq_true, beq_iff_eq, bne_iff_ne, beq_eq_false_iff_ne, ne_eq, Classical.not_not, not_true_eq_false, not_false_eq_true, forall_const, Bool.false_eq_true, false_implies, eq_self] at hs); (try (exfalso; omega)); (try simp (disch := omega) only [go_sem, hil2, hx, e1, e2, e10, e11, hs])) | (refine z_seqr rfl ?_) | (refine z_seqd 2 [.q, .q, .q, .q, .q, .q, .q, .q, .q, .q, .q, .q, .q, .q, .q, .q, .q, .q, .q, .q, .q, .q, .q, .q, .q, .q, .q, .q, .q, .q, .q, .q, .q, .q, .q, .q, .q, .q, .q, .q, .q, .q, .q, .q, .q, .q, .q, .q] rfl (by kernel_rfl) (by kernel_rfl) ?_) | (refine w_seq rfl fun K hK => ?_) | (refine z_reg rfl ?_) | (refine z_draw 4 [.q, .b, .q, .q, .q, .q, .q, .q, (.f [0, 1]), (.m 1), .b, (.f [0]), .q, .q, .q, (.m 0), .q, .q, .e, .q, .q, .e] rfl (by kernel_rfl) (by kernel_rfl) ?_) | (refine z_cond rfl ?_) | (refine w_skip rfl ?_; ((repeat ((fail_if_success (refine hK _ _ (cl_id ?_))); clear hK)); refine hK _ _ (cl_id ?_); clear hK)) | (refine w_ret rfl ?_; (try dsimp only [anorm, ablock, astay]); refine z_end ?_) | (refine z_end0 ?_) | (refine w_block rfl ?_) | (refine w_scope rfl ?_) | (refine w_label rfl ?_; ((repeat ((fail_if_success (refine hK _ _ (cl_id ?_))); clear hK)); refine hK _ _ (cl_id ?_); clear hK)) | (refine w_exit rfl ?_; (try dsimp only [anorm, ablock, astay]); (try simp only [reduceIte, ↓reduceIte, Nat.reduceEqDiff]); ((repeat ((fail_if_success (refine hK _ _ (cl_id ?_))); clear hK)); refine hK _ _ (cl_id ?_); clear hK)) | (refine jend_go [(4, []), (3, [0, 3, 4]), (2, [0, 3, 4, 52]), (1, [0, 3, 4]), (0, [0, 3])] ?_; simp only [tabAt_cons, sel_nil, sel_cons, put_at, ofl_cons, ofl_nil, T0_at, List.getElem?_cons_zero, List.getElem?_cons_succ, List.getElem?_nil, Option.getD_some, Option.getD_none, reduceIte, ↓reduceIte, Nat.reduceEqDiff]; refine jl_go ?_) | simp (disch := omega) only [go_sem, hil2, hx, e1, e2, e10, e11] | (refine jc_t ?_) | (refine jc_f ?_) | (refine jx rfl ?_) | (refine jx (fun _ => rfl) ?_) | (refine jxg ⟨rfl, rfl⟩ ?_) | (refine jxh ⟨rfl, rfl⟩ ?_) | (refine jx ⟨by (first | omega | (simp; done) | (simp; omega)), rfl⟩ ?_) | (refine jx (fun _ => ⟨by (first | omega | (simp; done) | (simp; omega)), rfl⟩) ?_) | (refine jxg ⟨by (first | omega | (simp; done) | (simp; omega)), rfl, rfl⟩ ?_) | (refine jxh ⟨by (first | omega | (simp; done) | (simp; omega)), rfl, rfl⟩ ?_) | (refine jx ⟨by (first | omega | (simp; done) | (simp; omega)), by (first | omega | (simp; done) | (simp; omega)), rfl⟩ ?_) | (refine And.intro (by (first | omega | (simp; done) | (simp; omega))) ?_) | (refine mc_b (fun hs => ?_) fun hs => ?_) | (refine mg_st (fun hs => ?_) fun hs => ?_) | (refine mg_sf (fun hs => ?_) fun hs => ?_) | (refine mall_s (fun hs => ?_) fun hs => ?_) | (refine malln_s (fun hs => ?_) fun hs => ?_) | (refine mpk_s (fun hs => ?_) fun hs => ?_) | ((repeat ((fail_if_success (refine hK _ _ (cl_id ?_))); clear hK)); refine hK _ _ (cl_id ?_); clear hK)))
        have hcat : List.take i h ++ [(y1, y2, y3)] ++ List.drop i h = List.take i h ++ (y1, y2, y3) :: List.drop i h := by simp
        rw [e12, hcat]
        generalize List.take i h ++ (y1, y2, y3) :: List.drop i h = z at *
        refine end_f [0, 4] [some (.obj [.v (.int .i64 n), .hs 1 3 0 z.length, .sl 3 (cels r)])] [some (.row true 3 (cels z))] (.tup []) 1 rfl (by simp [lv]) ?_ ?_ (by simp) ?_ ⟨rfl, rfl⟩ ⟨by (simp (disch := omega) only [go_sem]), Wk.refl _⟩
        · (simp (disch := omega) only [go_sem])
        · (simp (disch := omega) only [go_sem])
        · refine ⟨⟨by (simp (disch := omega) only [go_sem]), ?_⟩, trivial⟩
          (repeat' (first | exact trivial | exact rfl | exact Wk.refl _ | exact Wk.of frz_v | exact Wk.vnil | exact Wk.of (frzC (by simp) rfl (by first | (simp; done) | (simp; omega))) | exact Wk.of frz_sl | exact Wk.of frz_ptr | exact .inl rfl | refine And.intro ?_ ?_ | refine ⟨?_, ?_⟩))
    · have hil2 : ¬ (i : Int) < h.length := by omega
      clear hn
      (repeat' (first | (have hs := Mk.out hs; (try simp only [decide_eq_true_eq, decide_eq_false_iff_not, Bool.not_eq_true, Bool.not_eq_false, Bool.not_true, Bool.not_false, Bool.not_eq_eq_eq_not, Bool.and_eq_true, Bool.or_eq_true, beq_iff_eq, bne_iff_ne, beq_eq_false_iff_ne, ne_eq, Classical.not_not, not_true_eq_false, not_false_eq_true, forall_const, Bool.false_eq_true, false_implies, eq_self] at hs); (try (exfalso; omega)); (try simp (disch := omega) only [go_sem, hil2, e10, e11, hs])) | (refine z_seqr rfl ?_) | (refine z_seqd 2 [.q, .q, .q, .q, .q, .q, .q, .q, .q, .q, .q, .q, .q, .q, .q, .q, .q, .q, .q, .q, .q, .q, .q, .q, .q, .q, .q, .q, .q, .q, .q, .q, .q, .q, .q, .q, .q, .q, .q, .q, .q, .q, .q, .q, .q, .q, .q, .q] rfl (by kernel_rfl) (by kernel_rfl) ?_) | (refine w_seq rfl fun K hK => ?_) | (refine z_reg rfl ?_) | (refine z_draw 4 [.q, .b, .q, .q, .q, .q, .q, .q, (.f [0, 1]), (.m 1), .b, (.f [0]), .q, .q, .q, (.m 0), .q, .q, .e, .q, .q, .e] rfl (by kernel_rfl) (by kernel_rfl) ?_) | (refine z_cond rfl ?_) | (refine w_skip rfl ?_; ((repeat ((fail_if_success (refine hK _ _ (cl_id ?_))); clear hK)); refine hK _ _ (cl_id ?_); clear hK)) | (refine w_ret rfl ?_; (try dsimp only [anorm, ablock, astay]); refine z_end ?_) | (refine z_end0 ?_) | (refine w_block rfl ?_) | (refine w_scope rfl ?_) | (refine w_label rfl ?_; ((repeat ((fail_if_success (refine hK _ _ (cl_id ?_))); clear hK)); refine hK _ _ (cl_id ?_); clear hK)) | (refine w_exit rfl ?_; (try dsimp only [anorm, ablock, astay]); (try simp only [reduceIte, ↓reduceIte, Nat.reduceEqDiff]); ((repeat ((fail_if_success (refine hK _ _ (cl_id ?_))); clear hK)); refine hK _ _ (cl_id ?_); clear hK)) | (refine jend_go [(4, []), (3, [0, 3, 4]), (2, [0, 3, 4, 52]), (1, [0, 3, 4]), (0, [0, 3])] ?_; simp only [tabAt_cons, sel_nil, sel_cons, put_at, ofl_cons, ofl_nil, T0_at, List.getElem?_cons_zero, List.getElem?_cons_succ, List.getElem?_nil, Option.getD_some, Option.getD_none, reduceIte, ↓reduceIte, Nat.reduceEqDiff]; refine jl_go ?_) | simp (disch := omega) only [go_sem, hil2, e10, e11] | (refine jc_t ?_) | (refine jc_f ?_) | (refine jx rfl ?_) | (refine jx (fun _ => rfl) ?_) | (refine jxg ⟨rfl, rfl⟩ ?_) | (refine jxh ⟨rfl, rfl⟩ ?_) | (refine jx ⟨by (first | omega | (simp; done) | (simp; omega)), rfl⟩ ?_) | (refine jx (fun _ => ⟨by (first | omega | (simp; done) | (simp; omega)), rfl⟩) ?_) | (refine jxg ⟨by (first | omega | (simp; done) | (simp; omega)), rfl, rfl⟩ ?_) | (refine jxh ⟨by (first | omega | (simp; done) | (simp; omega)), rfl, rfl⟩ ?_) | (refine jx ⟨by (first | omega | (simp; done) | (simp; omega)), by (first | omega | (simp; done) | (simp; omega)), rfl⟩ ?_) | (refine And.intro (by (first | omega | (simp; done) | (simp; omega))) ?_) | (refine mc_b (fun hs => ?_) fun hs => ?_) | (refine mg_st (fun hs => ?_) fun hs => ?_) | (refine mg_sf (fun hs => ?_) fun hs => ?_) | (refine mall_s (fun hs => ?_) fun hs => ?_) | (refine malln_s (fun hs => ?_) fun hs => ?_) | (refine mpk_s (fun hs => ?_) fun hs => ?_) | ((repeat ((fail_if_success (refine hK _ _ (cl_id ?_))); clear hK)); refine hK _ _ (cl_id ?_); clear hK)))
      have hcat : List.take i h ++ [(y1, y2, y3)] ++ List.drop i h = List.take i h ++ (y1, y2, y3) :: List.drop i h := by simp
      rw [e12, hcat]
      generalize List.take i h ++ (y1, y2, y3) :: List.drop i h = z at *
      refine end_f [0, 4] [some (.obj [.v (.int .i64 n), .hs 1 3 0 z.length, .sl 3 (cels r)])] [some (.row true 3 (cels z))] (.tup []) 1 rfl (by simp [lv]) ?_ ?_ (by simp) ?_ ⟨rfl, rfl⟩ ⟨by (simp (disch := omega) only [go_sem]), Wk.refl _⟩
      · (simp (disch := omega) only [go_sem])
      · (simp (disch := omega) only [go_sem])
      · refine ⟨⟨by (simp (disch := omega) only [go_sem]), ?_⟩, trivial⟩
        (repeat' (first | exact trivial | exact rfl | exact Wk.refl _ | exact Wk.of frz_v | exact Wk.vnil | exact Wk.of (frzC (by simp) rfl (by first | (simp; done) | (simp; omega))) | exact Wk.of frz_sl | exact Wk.of frz_ptr | exact .inl rfl | refine And.intro ?_ ?_ | refine ⟨?_, ?_⟩))
end Go.Proofs.Ytckppkimjiifpaa
