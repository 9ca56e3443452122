/- Locks: Give, by the machine. No condition but bounds of lengths. -/
import Derived.Test.YtjfoicebdjonfaaQLd
import Derived.Test.YtjfoicebdjonfaaQb2
import Derived.Test.YtjfoicebdjonfaaQgs
set_option linter.unusedSectionVars false
set_option linter.unusedVariables false
set_option linter.unusedSimpArgs false
set_option linter.deprecated false
namespace Go.Am
open Go.RowKit Go.Cx
theorem okF_set {N d : Nat} {L : Heap} {B B' : Blk} (hb : nbB N B') (hf : frB d L N B B') : ∀ {H : Heap} {k : Nat}, okF N d L H H → okF N d L (H.set k (some B')) (H.set k (some B))
  | [], _, h => h
  | none :: H, 0, h => by
    unfold okF at h
    show okF N d L (some B' :: H) (some B :: H)
    unfold okF
    exact ⟨⟨hb, hf⟩, h⟩
  | some C :: H, 0, h => by
    unfold okF at h
    show okF N d L (some B' :: H) (some B :: H)
    unfold okF
    exact ⟨⟨hb, hf⟩, h.2⟩
  | none :: H, k + 1, h => by
    unfold okF at h
    show okF N d L (none :: H.set k _) (none :: H.set k _)
    unfold okF
    exact okF_set hb hf h
  | some C :: H, k + 1, h => by
    unfold okF at h
    show okF N d L (some C :: H.set k _) (some C :: H.set k _)
    unfold okF
    exact ⟨h.1, okF_set hb hf h.2⟩
end Go.Am
namespace Go.Proofs.Ytjfoicebdjonfaa
open Go.RowKit Go.Cx Go.Am
set_option maxRecDepth 8000
set_option maxHeartbeats 2000000
attribute [local irreducible] ACalls jcall jsame jex jexg jexh jguard jconv jload jpart jstore jbin jslice jidxA jidx jfield jfieldA jbuild jbuildS jmake jappend jlen jpick jres jcnd jcopy jcap jborn jdraw jops jop jstr jstrc jlive jend jlenM jmmake jlook jmput jmdel jrange jnext jentry jlk jmp2 jmd2 jlm jrg jnx jny jen jeo
attribute [local go_sem] reduceIte Nat.reduceEqDiff Nat.reduceAdd Nat.reduceMul Nat.reduceLT Nat.reduceLeDiff Nat.reduceSub Int.reduceLT Int.reduceLE Int.reduceToNat Int.reduceNeg Int.reduceAdd Int.reduceSub UInt8.reduceToNat Int.reduceEq reduceCtorEq Int.reducePow Int.reduceMul Nat.reducePow E0
attribute [local go_sem ↓] reduceIte
attribute [local go_sem high] chunks_bvs
attribute [local go_sem] tgs_nil tgs_snoc tagC_eq rwb_nil jop_makeMap jop_lookup jop_mapUpdate jop_delete jop_range jop_next jop_entry jmmake_m jlook_m jlk_mI jmput_m jmp2_mI jmdel_m jmd2_mB jlenM_m jlm_mB jrange_m jnext_m jnx_m jentry_m jen_m jeo_mS nbB_mI bmap_mI bmap_mSI mB_nil vI nbB_o nbB_r nbB_i bmap_o bmap_r bmap_i gfB_o gfB_r gfB_i
attribute [local go_sem ←] List.map_take List.map_drop

theorem lk_set {st : List Lk} {i : Nat} (hi : i < st.length) (k : Lk) : lk (st.set i k) i = k := by simp [lk, List.getD_eq_getElem?_getD, hi]
theorem set_set' {α : Type} (l : List α) (i : Nat) (a b : α) : (l.set i a).set i b = l.set i b := List.set_set ..
/-- What a lock becomes when a task gives it back. -/
def gaveK (k : Lk) (task : Int) : Lk := ⟨(enterL (mdel k.held task) k.row).2.1, (enterL (mdel k.held task) k.row).2.2⟩
def gaveIn (k : Lk) (task : Int) : List Int := (enterL (mdel k.held task) k.row).1
def isT (t : Int) : Prop := 0 ≤ t ∧ t < 4096
instance (t : Int) : Decidable (isT t) := inferInstanceAs (Decidable (_ ∧ _))
theorem lgive2_am (st : List Lk) (task : Int) (i : Nat) (hi : i < st.length) (ht : isT task) (hh : how (lk st i).held task ≠ 0) (hr : (lk st i).row.length ≤ 1000000) : ACalls E0 74 [.ptr 0 0, .v (.int .i64 task), .v (.int .i64 (i : Int))] (LH st) (fun r H' => r = .tup [.sl 1 (cels (gaveIn (lk st i) task)), .v (.int .i64 0)] ∧ H' = LH (st.set i (gaveK (lk st i) task))) := by
  have hm := lmade_am st
  rw [decide_eq_true (by omega : 0 < st.length)] at hm
  have h1 := lat_am st i hi
  have h2 := lisTask_am task
  rw [decide_eq_true (show 0 ≤ task ∧ task < 4096 from ht)] at h2
  have g1 := LH_o st hi
  have g2 := LH_m st hi
  have e3 := lenter_am (mdel (lk st i).held task) (lk st i).row hr
  have s1 := LH_setM st hi (mdel (lk st i).held task)
  have hi2 : i < (st.set i ⟨mdel (lk st i).held task, (lk st i).row⟩).length := by simpa using hi
  have o2 := LH_o _ hi2
  have m2 := LH_m _ hi2
  rw [lk_set hi] at o2 m2
  have l2 := LH_len (st.set i ⟨mdel (lk st i).held task, (lk st i).row⟩)
  have s3 := LH_set (st.set i ⟨mdel (lk st i).held task, (lk st i).row⟩) i (gaveK (lk st i) task)
  rw [set_set'] at s3
  unfold gaveK gaveIn at *
  simp only at o2 m2 s3
  generalize LH (st.set i ⟨mdel (lk st i).held task, (lk st i).row⟩) = H2 at *
  generalize LH (st.set i ⟨(enterL (mdel (lk st i).held task) (lk st i).row).2.1, (enterL (mdel (lk st i).held task) (lk st i).row).2.2⟩) = H3 at *
  rw [List.length_set] at l2
  generalize (enterL (mdel (lk st i).held task) (lk st i).row).1 = z1 at *
  generalize (enterL (mdel (lk st i).held task) (lk st i).row).2.1 = z2 at *
  generalize (enterL (mdel (lk st i).held task) (lk st i).row).2.2 = z3 at *
  generalize (lk st i).row = row at *
  generalize (lk st i).held = m at *
  refine calls_q (calls_of Try.func74 rfl (by kernel_rfl) (by kernel_rfl) (by rw [Try.ntmps74]; exact Nat.le_of_ble_eq_true rfl) (fun hH0 hA0 => ?_)); rw [Try.results74]
  have q1 : 2 * i + 1 < H2.length := by omega
  have q2 : 2 * i + 2 < H2.length := by omega
  have q3 : ¬ 2 * i = 2 * i + 1 := by omega
  (repeat' (first | (have hs := Mk.out hs; (try simp only [decide_eq_true_eq, decide_eq_false_iff_not, Bool.not_eq_true, Bool.not_eq_false, Bool.not_true, Bool.not_false, Bool.not_eq_eq_eq_not, Bool.and_eq_true, Bool.or_eq_true, beq_iff_eq, bne_iff_ne, beq_eq_false_iff_ne, ne_eq, Classical.not_not, not_true_eq_false, not_false_eq_true, forall_const, Bool.false_eq_true, false_implies, eq_self] at hs); (try (exfalso; omega)); (try simp (disch := omega) only [go_sem, g1, g2, how_eq, hh, s1, o2, m2, s3, q1, q2, q3, hs])) | (refine z_seqr rfl ?_) | (refine w_seq rfl fun K hK => ?_) | (refine z_reg rfl ?_) | (refine z_cond rfl ?_) | (refine w_skip rfl ?_; ((repeat ((fail_if_success (refine hK _ _ (cl_id ?_))); clear hK)); refine hK _ _ (cl_id ?_); clear hK)) | (refine w_ret rfl ?_; (try dsimp only [anorm, ablock, astay]); refine z_end ?_) | (refine z_end0 ?_) | (refine w_block rfl ?_) | (refine w_scope rfl ?_) | (refine w_label rfl ?_; ((repeat ((fail_if_success (refine hK _ _ (cl_id ?_))); clear hK)); refine hK _ _ (cl_id ?_); clear hK)) | (refine w_exit rfl ?_; (try dsimp only [anorm, ablock, astay]); (try simp only [reduceIte, ↓reduceIte, Nat.reduceEqDiff]); ((repeat ((fail_if_success (refine hK _ _ (cl_id ?_))); clear hK)); refine hK _ _ (cl_id ?_); clear hK)) | (refine jend_go [(9, [6, 7]), (8, [8]), (5, [6, 7]), (7, [6, 7]), (6, [1, 8, 23]), (4, [1, 8, 15]), (3, [1, 8]), (2, [6, 7]), (1, [0, 1, 2, 11]), (0, [0, 1, 2])] ?_; simp only [tabAt_cons, sel_nil, sel_cons, put_at, ofl_cons, ofl_nil, T0_at, List.getElem?_cons_zero, List.getElem?_cons_succ, List.getElem?_nil, Option.getD_some, Option.getD_none, reduceIte, ↓reduceIte, Nat.reduceEqDiff]; refine jl_go ?_) | simp (disch := omega) only [go_sem, g1, g2, how_eq, hh, s1, o2, m2, s3, q1, q2, q3] | (refine jc_t ?_) | (refine jc_f ?_) | (refine z_ret (hm) ?_) | (refine z_ret (h1) ?_) | (apply zc (h2) []; (case ok => simp (disch := omega) only [go_sem, cok, sgOk, bcl, g1, g2, how_eq, hh, s1, o2, m2, s3, q1, q2, q3])) | (apply zc (e3) [2 * i + 1, 2 * i + 2]; (case ok => simp (disch := omega) only [go_sem, cok, sgOk, bcl, g1, g2, how_eq, hh, s1, o2, m2, s3, q1, q2, q3])) | (refine And.intro (by (first | omega | (simp; done) | (simp; omega))) ?_) | (refine mc_b (fun hs => ?_) fun hs => ?_) | (refine mg_st (fun hs => ?_) fun hs => ?_) | (refine mg_sf (fun hs => ?_) fun hs => ?_) | (refine mall_s (fun hs => ?_) fun hs => ?_) | (refine malln_s (fun hs => ?_) fun hs => ?_) | (refine mpk_s (fun hs => ?_) fun hs => ?_) | ((repeat ((fail_if_success (refine hK _ _ (cl_id ?_))); clear hK)); refine hK _ _ (cl_id ?_); clear hK)))
  exact cl_id ⟨rfl, rfl⟩
theorem lclone_hot (l : List (Int × Bool)) (hl : l.length ≤ 68719476736) : ACalls E0 87 [.sl 2 (cels l)] [] fun r H' => r = .hs 0 2 0 l.length ∧ H' = [some (.row true 2 (cels l))] := by
  refine calls_q (calls_of Try.func87 rfl (by kernel_rfl) (by kernel_rfl) (by rw [Try.ntmps87]; exact Nat.le_of_ble_eq_true rfl) (fun hH0 hA0 => ?_)); rw [Try.results87]
  (repeat' (first | (have hs := Mk.out hs; (try simp only [decide_eq_true_eq, decide_eq_false_iff_not, Bool.not_eq_true, Bool.not_eq_false, Bool.not_true, Bool.not_false, Bool.not_eq_eq_eq_not, Bool.and_eq_true, Bool.or_eq_true, beq_iff_eq, bne_iff_ne, beq_eq_false_iff_ne, ne_eq, Classical.not_not, not_true_eq_false, not_false_eq_true, forall_const, Bool.false_eq_true, false_implies, eq_self] at hs); (try (exfalso; omega)); (try simp (disch := omega) only [go_sem, hl, hs])) | (refine z_seqr rfl ?_) | (refine w_seq rfl fun K hK => ?_) | (refine z_reg rfl ?_) | (refine z_cond rfl ?_) | (refine w_skip rfl ?_; ((repeat ((fail_if_success (refine hK _ _ (cl_id ?_))); clear hK)); refine hK _ _ (cl_id ?_); clear hK)) | (refine w_ret rfl ?_; (try dsimp only [anorm, ablock, astay]); refine z_end ?_) | (refine z_end0 ?_) | (refine w_block rfl ?_) | (refine w_scope rfl ?_) | (refine w_label rfl ?_; ((repeat ((fail_if_success (refine hK _ _ (cl_id ?_))); clear hK)); refine hK _ _ (cl_id ?_); clear hK)) | (refine w_exit rfl ?_; (try dsimp only [anorm, ablock, astay]); (try simp only [reduceIte, ↓reduceIte, Nat.reduceEqDiff]); ((repeat ((fail_if_success (refine hK _ _ (cl_id ?_))); clear hK)); refine hK _ _ (cl_id ?_); clear hK)) | (refine jend_go [(3, [2]), (2, [2]), (1, [0, 4]), (0, [0])] ?_; simp only [tabAt_cons, sel_nil, sel_cons, put_at, ofl_cons, ofl_nil, T0_at, List.getElem?_cons_zero, List.getElem?_cons_succ, List.getElem?_nil, Option.getD_some, Option.getD_none, reduceIte, ↓reduceIte, Nat.reduceEqDiff]; refine jl_go ?_) | simp (disch := omega) only [go_sem, hl] | (refine jc_t ?_) | (refine jc_f ?_) | (refine And.intro (by (first | omega | (simp; done) | (simp; omega))) ?_) | (refine mc_b (fun hs => ?_) fun hs => ?_) | (refine mg_st (fun hs => ?_) fun hs => ?_) | (refine mg_sf (fun hs => ?_) fun hs => ?_) | (refine mall_s (fun hs => ?_) fun hs => ?_) | (refine malln_s (fun hs => ?_) fun hs => ?_) | (refine mpk_s (fun hs => ?_) fun hs => ?_) | ((repeat ((fail_if_success (refine hK _ _ (cl_id ?_))); clear hK)); refine hK _ _ (cl_id ?_); clear hK)))
  · have e : l = [] := by
      cases l with
      | nil => rfl
      | cons a l => cases hs
    subst e
    refine ⟨_, _, (cq_bare 2 0 rfl).trans (cq_s (tl := [(0, .hs 0 2 0 0)]) ?_), ⟨rfl, rfl⟩⟩
    (simp (disch := omega) only [go_sem])
  · refine end_q [1] rfl (by decide) (by simp) ?_ ⟨rfl, rfl⟩ ?_
    · (simp (disch := omega) only [go_sem])
    · (simp (disch := omega) only [go_sem])
theorem lask3_am (st : List Lk) (task : Int) (i : Nat) (w : Bool) (hi : i < st.length) (ht : isT task) (hl : st.length ≤ 1000) (hr : ∀ i, (lk st i).row.length ≤ 1000000) (hw : waits st task = none) (hh : how (lk st i).held task = 0) (hj : ∀ j, i < j → j < st.length → how (lk st j).held task = 0) (hrow : (lk st i).row = []) (hf : fitsB (lk st i).held w = true) : ACalls E0 73 [.ptr 0 0, .v (.int .i64 task), .agg [.v (.int .i64 (i : Int)), .v (.bool w)]] (LH st) (fun r H' => r = .tup [.v (.bool true), .v (.int .i64 0)] ∧ H' = LH (st.set i ⟨holdM (lk st i).held task w, (lk st i).row⟩)) := by
  have hm := lmade_am st
  rw [decide_eq_true (by omega : 0 < st.length)] at hm
  have h1 := lat_am st i hi
  have h2 := lisTask_am task
  rw [decide_eq_true (show 0 ≤ task ∧ task < 4096 from ht)] at h2
  have h3 := lwaits_am st task hl hr
  rw [hw] at h3
  simp only [needA, Option.isSome_none] at h3
  have h4 := lfits_am (lk st i).held (lk st i).row w
  rw [hf] at h4
  have h5 := lhold_am (lk st i).held (lk st i).row task w
  have h0 := at_app (LH_0 st)
  have g1 := at_app (LH_o st hi)
  have g2 := at_app (LH_m st hi)
  have l0 := LH_len st
  have s1 : ∀ L : Heap, (LH st ++ L).set (2 * i + 1) (some (.obj [.mp (2 * i + 2), .sl 2 (cels (lk st i).row)])) = LH st ++ L := fun L => set_same (g1 L)
  have s2 : ∀ L : Heap, (LH st ++ L).set (2 * i + 2) (some (mB vI (lk st i).held)) = LH st ++ L := fun L => set_same (g2 L)
  have s3 : ∀ L : Heap, (LH st ++ L).set (2 * i + 2) (some (mB vI (holdM (lk st i).held task w))) = LH (st.set i ⟨holdM (lk st i).held task w, (lk st i).row⟩) ++ L := fun L => by rw [List.set_append_left _ _ (by omega), LH_setM st hi]
  have hr0 : (lk st i).row.length = 0 := by rw [hrow]; rfl
  have e1 : ((i : Int) + 1).toNat = i + 1 := by omega
  have e2 : (i : Int) + 1 ≤ (st.length : Int) := by omega
  have ld : ((lps st.length).drop (i + 1)).length = st.length - (i + 1) := by rw [List.length_drop, lps_len]
  have lt : List.take st.length (lps st.length) = lps st.length := List.take_of_length_le (by rw [lps_len]; exact Nat.le_refl _)
  have q1 : ∀ k, 2 * i + 1 < (LH st).length + k := fun k => by omega
  have q2 : ∀ k, 2 * i + 2 < (LH st).length + k := fun k => by omega
  have q3 : ¬ 2 * i = 2 * i + 1 := by omega
  refine calls_q (calls_of Try.func73 rfl (by kernel_rfl) (by kernel_rfl) (by rw [Try.ntmps73]; exact Nat.le_of_ble_eq_true rfl) (fun hH0 hA0 => ?_)); rw [Try.results73]
  (repeat' (first | (have hs := Mk.out hs; (try simp only [decide_eq_true_eq, decide_eq_false_iff_not, Bool.not_eq_true, Bool.not_eq_false, Bool.not_true, Bool.not_false, Bool.not_eq_eq_eq_not, Bool.and_eq_true, Bool.or_eq_true, beq_iff_eq, bne_iff_ne, beq_eq_false_iff_ne, ne_eq, Classical.not_not, not_true_eq_false, not_false_eq_true, forall_const, Bool.false_eq_true, false_implies, eq_self] at hs); (try (exfalso; omega)); (try simp (disch := omega) only [go_sem, h0, g1, g2, how_eq, hh, lps_len, e1, e2, ld, lt, hs])) | (refine z_seqr rfl ?_) | (refine z_seqd 9 [.q, .q, .q, .q, .q, .q, .q, .q, .q, .q] rfl (by kernel_rfl) (by kernel_rfl) ?_) | (refine z_seqd 19 [.q, .q, .q, .q, .q, .q, .q, .b, .e, .q, .q, .e] rfl (by kernel_rfl) (by kernel_rfl) ?_) | (refine w_seq rfl fun K hK => ?_) | (refine z_reg rfl ?_) | (refine z_cond rfl ?_) | (refine w_skip rfl ?_; ((repeat ((fail_if_success (refine hK _ _ (cl_id ?_))); clear hK)); refine hK _ _ (cl_id ?_); clear hK)) | (refine w_ret rfl ?_; (try dsimp only [anorm, ablock, astay]); refine z_end ?_) | (refine z_end0 ?_) | (refine w_block rfl ?_) | (refine w_scope rfl ?_) | (refine w_label rfl ?_; ((repeat ((fail_if_success (refine hK _ _ (cl_id ?_))); clear hK)); refine hK _ _ (cl_id ?_); clear hK)) | (refine w_exit rfl ?_; (try dsimp only [anorm, ablock, astay]); (try simp only [reduceIte, ↓reduceIte, Nat.reduceEqDiff]); ((repeat ((fail_if_success (refine hK _ _ (cl_id ?_))); clear hK)); refine hK _ _ (cl_id ?_); clear hK)) | (refine jend_go [(20, [6, 7]), (19, []), (18, [6, 7]), (17, []), (16, [8, 13, 80]), (15, [5, 8, 13]), (14, [1, 5, 8, 51, 52, 53]), (13, [6, 7]), (12, [1, 5, 8, 51, 52, 53, 63]), (11, [1, 5, 8, 12, 51, 52, 53]), (10, [1, 5, 8, 51, 52, 53, 54]), (9, [1, 5, 8, 51, 52, 53]), (8, [6, 7]), (7, [0, 1, 5, 8, 43]), (6, [0, 1, 5, 8, 10]), (5, [6, 7]), (4, [0, 1, 5, 8, 27]), (3, [0, 1, 5, 8]), (2, [6, 7]), (1, [0, 1, 5, 16]), (0, [0, 1, 5])] ?_; simp only [tabAt_cons, sel_nil, sel_cons, put_at, ofl_cons, ofl_nil, T0_at, List.getElem?_cons_zero, List.getElem?_cons_succ, List.getElem?_nil, Option.getD_some, Option.getD_none, reduceIte, ↓reduceIte, Nat.reduceEqDiff]; refine jl_go ?_) | simp (disch := omega) only [go_sem, h0, g1, g2, how_eq, hh, lps_len, e1, e2, ld, lt] | (refine jc_t ?_) | (refine jc_f ?_) | (refine jx rfl ?_) | (refine jx (fun _ => rfl) ?_) | (refine jxg ⟨rfl, rfl⟩ ?_) | (refine jxh ⟨rfl, rfl⟩ ?_) | (refine jx ⟨by (first | omega | (simp; done) | (simp; omega)), rfl⟩ ?_) | (refine jx (fun _ => ⟨by (first | omega | (simp; done) | (simp; omega)), rfl⟩) ?_) | (refine jxg ⟨by (first | omega | (simp; done) | (simp; omega)), rfl, rfl⟩ ?_) | (refine jxh ⟨by (first | omega | (simp; done) | (simp; omega)), rfl, rfl⟩ ?_) | (refine jx ⟨by (first | omega | (simp; done) | (simp; omega)), by (first | omega | (simp; done) | (simp; omega)), rfl⟩ ?_) | (apply zL hm rfl; (case ok => (simp only [nbs, nb, and_true, true_and]; try omega))) | (apply zL h1 rfl; (case ok => (simp only [nbs, nb, and_true, true_and]; try omega))) | ((first | apply zc (h2) [] | apply jxc (h2) [] | apply jxgc (h2) | apply jxhc (h2) [] | apply jxcl (h2)); (case ok => simp (disch := omega) only [go_sem, cok, sgOk, bcl, implies_true, h0, g1, g2, how_eq, hh, lps_len, e1, e2, ld, lt])) | (apply zL h3 rfl; (case ok => (simp only [nbs, nb, and_true, true_and]; try omega))) | (refine And.intro (by (first | omega | (simp; done) | (simp; omega))) ?_) | (refine mc_b (fun hs => ?_) fun hs => ?_) | (refine mg_st (fun hs => ?_) fun hs => ?_) | (refine mg_sf (fun hs => ?_) fun hs => ?_) | (refine mall_s (fun hs => ?_) fun hs => ?_) | (refine malln_s (fun hs => ?_) fun hs => ?_) | (refine mpk_s (fun hs => ?_) fun hs => ?_) | ((repeat ((fail_if_success (refine hK _ _ (cl_id ?_))); clear hK)); refine hK _ _ (cl_id ?_); clear hK)))
  refine z_loop rfl (fun j => j ≤ st.length - (i + 1)) (fun j => st.length - j) (fun j => [(1, .v (.int .i64 task)), (5, .ptr (LH st).length 0), (8, .ptr (2 * i + 1) 0), (51, .sl 1 ((lps st.length).drop (i + 1))), (52, .v (.int .i64 ((st.length - (i + 1) : Nat) : Int))), (53, .v (.int .i64 (j : Int)))]) (fun j => LH st ++ [some (.obj [.v (.int .i64 (i : Int)), .v (.bool w)]), some (.obj [.v (.int .i64 0), .v (.bool false)])]) 0 (Nat.zero_le _) (cq_s ?_) ?_
  · (simp (disch := omega) only [go_sem])
  intro j hj1 K hK
  by_cases hlt : (j : Int) < ((st.length - (i + 1) : Nat) : Int)
  · have hjn : i + 1 + j < st.length := by omega
    have k1 := at_app (LH_o st hjn)
    have k2 := at_app (LH_m st hjn)
    have k3 := lps_drop hjn
    have hk := hj (i + 1 + j) (by omega) hjn
    have hK2 := fun T' H' => hK T' H' (j + 1) (by omega) (by omega)
    clear hK
    (repeat' (first | (have hs := Mk.out hs; (try simp only [decide_eq_true_eq, decide_eq_false_iff_not, Bool.not_eq_true, Bool.not_eq_false, Bool.not_true, Bool.not_false, Bool.not_eq_eq_eq_not, Bool.and_eq_true, Bool.or_eq_true, beq_iff_eq, bne_iff_ne, beq_eq_false_iff_ne, ne_eq, Classical.not_not, not_true_eq_false, not_false_eq_true, forall_const, Bool.false_eq_true, false_implies, eq_self] at hs); (try (exfalso; omega)); (try simp (disch := omega) only [go_sem, hlt, k1, k2, k3, how_eq, hk, ld, hs])) | (refine z_seqr rfl ?_) | (refine z_seqd 9 [.q, .q, .q, .q, .q, .q, .q, .q, .q, .q] rfl (by kernel_rfl) (by kernel_rfl) ?_) | (refine z_seqd 19 [.q, .q, .q, .q, .q, .q, .q, .b, .e, .q, .q, .e] rfl (by kernel_rfl) (by kernel_rfl) ?_) | (refine w_seq rfl fun K hK => ?_) | (refine z_reg rfl ?_) | (refine z_cond rfl ?_) | (refine w_skip rfl ?_; ((repeat ((fail_if_success (refine hK _ _ (cl_id ?_))); clear hK)); refine hK _ _ (cl_id ?_); clear hK)) | (refine w_ret rfl ?_; (try dsimp only [anorm, ablock, astay]); refine z_end ?_) | (refine z_end0 ?_) | (refine w_block rfl ?_) | (refine w_scope rfl ?_) | (refine w_label rfl ?_; ((repeat ((fail_if_success (refine hK _ _ (cl_id ?_))); clear hK)); refine hK _ _ (cl_id ?_); clear hK)) | (refine w_exit rfl ?_; (try dsimp only [anorm, ablock, astay]); (try simp only [reduceIte, ↓reduceIte, Nat.reduceEqDiff]); ((repeat ((fail_if_success (refine hK _ _ (cl_id ?_))); clear hK)); refine hK _ _ (cl_id ?_); clear hK)) | (refine jend_go [(20, [6, 7]), (19, []), (18, [6, 7]), (17, []), (16, [8, 13, 80]), (15, [5, 8, 13]), (14, [1, 5, 8, 51, 52, 53]), (13, [6, 7]), (12, [1, 5, 8, 51, 52, 53, 63]), (11, [1, 5, 8, 12, 51, 52, 53]), (10, [1, 5, 8, 51, 52, 53, 54]), (9, [1, 5, 8, 51, 52, 53]), (8, [6, 7]), (7, [0, 1, 5, 8, 43]), (6, [0, 1, 5, 8, 10]), (5, [6, 7]), (4, [0, 1, 5, 8, 27]), (3, [0, 1, 5, 8]), (2, [6, 7]), (1, [0, 1, 5, 16]), (0, [0, 1, 5])] ?_; simp only [tabAt_cons, sel_nil, sel_cons, put_at, ofl_cons, ofl_nil, T0_at, List.getElem?_cons_zero, List.getElem?_cons_succ, List.getElem?_nil, Option.getD_some, Option.getD_none, reduceIte, ↓reduceIte, Nat.reduceEqDiff]; refine jl_go ?_) | simp (disch := omega) only [go_sem, hlt, k1, k2, k3, how_eq, hk, ld] | (refine jc_t ?_) | (refine jc_f ?_) | (refine jx rfl ?_) | (refine jx (fun _ => rfl) ?_) | (refine jxg ⟨rfl, rfl⟩ ?_) | (refine jxh ⟨rfl, rfl⟩ ?_) | (refine jx ⟨by (first | omega | (simp; done) | (simp; omega)), rfl⟩ ?_) | (refine jx (fun _ => ⟨by (first | omega | (simp; done) | (simp; omega)), rfl⟩) ?_) | (refine jxg ⟨by (first | omega | (simp; done) | (simp; omega)), rfl, rfl⟩ ?_) | (refine jxh ⟨by (first | omega | (simp; done) | (simp; omega)), rfl, rfl⟩ ?_) | (refine jx ⟨by (first | omega | (simp; done) | (simp; omega)), by (first | omega | (simp; done) | (simp; omega)), rfl⟩ ?_) | (refine And.intro (by (first | omega | (simp; done) | (simp; omega))) ?_) | (refine mc_b (fun hs => ?_) fun hs => ?_) | (refine mg_st (fun hs => ?_) fun hs => ?_) | (refine mg_sf (fun hs => ?_) fun hs => ?_) | (refine mall_s (fun hs => ?_) fun hs => ?_) | (refine malln_s (fun hs => ?_) fun hs => ?_) | (refine mpk_s (fun hs => ?_) fun hs => ?_) | ((repeat ((fail_if_success (refine hK _ _ (cl_id ?_))); clear hK)); refine hK _ _ (cl_id ?_); clear hK)))
    refine hK2 _ _ (cq_ren [0, 1] (Nat.le_refl _) (LH_nbs st) (by decide) ?_ ?_)
    · (simp (disch := omega) only [go_sem])
    · (simp (disch := omega) only [go_sem, lpsDK, lpsDA])
      omega
  · clear hK
    generalize holdM (lk st i).held task w = m2 at *
    (repeat' (first | (have hs := Mk.out hs; (try simp only [decide_eq_true_eq, decide_eq_false_iff_not, Bool.not_eq_true, Bool.not_eq_false, Bool.not_true, Bool.not_false, Bool.not_eq_eq_eq_not, Bool.and_eq_true, Bool.or_eq_true, beq_iff_eq, bne_iff_ne, beq_eq_false_iff_ne, ne_eq, Classical.not_not, not_true_eq_false, not_false_eq_true, forall_const, Bool.false_eq_true, false_implies, eq_self] at hs); (try (exfalso; omega)); (try simp (disch := omega) only [go_sem, hlt, g1, g2, s1, s2, s3, q1, q2, q3, ld, hr0, hs])) | (refine z_seqr rfl ?_) | (refine z_seqd 9 [.q, .q, .q, .q, .q, .q, .q, .q, .q, .q] rfl (by kernel_rfl) (by kernel_rfl) ?_) | (refine z_seqd 19 [.q, .q, .q, .q, .q, .q, .q, .b, .e, .q, .q, .e] rfl (by kernel_rfl) (by kernel_rfl) ?_) | (refine w_seq rfl fun K hK => ?_) | (refine z_reg rfl ?_) | (refine z_cond rfl ?_) | (refine w_skip rfl ?_; ((repeat ((fail_if_success (refine hK _ _ (cl_id ?_))); clear hK)); refine hK _ _ (cl_id ?_); clear hK)) | (refine w_ret rfl ?_; (try dsimp only [anorm, ablock, astay]); refine z_end ?_) | (refine z_end0 ?_) | (refine w_block rfl ?_) | (refine w_scope rfl ?_) | (refine w_label rfl ?_; ((repeat ((fail_if_success (refine hK _ _ (cl_id ?_))); clear hK)); refine hK _ _ (cl_id ?_); clear hK)) | (refine w_exit rfl ?_; (try dsimp only [anorm, ablock, astay]); (try simp only [reduceIte, ↓reduceIte, Nat.reduceEqDiff]); ((repeat ((fail_if_success (refine hK _ _ (cl_id ?_))); clear hK)); refine hK _ _ (cl_id ?_); clear hK)) | (refine jend_go [(20, [6, 7]), (19, []), (18, [6, 7]), (17, []), (16, [8, 13, 80]), (15, [5, 8, 13]), (14, [1, 5, 8, 51, 52, 53]), (13, [6, 7]), (12, [1, 5, 8, 51, 52, 53, 63]), (11, [1, 5, 8, 12, 51, 52, 53]), (10, [1, 5, 8, 51, 52, 53, 54]), (9, [1, 5, 8, 51, 52, 53]), (8, [6, 7]), (7, [0, 1, 5, 8, 43]), (6, [0, 1, 5, 8, 10]), (5, [6, 7]), (4, [0, 1, 5, 8, 27]), (3, [0, 1, 5, 8]), (2, [6, 7]), (1, [0, 1, 5, 16]), (0, [0, 1, 5])] ?_; simp only [tabAt_cons, sel_nil, sel_cons, put_at, ofl_cons, ofl_nil, T0_at, List.getElem?_cons_zero, List.getElem?_cons_succ, List.getElem?_nil, Option.getD_some, Option.getD_none, reduceIte, ↓reduceIte, Nat.reduceEqDiff]; refine jl_go ?_) | simp (disch := omega) only [go_sem, hlt, g1, g2, s1, s2, s3, q1, q2, q3, ld, hr0] | (refine jc_t ?_) | (refine jc_f ?_) | (refine jx rfl ?_) | (refine jx (fun _ => rfl) ?_) | (refine jxg ⟨rfl, rfl⟩ ?_) | (refine jxh ⟨rfl, rfl⟩ ?_) | (refine jx ⟨by (first | omega | (simp; done) | (simp; omega)), rfl⟩ ?_) | (refine jx (fun _ => ⟨by (first | omega | (simp; done) | (simp; omega)), rfl⟩) ?_) | (refine jxg ⟨by (first | omega | (simp; done) | (simp; omega)), rfl, rfl⟩ ?_) | (refine jxh ⟨by (first | omega | (simp; done) | (simp; omega)), rfl, rfl⟩ ?_) | (refine jx ⟨by (first | omega | (simp; done) | (simp; omega)), by (first | omega | (simp; done) | (simp; omega)), rfl⟩ ?_) | ((first | apply zc (h4) [2 * i + 1, 2 * i + 2] | apply jxc (h4) [2 * i + 1, 2 * i + 2] | apply jxgc (h4) | apply jxhc (h4) [2 * i + 1, 2 * i + 2] | apply jxgs (h4) [2 * i + 1, 2 * i + 2]); (case ok => simp (disch := omega) only [go_sem, cok, sgOk, bcl, implies_true, hlt, g1, g2, s1, s2, s3, q1, q2, q3, ld, hr0])) | ((first | apply zc (h5) [2 * i + 1, 2 * i + 2] | apply jxc (h5) [2 * i + 1, 2 * i + 2] | apply jxgc (h5) | apply jxhc (h5) [2 * i + 1, 2 * i + 2] | apply jxgs (h5) [2 * i + 1, 2 * i + 2]); (case ok => simp (disch := omega) only [go_sem, cok, sgOk, bcl, implies_true, hlt, g1, g2, s1, s2, s3, q1, q2, q3, ld, hr0])) | (refine And.intro (by (first | omega | (simp; done) | (simp; omega))) ?_) | (refine mc_b (fun hs => ?_) fun hs => ?_) | (refine mg_st (fun hs => ?_) fun hs => ?_) | (refine mg_sf (fun hs => ?_) fun hs => ?_) | (refine mall_s (fun hs => ?_) fun hs => ?_) | (refine malln_s (fun hs => ?_) fun hs => ?_) | (refine mpk_s (fun hs => ?_) fun hs => ?_) | ((repeat ((fail_if_success (refine hK _ _ (cl_id ?_))); clear hK)); refine hK _ _ (cl_id ?_); clear hK)))
    exact end_L 0 (by rw [LH_len, LH_len, List.length_set]; exact Nat.le_refl _) ⟨rfl, rfl⟩ ⟨⟨trivial, trivial, trivial⟩, Wk.refl _⟩
theorem okF_lkV {N d : Nat} {L : Heap} : ∀ (st : List Lk) (j : Nat), 2 * (j + st.length) + 1 ≤ N → okF N (d + 1) L (lkV j st) (lkV j st)
  | [], _, _ => trivial
  | k :: st, j, h => by
    simp only [List.length_cons] at h
    unfold lkV okF
    refine ⟨⟨⟨by unfold nb; omega, of_eq_true (cels_nbss _), trivial⟩, ?_⟩, ?_⟩
    · show wks [frz (d + 1) L N (.mp (2 * j + 2)), frz (d + 1) L N (.sl 2 (cels k.row))] _
      exact ⟨Wk.refl _, Wk.refl _, trivial⟩
    · unfold okF
      exact ⟨⟨of_eq_true nbB_mI, rfl⟩, okF_lkV st (j + 1) (by omega)⟩
theorem okF_LH {d : Nat} {L : Heap} (st : List Lk) : okF (LH st).length (d + 1) L (LH st) (LH st) := by
  have hl := LH_len st
  unfold LH at hl ⊢
  unfold okF
  refine ⟨⟨⟨?_, trivial⟩, ⟨Wk.refl _, trivial⟩⟩, okF_lkV st 0 (by omega)⟩
  unfold nb
  exact lps_nb (by omega)
/-- The row of those who wait, no more written, told in its lock. -/
theorem cq_row {n : Nat} {T : Nat → AV} {tl : List (Nat × AV)} {st : List Lk} {i q : Nat} {L : Heap} {rows : List (Int × Bool)} (hi : i < st.length) (hn : n ≤ (LH st).length) (hq : L[q]? = some (some (.row true 2 (cels rows)))) (hT : okD (LH st).length 1 L T tl) :
    Cq E0 n T ((LH st).set (2 * i + 1) (some (.obj [.mp (2 * i + 2), .hs ((LH st).length + q) 2 0 rows.length])) ++ L) (ofl tl) (LH (st.set i ⟨(lk st i).held, rows⟩)) := by
  have e : LH (st.set i ⟨(lk st i).held, rows⟩) = (LH st).set (2 * i + 1) (some (.obj [.mp (2 * i + 2), .sl 2 (cels rows)])) := by
    rw [← LH_set]
    exact set_same (by rw [List.getElem?_set_ne (by omega)]; exact LH_m st hi)
  rw [e]
  have hl := LH_len st
  have hls : ((LH st).set (2 * i + 1) (some (.obj [.mp (2 * i + 2), .hs ((LH st).length + q) 2 0 rows.length]))).length = (LH st).length := List.length_set
  refine cq_shut 1 (by rw [hls]; exact hn) ?_ (by rw [hls]; exact hT)
  rw [hls]
  refine okF_set (B := .obj [.mp (2 * i + 2), .hs ((LH st).length + q) 2 0 rows.length]) (B' := .obj [.mp (2 * i + 2), .sl 2 (cels rows)]) ⟨by unfold nb; omega, of_eq_true (cels_nbss _), trivial⟩ ?_ (okF_LH st)
  show wks [frz 1 L _ (.mp (2 * i + 2)), frz 1 L _ (.hs ((LH st).length + q) 2 0 rows.length)] _
  refine ⟨Wk.refl _, Wk.of (frzC (by omega) (by rw [Nat.add_sub_cancel_left]; exact hq) rfl), trivial⟩
theorem lask4_am (st : List Lk) (task : Int) (i : Nat) (w : Bool) (hi : i < st.length) (ht : isT task) (hl : st.length ≤ 1000) (hr : ∀ i, (lk st i).row.length ≤ 1000000) (hw : waits st task = none) (hh : how (lk st i).held task = 0) (hj : ∀ j, i < j → j < st.length → how (lk st j).held task = 0) (hrow : (lk st i).row ≠ [] ∨ fitsB (lk st i).held w = false) : ACalls E0 73 [.ptr 0 0, .v (.int .i64 task), .agg [.v (.int .i64 (i : Int)), .v (.bool w)]] (LH st) (fun r H' => r = .tup [.v (.bool false), .v (.int .i64 0)] ∧ H' = LH (st.set i ⟨(lk st i).held, (lk st i).row ++ [(task, w)]⟩)) := by
  have hm := lmade_am st
  rw [decide_eq_true (by omega : 0 < st.length)] at hm
  have h1 := lat_am st i hi
  have h2 := lisTask_am task
  rw [decide_eq_true (show 0 ≤ task ∧ task < 4096 from ht)] at h2
  have h3 := lwaits_am st task hl hr
  rw [hw] at h3
  simp only [needA, Option.isSome_none] at h3
  have h4 := lfits_am (lk st i).held (lk st i).row w
  have h5 := lclone_hot (lk st i).row (by have := hr i; omega)
  have h0 := at_app (LH_0 st)
  have g1 := at_app (LH_o st hi)
  have g2 := at_app (LH_m st hi)
  have l0 := LH_len st
  have s1 : ∀ L : Heap, (LH st ++ L).set (2 * i + 1) (some (.obj [.mp (2 * i + 2), .sl 2 (cels (lk st i).row)])) = LH st ++ L := fun L => set_same (g1 L)
  have s2 : ∀ L : Heap, (LH st ++ L).set (2 * i + 2) (some (mB vI (lk st i).held)) = LH st ++ L := fun L => set_same (g2 L)
  have s4 : ∀ (L : Heap) (N k : Nat), (LH st ++ L).set (2 * i + 1) (some (.obj [.mp (2 * i + 2), .hs N 2 0 k])) = (LH st).set (2 * i + 1) (some (.obj [.mp (2 * i + 2), .hs N 2 0 k])) ++ L := fun L N k => List.set_append_left _ _ (by omega)
  have e1 : ((i : Int) + 1).toNat = i + 1 := by omega
  have e2 : (i : Int) + 1 ≤ (st.length : Int) := by omega
  have ld : ((lps st.length).drop (i + 1)).length = st.length - (i + 1) := by rw [List.length_drop, lps_len]
  have lt : List.take st.length (lps st.length) = lps st.length := List.take_of_length_le (by rw [lps_len]; exact Nat.le_refl _)
  have q1 : ∀ k, 2 * i + 1 < (LH st).length + k := fun k => by omega
  have q2 : ∀ k, 2 * i + 2 < (LH st).length + k := fun k => by omega
  have q3 : ¬ 2 * i = 2 * i + 1 := by omega
  have tk : ∀ l : List (Int × Bool), List.take l.length l = l := fun l => List.take_length
  have hri := hr i
  refine calls_q (calls_of Try.func73 rfl (by kernel_rfl) (by kernel_rfl) (by rw [Try.ntmps73]; exact Nat.le_of_ble_eq_true rfl) (fun hH0 hA0 => ?_)); rw [Try.results73]
  (repeat' (first | (have hs := Mk.out hs; (try simp only [decide_eq_true_eq, decide_eq_false_iff_not, Bool.not_eq_true, Bool.not_eq_false, Bool.not_true, Bool.not_false, Bool.not_eq_eq_eq_not, Bool.and_eq_true, Bool.or_eq_true, beq_iff_eq, bne_iff_ne, beq_eq_false_iff_ne, ne_eq, Classical.not_not, not_true_eq_false, not_false_eq_true, forall_const, Bool.false_eq_true, false_implies, eq_self] at hs); (try (exfalso; omega)); (try simp (disch := omega) only [go_sem, h0, g1, g2, how_eq, hh, lps_len, e1, e2, ld, lt, hs])) | (refine z_seqr rfl ?_) | (refine z_seqd 9 [.q, .q, .q, .q, .q, .q, .q, .q, .q, .q] rfl (by kernel_rfl) (by kernel_rfl) ?_) | (refine z_seqd 19 [.q, .q, .q, .q, .q, .g, .l, .b, .e, .q, .q, .e] rfl (by kernel_rfl) (by kernel_rfl) ?_) | (refine w_seq rfl fun K hK => ?_) | (refine z_reg rfl ?_) | (refine z_cond rfl ?_) | (refine w_skip rfl ?_; ((repeat ((fail_if_success (refine hK _ _ (cl_id ?_))); clear hK)); refine hK _ _ (cl_id ?_); clear hK)) | (refine w_ret rfl ?_; (try dsimp only [anorm, ablock, astay]); refine z_end ?_) | (refine z_end0 ?_) | (refine w_block rfl ?_) | (refine w_scope rfl ?_) | (refine w_label rfl ?_; ((repeat ((fail_if_success (refine hK _ _ (cl_id ?_))); clear hK)); refine hK _ _ (cl_id ?_); clear hK)) | (refine w_exit rfl ?_; (try dsimp only [anorm, ablock, astay]); (try simp only [reduceIte, ↓reduceIte, Nat.reduceEqDiff]); ((repeat ((fail_if_success (refine hK _ _ (cl_id ?_))); clear hK)); refine hK _ _ (cl_id ?_); clear hK)) | (refine jend_go [(20, [6, 7]), (19, []), (18, [6, 7]), (17, []), (16, [8, 13, 80]), (15, [5, 8, 13]), (14, [1, 5, 8, 51, 52, 53]), (13, [6, 7]), (12, [1, 5, 8, 51, 52, 53, 63]), (11, [1, 5, 8, 12, 51, 52, 53]), (10, [1, 5, 8, 51, 52, 53, 54]), (9, [1, 5, 8, 51, 52, 53]), (8, [6, 7]), (7, [0, 1, 5, 8, 43]), (6, [0, 1, 5, 8, 10]), (5, [6, 7]), (4, [0, 1, 5, 8, 27]), (3, [0, 1, 5, 8]), (2, [6, 7]), (1, [0, 1, 5, 16]), (0, [0, 1, 5])] ?_; simp only [tabAt_cons, sel_nil, sel_cons, put_at, ofl_cons, ofl_nil, T0_at, List.getElem?_cons_zero, List.getElem?_cons_succ, List.getElem?_nil, Option.getD_some, Option.getD_none, reduceIte, ↓reduceIte, Nat.reduceEqDiff]; refine jl_go ?_) | simp (disch := omega) only [go_sem, h0, g1, g2, how_eq, hh, lps_len, e1, e2, ld, lt] | (refine jc_t ?_) | (refine jc_f ?_) | (refine jx rfl ?_) | (refine jx (fun _ => rfl) ?_) | (refine jxg ⟨rfl, rfl⟩ ?_) | (refine jxh ⟨rfl, rfl⟩ ?_) | (refine jx ⟨by (first | omega | (simp; done) | (simp; omega)), rfl⟩ ?_) | (refine jx (fun _ => ⟨by (first | omega | (simp; done) | (simp; omega)), rfl⟩) ?_) | (refine jxg ⟨by (first | omega | (simp; done) | (simp; omega)), rfl, rfl⟩ ?_) | (refine jxh ⟨by (first | omega | (simp; done) | (simp; omega)), rfl, rfl⟩ ?_) | (refine jx ⟨by (first | omega | (simp; done) | (simp; omega)), by (first | omega | (simp; done) | (simp; omega)), rfl⟩ ?_) | (apply zL hm rfl; (case ok => (simp only [nbs, nb, and_true, true_and]; try omega))) | (apply zL h1 rfl; (case ok => (simp only [nbs, nb, and_true, true_and]; try omega))) | ((first | apply zc (h2) [] | apply jxc (h2) [] | apply jxgc (h2) | apply jxhc (h2) [] | apply jxcl (h2)); (case ok => simp (disch := omega) only [go_sem, cok, sgOk, bcl, implies_true, h0, g1, g2, how_eq, hh, lps_len, e1, e2, ld, lt])) | (apply zL h3 rfl; (case ok => (simp only [nbs, nb, and_true, true_and]; try omega))) | (refine And.intro (by (first | omega | (simp; done) | (simp; omega))) ?_) | (refine mc_b (fun hs => ?_) fun hs => ?_) | (refine mg_st (fun hs => ?_) fun hs => ?_) | (refine mg_sf (fun hs => ?_) fun hs => ?_) | (refine mall_s (fun hs => ?_) fun hs => ?_) | (refine malln_s (fun hs => ?_) fun hs => ?_) | (refine mpk_s (fun hs => ?_) fun hs => ?_) | ((repeat ((fail_if_success (refine hK _ _ (cl_id ?_))); clear hK)); refine hK _ _ (cl_id ?_); clear hK)))
  refine z_loop rfl (fun j => j ≤ st.length - (i + 1)) (fun j => st.length - j) (fun j => [(1, .v (.int .i64 task)), (5, .ptr (LH st).length 0), (8, .ptr (2 * i + 1) 0), (51, .sl 1 ((lps st.length).drop (i + 1))), (52, .v (.int .i64 ((st.length - (i + 1) : Nat) : Int))), (53, .v (.int .i64 (j : Int)))]) (fun j => LH st ++ [some (.obj [.v (.int .i64 (i : Int)), .v (.bool w)]), some (.obj [.v (.int .i64 0), .v (.bool false)])]) 0 (Nat.zero_le _) (cq_s ?_) ?_
  · (simp (disch := omega) only [go_sem])
  intro j hj1 K hK
  by_cases hlt : (j : Int) < ((st.length - (i + 1) : Nat) : Int)
  · have hjn : i + 1 + j < st.length := by omega
    have k1 := at_app (LH_o st hjn)
    have k2 := at_app (LH_m st hjn)
    have k3 := lps_drop hjn
    have hk := hj (i + 1 + j) (by omega) hjn
    have hK2 := fun T' H' => hK T' H' (j + 1) (by omega) (by omega)
    clear hK
    (repeat' (first | (have hs := Mk.out hs; (try simp only [decide_eq_true_eq, decide_eq_false_iff_not, Bool.not_eq_true, Bool.not_eq_false, Bool.not_true, Bool.not_false, Bool.not_eq_eq_eq_not, Bool.and_eq_true, Bool.or_eq_true, beq_iff_eq, bne_iff_ne, beq_eq_false_iff_ne, ne_eq, Classical.not_not, not_true_eq_false, not_false_eq_true, forall_const, Bool.false_eq_true, false_implies, eq_self] at hs); (try (exfalso; omega)); (try simp (disch := omega) only [go_sem, hlt, k1, k2, k3, how_eq, hk, ld, hs])) | (refine z_seqr rfl ?_) | (refine z_seqd 9 [.q, .q, .q, .q, .q, .q, .q, .q, .q, .q] rfl (by kernel_rfl) (by kernel_rfl) ?_) | (refine z_seqd 19 [.q, .q, .q, .q, .q, .g, .l, .b, .e, .q, .q, .e] rfl (by kernel_rfl) (by kernel_rfl) ?_) | (refine w_seq rfl fun K hK => ?_) | (refine z_reg rfl ?_) | (refine z_cond rfl ?_) | (refine w_skip rfl ?_; ((repeat ((fail_if_success (refine hK _ _ (cl_id ?_))); clear hK)); refine hK _ _ (cl_id ?_); clear hK)) | (refine w_ret rfl ?_; (try dsimp only [anorm, ablock, astay]); refine z_end ?_) | (refine z_end0 ?_) | (refine w_block rfl ?_) | (refine w_scope rfl ?_) | (refine w_label rfl ?_; ((repeat ((fail_if_success (refine hK _ _ (cl_id ?_))); clear hK)); refine hK _ _ (cl_id ?_); clear hK)) | (refine w_exit rfl ?_; (try dsimp only [anorm, ablock, astay]); (try simp only [reduceIte, ↓reduceIte, Nat.reduceEqDiff]); ((repeat ((fail_if_success (refine hK _ _ (cl_id ?_))); clear hK)); refine hK _ _ (cl_id ?_); clear hK)) | (refine jend_go [(20, [6, 7]), (19, []), (18, [6, 7]), (17, []), (16, [8, 13, 80]), (15, [5, 8, 13]), (14, [1, 5, 8, 51, 52, 53]), (13, [6, 7]), (12, [1, 5, 8, 51, 52, 53, 63]), (11, [1, 5, 8, 12, 51, 52, 53]), (10, [1, 5, 8, 51, 52, 53, 54]), (9, [1, 5, 8, 51, 52, 53]), (8, [6, 7]), (7, [0, 1, 5, 8, 43]), (6, [0, 1, 5, 8, 10]), (5, [6, 7]), (4, [0, 1, 5, 8, 27]), (3, [0, 1, 5, 8]), (2, [6, 7]), (1, [0, 1, 5, 16]), (0, [0, 1, 5])] ?_; simp only [tabAt_cons, sel_nil, sel_cons, put_at, ofl_cons, ofl_nil, T0_at, List.getElem?_cons_zero, List.getElem?_cons_succ, List.getElem?_nil, Option.getD_some, Option.getD_none, reduceIte, ↓reduceIte, Nat.reduceEqDiff]; refine jl_go ?_) | simp (disch := omega) only [go_sem, hlt, k1, k2, k3, how_eq, hk, ld] | (refine jc_t ?_) | (refine jc_f ?_) | (refine jx rfl ?_) | (refine jx (fun _ => rfl) ?_) | (refine jxg ⟨rfl, rfl⟩ ?_) | (refine jxh ⟨rfl, rfl⟩ ?_) | (refine jx ⟨by (first | omega | (simp; done) | (simp; omega)), rfl⟩ ?_) | (refine jx (fun _ => ⟨by (first | omega | (simp; done) | (simp; omega)), rfl⟩) ?_) | (refine jxg ⟨by (first | omega | (simp; done) | (simp; omega)), rfl, rfl⟩ ?_) | (refine jxh ⟨by (first | omega | (simp; done) | (simp; omega)), rfl, rfl⟩ ?_) | (refine jx ⟨by (first | omega | (simp; done) | (simp; omega)), by (first | omega | (simp; done) | (simp; omega)), rfl⟩ ?_) | (refine And.intro (by (first | omega | (simp; done) | (simp; omega))) ?_) | (refine mc_b (fun hs => ?_) fun hs => ?_) | (refine mg_st (fun hs => ?_) fun hs => ?_) | (refine mg_sf (fun hs => ?_) fun hs => ?_) | (refine mall_s (fun hs => ?_) fun hs => ?_) | (refine malln_s (fun hs => ?_) fun hs => ?_) | (refine mpk_s (fun hs => ?_) fun hs => ?_) | ((repeat ((fail_if_success (refine hK _ _ (cl_id ?_))); clear hK)); refine hK _ _ (cl_id ?_); clear hK)))
    refine hK2 _ _ (cq_ren [0, 1] (Nat.le_refl _) (LH_nbs st) (by decide) ?_ ?_)
    · (simp (disch := omega) only [go_sem])
    · (simp (disch := omega) only [go_sem, lpsDK, lpsDA])
      omega
  · clear hK
    by_cases hr0 : (lk st i).row = []
    · have hf : fitsB (lk st i).held w = false := by
        rcases hrow with h | h
        · exact absurd hr0 h
        · exact h
      rw [hf] at h4
      have hr1 : (lk st i).row.length = 0 := by rw [hr0]; rfl
      (repeat' (first | (have hs := Mk.out hs; (try simp only [decide_eq_true_eq, decide_eq_false_iff_not, Bool.not_eq_true, Bool.not_eq_false, Bool.not_true, Bool.not_false, Bool.not_eq_eq_eq_not, Bool.and_eq_true, Bool.or_eq_true, beq_iff_eq, bne_iff_ne, beq_eq_false_iff_ne, ne_eq, Classical.not_not, not_true_eq_false, not_false_eq_true, forall_const, Bool.false_eq_true, false_implies, eq_self] at hs); (try (exfalso; omega)); (try simp (disch := omega) only [go_sem, hlt, g1, g2, s1, s2, s4, q1, q2, q3, ld, hr1, tk, hs])) | (refine z_seqr rfl ?_) | (refine z_seqd 9 [.q, .q, .q, .q, .q, .q, .q, .q, .q, .q] rfl (by kernel_rfl) (by kernel_rfl) ?_) | (refine z_seqd 19 [.q, .q, .q, .q, .q, .g, .l, .b, .e, .q, .q, .e] rfl (by kernel_rfl) (by kernel_rfl) ?_) | (refine w_seq rfl fun K hK => ?_) | (refine z_reg rfl ?_) | (refine z_cond rfl ?_) | (refine w_skip rfl ?_; ((repeat ((fail_if_success (refine hK _ _ (cl_id ?_))); clear hK)); refine hK _ _ (cl_id ?_); clear hK)) | (refine w_ret rfl ?_; (try dsimp only [anorm, ablock, astay]); refine z_end ?_) | (refine z_end0 ?_) | (refine w_block rfl ?_) | (refine w_scope rfl ?_) | (refine w_label rfl ?_; ((repeat ((fail_if_success (refine hK _ _ (cl_id ?_))); clear hK)); refine hK _ _ (cl_id ?_); clear hK)) | (refine w_exit rfl ?_; (try dsimp only [anorm, ablock, astay]); (try simp only [reduceIte, ↓reduceIte, Nat.reduceEqDiff]); ((repeat ((fail_if_success (refine hK _ _ (cl_id ?_))); clear hK)); refine hK _ _ (cl_id ?_); clear hK)) | (refine jend_go [(20, [6, 7]), (19, []), (18, [6, 7]), (17, []), (16, [8, 13, 80]), (15, [5, 8, 13]), (14, [1, 5, 8, 51, 52, 53]), (13, [6, 7]), (12, [1, 5, 8, 51, 52, 53, 63]), (11, [1, 5, 8, 12, 51, 52, 53]), (10, [1, 5, 8, 51, 52, 53, 54]), (9, [1, 5, 8, 51, 52, 53]), (8, [6, 7]), (7, [0, 1, 5, 8, 43]), (6, [0, 1, 5, 8, 10]), (5, [6, 7]), (4, [0, 1, 5, 8, 27]), (3, [0, 1, 5, 8]), (2, [6, 7]), (1, [0, 1, 5, 16]), (0, [0, 1, 5])] ?_; simp only [tabAt_cons, sel_nil, sel_cons, put_at, ofl_cons, ofl_nil, T0_at, List.getElem?_cons_zero, List.getElem?_cons_succ, List.getElem?_nil, Option.getD_some, Option.getD_none, reduceIte, ↓reduceIte, Nat.reduceEqDiff]; refine jl_go ?_) | simp (disch := omega) only [go_sem, hlt, g1, g2, s1, s2, s4, q1, q2, q3, ld, hr1, tk] | (refine jc_t ?_) | (refine jc_f ?_) | (refine jx rfl ?_) | (refine jx (fun _ => rfl) ?_) | (refine jxg ⟨rfl, rfl⟩ ?_) | (refine jxh ⟨rfl, rfl⟩ ?_) | (refine jx ⟨by (first | omega | (simp; done) | (simp; omega)), rfl⟩ ?_) | (refine jx (fun _ => ⟨by (first | omega | (simp; done) | (simp; omega)), rfl⟩) ?_) | (refine jxg ⟨by (first | omega | (simp; done) | (simp; omega)), rfl, rfl⟩ ?_) | (refine jxh ⟨by (first | omega | (simp; done) | (simp; omega)), rfl, rfl⟩ ?_) | (refine jx ⟨by (first | omega | (simp; done) | (simp; omega)), by (first | omega | (simp; done) | (simp; omega)), rfl⟩ ?_) | ((first | apply zc (h4) [2 * i + 1, 2 * i + 2] | apply jxc (h4) [2 * i + 1, 2 * i + 2] | apply jxgc (h4) | apply jxhc (h4) [2 * i + 1, 2 * i + 2] | apply jxgs (h4) [2 * i + 1, 2 * i + 2]); (case ok => simp (disch := omega) only [go_sem, cok, sgOk, bcl, implies_true, hlt, g1, g2, s1, s2, s4, q1, q2, q3, ld, hr1, tk])) | ((first | apply zc (h5) [] | apply jxc (h5) [] | apply jxgc (h5) | apply jxhc (h5) [] | apply jxcl (h5)); (case ok => simp (disch := omega) only [go_sem, cok, sgOk, bcl, implies_true, hlt, g1, g2, s1, s2, s4, q1, q2, q3, ld, hr1, tk])) | (refine And.intro (by (first | omega | (simp; done) | (simp; omega))) ?_) | (refine mc_b (fun hs => ?_) fun hs => ?_) | (refine mg_st (fun hs => ?_) fun hs => ?_) | (refine mg_sf (fun hs => ?_) fun hs => ?_) | (refine mall_s (fun hs => ?_) fun hs => ?_) | (refine malln_s (fun hs => ?_) fun hs => ?_) | (refine mpk_s (fun hs => ?_) fun hs => ?_) | ((repeat ((fail_if_success (refine hK _ _ (cl_id ?_))); clear hK)); refine hK _ _ (cl_id ?_); clear hK)))
      have hq := fun T tl => cq_row (n := (LH st).length) (T := T) (tl := tl) (q := 4) (L := [some (Blk.obj [.v (.int .i64 (i : Int)), .v (.bool w)]), some (Blk.obj [.v (.int .i64 0), .v (.bool false)]), some (Blk.obj [.v (.int .i64 task), .v (.bool w)]), none, some (Blk.row true 2 (cels [(task, w)]))]) (rows := [(task, w)]) hi (Nat.le_refl _) rfl
      rw [hr0]
      exact ⟨_, _, hq _ [(0, .tup [.v (.bool false), .v (.int .i64 0)])] ⟨⟨⟨trivial, trivial, trivial⟩, Wk.refl _⟩, trivial⟩, rfl, rfl⟩
    · have hr1 : ¬ ((lk st i).row.length : Int) = 0 := by
        cases hq : (lk st i).row with
        | nil => exact absurd hq hr0
        | cons a l => simp; omega
      clear h4
      (repeat' (first | (have hs := Mk.out hs; (try simp only [decide_eq_true_eq, decide_eq_false_iff_not, Bool.not_eq_true, Bool.not_eq_false, Bool.not_true, Bool.not_false, Bool.not_eq_eq_eq_not, Bool.and_eq_true, Bool.or_eq_true, beq_iff_eq, bne_iff_ne, beq_eq_false_iff_ne, ne_eq, Classical.not_not, not_true_eq_false, not_false_eq_true, forall_const, Bool.false_eq_true, false_implies, eq_self] at hs); (try (exfalso; omega)); (try simp (disch := omega) only [go_sem, hlt, g1, g2, s1, s2, s4, q1, q2, q3, ld, hr1, tk, hs])) | (refine z_seqr rfl ?_) | (refine z_seqd 9 [.q, .q, .q, .q, .q, .q, .q, .q, .q, .q] rfl (by kernel_rfl) (by kernel_rfl) ?_) | (refine z_seqd 19 [.q, .q, .q, .q, .q, .g, .l, .b, .e, .q, .q, .e] rfl (by kernel_rfl) (by kernel_rfl) ?_) | (refine w_seq rfl fun K hK => ?_) | (refine z_reg rfl ?_) | (refine z_cond rfl ?_) | (refine w_skip rfl ?_; ((repeat ((fail_if_success (refine hK _ _ (cl_id ?_))); clear hK)); refine hK _ _ (cl_id ?_); clear hK)) | (refine w_ret rfl ?_; (try dsimp only [anorm, ablock, astay]); refine z_end ?_) | (refine z_end0 ?_) | (refine w_block rfl ?_) | (refine w_scope rfl ?_) | (refine w_label rfl ?_; ((repeat ((fail_if_success (refine hK _ _ (cl_id ?_))); clear hK)); refine hK _ _ (cl_id ?_); clear hK)) | (refine w_exit rfl ?_; (try dsimp only [anorm, ablock, astay]); (try simp only [reduceIte, ↓reduceIte, Nat.reduceEqDiff]); ((repeat ((fail_if_success (refine hK _ _ (cl_id ?_))); clear hK)); refine hK _ _ (cl_id ?_); clear hK)) | (refine jend_go [(20, [6, 7]), (19, []), (18, [6, 7]), (17, []), (16, [8, 13, 80]), (15, [5, 8, 13]), (14, [1, 5, 8, 51, 52, 53]), (13, [6, 7]), (12, [1, 5, 8, 51, 52, 53, 63]), (11, [1, 5, 8, 12, 51, 52, 53]), (10, [1, 5, 8, 51, 52, 53, 54]), (9, [1, 5, 8, 51, 52, 53]), (8, [6, 7]), (7, [0, 1, 5, 8, 43]), (6, [0, 1, 5, 8, 10]), (5, [6, 7]), (4, [0, 1, 5, 8, 27]), (3, [0, 1, 5, 8]), (2, [6, 7]), (1, [0, 1, 5, 16]), (0, [0, 1, 5])] ?_; simp only [tabAt_cons, sel_nil, sel_cons, put_at, ofl_cons, ofl_nil, T0_at, List.getElem?_cons_zero, List.getElem?_cons_succ, List.getElem?_nil, Option.getD_some, Option.getD_none, reduceIte, ↓reduceIte, Nat.reduceEqDiff]; refine jl_go ?_) | simp (disch := omega) only [go_sem, hlt, g1, g2, s1, s2, s4, q1, q2, q3, ld, hr1, tk] | (refine jc_t ?_) | (refine jc_f ?_) | (refine jx rfl ?_) | (refine jx (fun _ => rfl) ?_) | (refine jxg ⟨rfl, rfl⟩ ?_) | (refine jxh ⟨rfl, rfl⟩ ?_) | (refine jx ⟨by (first | omega | (simp; done) | (simp; omega)), rfl⟩ ?_) | (refine jx (fun _ => ⟨by (first | omega | (simp; done) | (simp; omega)), rfl⟩) ?_) | (refine jxg ⟨by (first | omega | (simp; done) | (simp; omega)), rfl, rfl⟩ ?_) | (refine jxh ⟨by (first | omega | (simp; done) | (simp; omega)), rfl, rfl⟩ ?_) | (refine jx ⟨by (first | omega | (simp; done) | (simp; omega)), by (first | omega | (simp; done) | (simp; omega)), rfl⟩ ?_) | ((first | apply zc (h5) [] | apply jxc (h5) [] | apply jxgc (h5) | apply jxhc (h5) [] | apply jxcl (h5)); (case ok => simp (disch := omega) only [go_sem, cok, sgOk, bcl, implies_true, hlt, g1, g2, s1, s2, s4, q1, q2, q3, ld, hr1, tk])) | (refine And.intro (by (first | omega | (simp; done) | (simp; omega))) ?_) | (refine mc_b (fun hs => ?_) fun hs => ?_) | (refine mg_st (fun hs => ?_) fun hs => ?_) | (refine mg_sf (fun hs => ?_) fun hs => ?_) | (refine mall_s (fun hs => ?_) fun hs => ?_) | (refine malln_s (fun hs => ?_) fun hs => ?_) | (refine mpk_s (fun hs => ?_) fun hs => ?_) | ((repeat ((fail_if_success (refine hK _ _ (cl_id ?_))); clear hK)); refine hK _ _ (cl_id ?_); clear hK)))
      have hq := fun T tl => cq_row (n := (LH st).length) (T := T) (tl := tl) (q := 4) (L := [some (Blk.obj [.v (.int .i64 (i : Int)), .v (.bool w)]), some (Blk.obj [.v (.int .i64 0), .v (.bool false)]), some (Blk.obj [.v (.int .i64 task), .v (.bool w)]), none, some (Blk.row true 2 (cels ((lk st i).row ++ [(task, w)])))]) (rows := (lk st i).row ++ [(task, w)]) hi (Nat.le_refl _) rfl
      rw [show ((lk st i).row ++ [(task, w)]).length = (lk st i).row.length + 1 by simp] at hq
      exact ⟨_, _, hq _ [(0, .tup [.v (.bool false), .v (.int .i64 0)])] ⟨⟨⟨trivial, trivial, trivial⟩, Wk.refl _⟩, trivial⟩, rfl, rfl⟩
end Go.Proofs.Ytjfoicebdjonfaa
