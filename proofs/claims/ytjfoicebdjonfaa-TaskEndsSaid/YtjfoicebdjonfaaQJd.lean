/- Law 24's doing: which jobs can go on, and a job's next step, by the machine. No condition but bounds. -/
import Derived.Test.YtjfoicebdjonfaaQJb
import Derived.Test.YtjfoicebdjonfaaQJc
import Derived.Test.YtjfoicebdjonfaaQb2
import Derived.Test.YtjfoicebdjonfaaQgs
set_option linter.unusedSectionVars false
set_option linter.unusedVariables false
set_option linter.unusedSimpArgs false
set_option linter.deprecated false
namespace Go.Proofs.Ytjfoicebdjonfaa
open Go.RowKit Go.Cx Go.Am Go.Tsk
set_option maxRecDepth 8000
set_option maxHeartbeats 2000000
attribute [local irreducible] ACalls jcall jsame jex jexg jexh jguard jconv jload jpart jstore jbin jslice jidxA jidx jfield jfieldA jbuild jbuildS jmake jappend jlen jpick jres jcnd jcopy jcap jborn jdraw jops jop jstr jstrc jlive jend jlenM jmmake jlook jmput jmdel jrange jnext jentry jlk jmp2 jmd2 jlm jrg jnx jny jen jeo
attribute [local go_sem] reduceIte Nat.reduceEqDiff Nat.reduceAdd Nat.reduceMul Nat.reduceLT Nat.reduceLeDiff Nat.reduceSub Int.reduceLT Int.reduceLE Int.reduceToNat Int.reduceNeg Int.reduceAdd Int.reduceSub UInt8.reduceToNat Int.reduceEq reduceCtorEq Int.reducePow Int.reduceMul Nat.reducePow E0
attribute [local go_sem ↓] reduceIte
attribute [local go_sem high] chunks_bvs
attribute [local go_sem] tgs_nil tgs_snoc tagC_eq rwb_nil jop_makeMap jop_lookup jop_mapUpdate jop_delete jop_range jop_next jop_entry jmmake_m jlook_m jlk_mI jmput_m jmp2_mI jmdel_m jmd2_mB jlenM_m jlm_mB jrange_m jnext_m jnx_m jentry_m jen_m jeo_mS nbB_mI bmap_mI bmap_mSI mB_nil vI nbB_o nbB_r nbB_i bmap_o bmap_r bmap_i gfB_o gfB_r gfB_i cl1_iiib rwc_nil rwc_len rwc_take rwc_snoc rwc_nbss rwc_amapss
attribute [local go_sem ←] List.map_take List.map_drop

def rwJ (rw : Rws) : List (List AV) := rw.map fun r => [.sl 3 (cels r.1), .v (.int .i64 (r.2 : Int))]
theorem rwJ_len (rw : Rws) : (rwJ rw).length = rw.length := by simp [rwJ]
theorem rwJ_get {rw : Rws} {i : Nat} (h : i < rw.length) : (rwJ rw).getD i [] = [.sl 3 (cels (rwAt rw i).1), .v (.int .i64 ((rwAt rw i).2 : Int))] := by
  simp [rwJ, rwAt, List.getD_eq_getElem?_getD, List.getElem?_eq_getElem h]
theorem rwJ_I {rw : Rws} {i : Nat} (h : i < rw.length) : (rwJ rw)[i]? = some [.sl 3 (cels (rwAt rw i).1), .v (.int .i64 ((rwAt rw i).2 : Int))] := by
  simp [rwJ, rwAt, List.getD_eq_getElem?_getD, List.getElem?_eq_getElem h]
theorem rwJ_set (rw : Rws) (i : Nat) (l : List Stp) (a : Nat) : (rwJ rw).set i [.sl 3 (cels l), .v (.int .i64 (a : Int))] = rwJ (rw.set i (l, a)) := by
  unfold rwJ
  rw [List.map_set]
theorem rwJ_snoc (rw : Rws) (l : List Stp) : rwJ rw ++ [[.sl 3 (cels l), .v (.int .i64 0)]] = rwJ (rw ++ [(l, 0)]) := by
  simp [rwJ]
theorem rwJ_nbss {n : Nat} (rw : Rws) : nbss n (rwJ rw) = True := eq_true (nbss_map (f := fun r : List Stp × Nat => [AV.sl 3 (cels r.1), .v (.int .i64 (r.2 : Int))]) (fun x => by unfold nbs nb; exact ⟨by rw [cels_nbss]; trivial, trivial, trivial⟩) rw)
theorem rwJ_amapss {f : Nat → Nat} (rw : Rws) : amapss f (rwJ rw) = rwJ rw := amapss_id (n := 0) (fun r hr => absurd hr (Nat.not_lt_zero r)) (of_eq_true (rwJ_nbss rw))
def DT (rw : Rws) : Heap := [some (.obj [.ptr 0 0, .hs 136 2 0 rw.length]), some (.row true 2 (rwJ rw))]
def DH (st : List Lk) (rw : Rws) : Heap := LH st ++ DT rw
theorem DH_len {st : List Lk} (h : st.length = 67) (rw : Rws) : (DH st rw).length = 137 := by
  unfold DH DT
  rw [List.length_append, LH_len, h]
  rfl
theorem DH_0 {st : List Lk} (h : st.length = 67) (rw : Rws) : (DH st rw)[135]? = some (some (.obj [.ptr 0 0, .hs 136 2 0 rw.length])) := by
  unfold DH DT
  rw [List.getElem?_append_right (by rw [LH_len, h]; decide), LH_len, h]
  rfl
theorem DH_1 {st : List Lk} (h : st.length = 67) (rw : Rws) : (DH st rw)[136]? = some (some (.row true 2 (rwJ rw))) := by
  unfold DH DT
  rw [List.getElem?_append_right (by rw [LH_len, h]; decide), LH_len, h]
  rfl
theorem DH_t {st : List Lk} (h : st.length = 67) (rw : Rws) (A : Option Blk) (L : Heap) : (DH st rw ++ A :: L)[137]? = some A := by
  rw [List.getElem?_append_right (by rw [DH_len h]; decide), DH_len h]
  rfl
theorem DH_ts {st : List Lk} (h : st.length = 67) (rw : Rws) (A B : Option Blk) (L : Heap) : (DH st rw ++ A :: L).set 137 B = DH st rw ++ B :: L := by
  rw [List.set_append_right _ _ (by rw [DH_len h]; decide), DH_len h]
  rfl
theorem DH_set {st : List Lk} (h : st.length = 67) (rw rw' : Rws) (hl : rw'.length = rw.length) : (DH st rw).set 136 (some (.row true 2 (rwJ rw'))) = DH st rw' := by
  unfold DH DT
  rw [List.set_append_right _ _ (by rw [LH_len, h]; decide), LH_len, h, hl]
  rfl
theorem nbB_up {n m : Nat} (h : n ≤ m) : ∀ {B : Blk}, nbB n B → nbB m B
  | .obj _, q => nbs.mono h q
  | .row .., q => nbss.mono h q
  | .map .., q => nbs.mono h q
  | .iter .., q => Nat.lt_of_lt_of_le q h
theorem DH_nbs {st : List Lk} (h : st.length = 67) (rw : Rws) : ∀ (k : Nat) (B : Blk), (DH st rw)[k]? = some (some B) → nbB (DH st rw).length B := by
  intro k B hk
  have hl := DH_len h rw
  have hk2 := (List.getElem?_eq_some_iff.1 hk).1
  rw [hl] at hk2 ⊢
  rcases Nat.lt_or_ge k 135 with hlt | hge
  · unfold DH at hk
    rw [List.getElem?_append_left (by rw [LH_len, h]; omega)] at hk
    have := LH_nbs st k B hk
    rw [LH_len, h] at this
    exact (nbB_up (by decide) this)
  · rcases Nat.lt_or_ge k 136 with hlt | hge2
    · obtain rfl : k = 135 := by omega
      rw [DH_0 h] at hk
      cases hk
      exact ⟨(by decide : (0 : Nat) < 137), (by decide : (136 : Nat) < 137), trivial⟩
    · obtain rfl : k = 136 := by omega
      rw [DH_1 h] at hk
      cases hk
      exact of_eq_true (rwJ_nbss rw)
theorem preD {g : FuncId} {al : List AV} {r0 : AV} {st st' : List Lk} (h : ACalls E0 g al (LH st) fun r H' => r = r0 ∧ H' = LH st') (hl : st'.length = st.length) (ok : nbs (2 * st.length + 1) al ∧ nb (2 * st.length + 1) r0) (rw : Rws) (Y : Heap) : ACalls E0 g al (DH st rw ++ Y) fun r H' => r = r0 ∧ H' = DH st' rw ++ Y := by
  have := preL h hl ok (DT rw ++ Y)
  unfold DH
  rw [List.append_assoc, List.append_assoc]
  exact this
theorem zD {K : Kvh} {g : FuncId} {al : List AV} {r0 : AV} {st st' : List Lk} {rw : Rws} {Y : Heap} (h : ACalls E0 g al (LH st) fun r H' => r = r0 ∧ H' = LH st') (hl : st'.length = st.length) (ok : nbs (2 * st.length + 1) al ∧ nb (2 * st.length + 1) r0) (hk : K.k r0 (DH st' rw ++ Y)) : jcall (K := K) E0 g al (DH st rw ++ Y) := z_ret (preD h hl ok rw Y) hk
theorem zD0 {K : Kvh} {g : FuncId} {al : List AV} {r0 : AV} {st st' : List Lk} {rw : Rws} (h : ACalls E0 g al (LH st) fun r H' => r = r0 ∧ H' = LH st') (hl : st'.length = st.length) (ok : nbs (2 * st.length + 1) al ∧ nb (2 * st.length + 1) r0) (hk : K.k r0 (DH st' rw)) : jcall (K := K) E0 g al (DH st rw) := by
  have := preD h hl ok rw []
  rw [List.append_nil, List.append_nil] at this
  exact z_ret this hk
theorem jxD {K : Kv} {g : FuncId} {al : List AV} {r0 : AV} {st : List Lk} {rw : Rws} (h : ACalls E0 g al (LH st) fun r H' => r = r0 ∧ H' = LH st) (ok : nbs (2 * st.length + 1) al ∧ nb (2 * st.length + 1) r0) (hk : K.k r0) : @jex (fun v => @jcall E0 g al (DH st rw) ⟨fun v' H' => v' = v ∧ H' = DH st rw⟩) K := jx (zD0 h rfl ok ⟨rfl, rfl⟩) hk
theorem jxhD {K : Kvh} {g : FuncId} {al : List AV} {r0 : AV} {st st' : List Lk} {rw : Rws} {Y : Heap} (h : ACalls E0 g al (LH st) fun r H' => r = r0 ∧ H' = LH st') (hl : st'.length = st.length) (ok : nbs (2 * st.length + 1) al ∧ nb (2 * st.length + 1) r0) (hk : K.k r0 (DH st' rw ++ Y)) : @jexh (fun v H1 => @jcall E0 g al (DH st rw ++ Y) ⟨fun v' H' => v' = v ∧ H' = H1⟩) K := jxh (zD h hl ok ⟨rfl, rfl⟩) hk
theorem end_D {r r2 : AV} {st : List Lk} {rw : Rws} {L : Heap} {n : Nat} {p : (Nat → AV) → Heap → Prop} (h : st.length = 67) (d : Nat) (hn : n ≤ (DH st rw).length) (hR : p (ofl [(0, r2)]) (DH st rw)) (hr : nb (DH st rw).length r2 ∧ Wk (frz d L (DH st rw).length r) r2) : Cl E0 n p (ofl [(0, r)]) (DH st rw ++ L) :=
  ⟨ofl [(0, r2)], DH st rw, cq_drop d hn (DH_nbs h rw) ⟨⟨hr.1, hr.2⟩, trivial⟩, hR⟩
theorem canTo_succ (st : List Lk) (rw : Rws) (k : Nat) : canTo st rw (k + 1) = canTo st rw k ++ (if canB st rw k = true then [(k : Int)] else []) := by
  unfold canTo
  rw [List.range_succ, List.filter_append, List.map_append]
  congr 1
  by_cases h : canB st rw k = true <;> simp [h]
theorem canTo_len (st : List Lk) (rw : Rws) (k : Nat) : (canTo st rw k).length ≤ k := by
  unfold canTo
  rw [List.length_map]
  have := List.length_filter_le (canB st rw) (List.range k)
  rwa [List.length_range] at this
theorem can_am (st : List Lk) (rw : Rws) (hl : st.length = 67) (hn : rw.length ≤ 1000) (hr : ∀ i, (lk st i).row.length ≤ 1000000) : ACalls E0 51 [.ptr 135 0] (DH st rw) fun r H' => r = .sl 1 (cels (canTo st rw rw.length)) ∧ H' = DH st rw := by
  obtain ⟨z, hz⟩ : ∃ z, canTo st rw rw.length = z := ⟨_, rfl⟩
  rw [hz]
  have D0 := at_app (DH_0 hl rw)
  have D1 := at_app (DH_1 hl rw)
  have Dl := DH_len hl rw
  have jl := rwJ_len rw
  refine calls_q (calls_of Try.func51 rfl (by kernel_rfl) (by kernel_rfl) (by rw [Try.ntmps51]; exact Nat.le_of_ble_eq_true rfl) (fun hH0 hA0 => ?_)); rw [Try.results51]
  (repeat' (first | (have hs := Mk.out hs; (try simp only [decide_eq_true_eq, decide_eq_false_iff_not, Bool.not_eq_true, Bool.not_eq_false, Bool.not_true, Bool.not_false, Bool.not_eq_eq_eq_not, Bool.and_eq_true, Bool.or_eq_true, beq_iff_eq, bne_iff_ne, beq_eq_false_iff_ne, ne_eq, Classical.not_not, not_true_eq_false, not_false_eq_true, forall_const, Bool.false_eq_true, false_implies, eq_self] at hs); (try (exfalso; omega)); (try simp (disch := omega) only [go_sem, hs])) | (refine z_seqr rfl ?_) | (refine z_seqd 6 [.q, .q, .q, .q, .q, .q, .q, .q, .q, .q, .q, .q, .q, .q, .q, .q, .q, .q, .q, .q, .q, .q] rfl (by kernel_rfl) (by kernel_rfl) ?_) | (refine w_seq rfl fun K hK => ?_) | (refine z_reg rfl ?_) | (refine z_cond rfl ?_) | (refine w_skip rfl ?_; ((repeat ((fail_if_success (refine hK _ _ (cl_id ?_))); clear hK)); refine hK _ _ (cl_id ?_); clear hK)) | (refine w_ret rfl ?_; (try dsimp only [anorm, ablock, astay]); refine z_end ?_) | (refine z_end0 ?_) | (refine w_block rfl ?_) | (refine w_scope rfl ?_) | (refine w_label rfl ?_; ((repeat ((fail_if_success (refine hK _ _ (cl_id ?_))); clear hK)); refine hK _ _ (cl_id ?_); clear hK)) | (refine w_exit rfl ?_; (try dsimp only [anorm, ablock, astay]); (try simp only [reduceIte, ↓reduceIte, Nat.reduceEqDiff]); ((repeat ((fail_if_success (refine hK _ _ (cl_id ?_))); clear hK)); refine hK _ _ (cl_id ?_); clear hK)) | (refine jend_go [(8, [2]), (4, [0, 3, 4]), (7, [0, 3, 4]), (6, [0, 3, 4, 46]), (5, [0, 3, 4, 6]), (3, [0, 3, 4, 13]), (2, [0, 3, 4]), (1, [0, 3]), (0, [0])] ?_; simp only [tabAt_cons, sel_nil, sel_cons, put_at, ofl_cons, ofl_nil, T0_at, List.getElem?_cons_zero, List.getElem?_cons_succ, List.getElem?_nil, Option.getD_some, Option.getD_none, reduceIte, ↓reduceIte, Nat.reduceEqDiff]; refine jl_go ?_) | simp (disch := omega) only [go_sem] | (refine jc_t ?_) | (refine jc_f ?_) | (refine jx rfl ?_) | (refine jx (fun _ => rfl) ?_) | (refine jxg ⟨rfl, rfl⟩ ?_) | (refine jxh ⟨rfl, rfl⟩ ?_) | (refine jx ⟨by (first | omega | (simp; done) | (simp; omega)), rfl⟩ ?_) | (refine jx (fun _ => ⟨by (first | omega | (simp; done) | (simp; omega)), rfl⟩) ?_) | (refine jxg ⟨by (first | omega | (simp; done) | (simp; omega)), rfl, rfl⟩ ?_) | (refine jxh ⟨by (first | omega | (simp; done) | (simp; omega)), rfl, rfl⟩ ?_) | (refine jx ⟨by (first | omega | (simp; done) | (simp; omega)), by (first | omega | (simp; done) | (simp; omega)), rfl⟩ ?_) | (refine And.intro (by (first | omega | (simp; done) | (simp; omega))) ?_) | (refine mc_b (fun hs => ?_) fun hs => ?_) | (refine mg_st (fun hs => ?_) fun hs => ?_) | (refine mg_sf (fun hs => ?_) fun hs => ?_) | (refine mall_s (fun hs => ?_) fun hs => ?_) | (refine malln_s (fun hs => ?_) fun hs => ?_) | (refine mpk_s (fun hs => ?_) fun hs => ?_) | ((repeat ((fail_if_success (refine hK _ _ (cl_id ?_))); clear hK)); refine hK _ _ (cl_id ?_); clear hK)))
  refine z_loop rfl (fun i => i ≤ rw.length) (fun i => rw.length - i) (fun i => [(0, .ptr 135 0), (3, .hs (DH st rw).length 1 0 (canTo st rw i).length), (4, .v (.int .i64 (i : Int)))]) (fun i => DH st rw ++ [some (.row true 1 (cels (canTo st rw i)))]) 0 (Nat.zero_le _) ((cq_bare 1 3 rfl).trans (cq_s ?_)) ?_
  · have e0 : canTo st rw 0 = [] := rfl
    rw [e0]
    (simp (disch := omega) only [go_sem])
  intro i hi Ko hKo
  by_cases hlt : (i : Int) < rw.length
  · have hin : i < rw.length := by omega
    have hw := lwaits_am st (i : Int) (by omega) hr
    have g1 := rwJ_get hin
    have g2 := rwJ_I hin
    have hKo2 := fun T' H' => hKo T' H' (i + 1) (by omega) (by omega)
    rw [canTo_succ] at hKo2
    have hle := canTo_len st rw i
    clear hKo
    have tk : List.take (canTo st rw i).length (canTo st rw i) = canTo st rw i := List.take_length
    unfold canB at hKo2
    generalize canTo st rw i = acc at *
    generalize rwAt rw i = r at *
    obtain ⟨l, a⟩ := r
    simp only at g1 g2 hKo2
    by_cases ca : a < l.length
    · have ca2 : (a : Int) < l.length := by omega
      rw [decide_eq_true ca, Bool.true_and] at hKo2
      cases hq : waits st i with
      | none =>
        rw [hq] at hw hKo2
        simp only [needA, Option.isSome_none, Option.isNone_none, if_true] at hw hKo2
        (repeat' (first | (have hs := Mk.out hs; (try simp only [decide_eq_true_eq, decide_eq_false_iff_not, Bool.not_eq_true, Bool.not_eq_false, Bool.not_true, Bool.not_false, Bool.not_eq_eq_eq_not, Bool.and_eq_true, Bool.or_eq_true, beq_iff_eq, bne_iff_ne, beq_eq_false_iff_ne, ne_eq, Classical.not_not, not_true_eq_false, not_false_eq_true, forall_const, Bool.false_eq_true, false_implies, eq_self] at hs); (try (exfalso; omega)); (try simp (disch := omega) only [go_sem, D0, D1, jl, hlt, g1, g2, ca2, tk, hs])) | (refine z_seqr rfl ?_) | (refine z_seqd 6 [.q, .q, .q, .q, .q, .q, .q, .q, .q, .q, .q, .q, .q, .q, .q, .q, .q, .q, .q, .q, .q, .q] rfl (by kernel_rfl) (by kernel_rfl) ?_) | (refine w_seq rfl fun K hK => ?_) | (refine z_reg rfl ?_) | (refine z_cond rfl ?_) | (refine w_skip rfl ?_; ((repeat ((fail_if_success (refine hK _ _ (cl_id ?_))); clear hK)); refine hK _ _ (cl_id ?_); clear hK)) | (refine w_ret rfl ?_; (try dsimp only [anorm, ablock, astay]); refine z_end ?_) | (refine z_end0 ?_) | (refine w_block rfl ?_) | (refine w_scope rfl ?_) | (refine w_label rfl ?_; ((repeat ((fail_if_success (refine hK _ _ (cl_id ?_))); clear hK)); refine hK _ _ (cl_id ?_); clear hK)) | (refine w_exit rfl ?_; (try dsimp only [anorm, ablock, astay]); (try simp only [reduceIte, ↓reduceIte, Nat.reduceEqDiff]); ((repeat ((fail_if_success (refine hK _ _ (cl_id ?_))); clear hK)); refine hK _ _ (cl_id ?_); clear hK)) | (refine jend_go [(8, [2]), (4, [0, 3, 4]), (7, [0, 3, 4]), (6, [0, 3, 4, 46]), (5, [0, 3, 4, 6]), (3, [0, 3, 4, 13]), (2, [0, 3, 4]), (1, [0, 3]), (0, [0])] ?_; simp only [tabAt_cons, sel_nil, sel_cons, put_at, ofl_cons, ofl_nil, T0_at, List.getElem?_cons_zero, List.getElem?_cons_succ, List.getElem?_nil, Option.getD_some, Option.getD_none, reduceIte, ↓reduceIte, Nat.reduceEqDiff]; refine jl_go ?_) | simp (disch := omega) only [go_sem, D0, D1, jl, hlt, g1, g2, ca2, tk] | (refine jc_t ?_) | (refine jc_f ?_) | (refine jx rfl ?_) | (refine jx (fun _ => rfl) ?_) | (refine jxg ⟨rfl, rfl⟩ ?_) | (refine jxh ⟨rfl, rfl⟩ ?_) | (refine jx ⟨by (first | omega | (simp; done) | (simp; omega)), rfl⟩ ?_) | (refine jx (fun _ => ⟨by (first | omega | (simp; done) | (simp; omega)), rfl⟩) ?_) | (refine jxg ⟨by (first | omega | (simp; done) | (simp; omega)), rfl, rfl⟩ ?_) | (refine jxh ⟨by (first | omega | (simp; done) | (simp; omega)), rfl, rfl⟩ ?_) | (refine jx ⟨by (first | omega | (simp; done) | (simp; omega)), by (first | omega | (simp; done) | (simp; omega)), rfl⟩ ?_) | (apply zD hw rfl; (case ok => (simp only [nbs, nb, nbss, cels_nbss, and_true, true_and]; try omega))) | (refine And.intro (by (first | omega | (simp; done) | (simp; omega))) ?_) | (refine mc_b (fun hs => ?_) fun hs => ?_) | (refine mg_st (fun hs => ?_) fun hs => ?_) | (refine mg_sf (fun hs => ?_) fun hs => ?_) | (refine mall_s (fun hs => ?_) fun hs => ?_) | (refine malln_s (fun hs => ?_) fun hs => ?_) | (refine mpk_s (fun hs => ?_) fun hs => ?_) | ((repeat ((fail_if_success (refine hK _ _ (cl_id ?_))); clear hK)); refine hK _ _ (cl_id ?_); clear hK)))
        refine hKo2 _ _ (cq_ren [3] (Nat.le_refl _) (DH_nbs hl rw) (by decide) ?_ ?_)
        · (simp (disch := omega) only [go_sem])
        · (simp (disch := omega) only [go_sem])
          omega
      | some q =>
        obtain ⟨qn, qw⟩ := q
        rw [hq] at hw hKo2
        simp only [needA, Option.isSome_some, Option.isNone_some, Bool.false_eq_true, if_false, List.append_nil] at hw hKo2
        (repeat' (first | (have hs := Mk.out hs; (try simp only [decide_eq_true_eq, decide_eq_false_iff_not, Bool.not_eq_true, Bool.not_eq_false, Bool.not_true, Bool.not_false, Bool.not_eq_eq_eq_not, Bool.and_eq_true, Bool.or_eq_true, beq_iff_eq, bne_iff_ne, beq_eq_false_iff_ne, ne_eq, Classical.not_not, not_true_eq_false, not_false_eq_true, forall_const, Bool.false_eq_true, false_implies, eq_self] at hs); (try (exfalso; omega)); (try simp (disch := omega) only [go_sem, D0, D1, jl, hlt, g1, g2, ca2, tk, hs])) | (refine z_seqr rfl ?_) | (refine z_seqd 6 [.q, .q, .q, .q, .q, .q, .q, .q, .q, .q, .q, .q, .q, .q, .q, .q, .q, .q, .q, .q, .q, .q] rfl (by kernel_rfl) (by kernel_rfl) ?_) | (refine w_seq rfl fun K hK => ?_) | (refine z_reg rfl ?_) | (refine z_cond rfl ?_) | (refine w_skip rfl ?_; ((repeat ((fail_if_success (refine hK _ _ (cl_id ?_))); clear hK)); refine hK _ _ (cl_id ?_); clear hK)) | (refine w_ret rfl ?_; (try dsimp only [anorm, ablock, astay]); refine z_end ?_) | (refine z_end0 ?_) | (refine w_block rfl ?_) | (refine w_scope rfl ?_) | (refine w_label rfl ?_; ((repeat ((fail_if_success (refine hK _ _ (cl_id ?_))); clear hK)); refine hK _ _ (cl_id ?_); clear hK)) | (refine w_exit rfl ?_; (try dsimp only [anorm, ablock, astay]); (try simp only [reduceIte, ↓reduceIte, Nat.reduceEqDiff]); ((repeat ((fail_if_success (refine hK _ _ (cl_id ?_))); clear hK)); refine hK _ _ (cl_id ?_); clear hK)) | (refine jend_go [(8, [2]), (4, [0, 3, 4]), (7, [0, 3, 4]), (6, [0, 3, 4, 46]), (5, [0, 3, 4, 6]), (3, [0, 3, 4, 13]), (2, [0, 3, 4]), (1, [0, 3]), (0, [0])] ?_; simp only [tabAt_cons, sel_nil, sel_cons, put_at, ofl_cons, ofl_nil, T0_at, List.getElem?_cons_zero, List.getElem?_cons_succ, List.getElem?_nil, Option.getD_some, Option.getD_none, reduceIte, ↓reduceIte, Nat.reduceEqDiff]; refine jl_go ?_) | simp (disch := omega) only [go_sem, D0, D1, jl, hlt, g1, g2, ca2, tk] | (refine jc_t ?_) | (refine jc_f ?_) | (refine jx rfl ?_) | (refine jx (fun _ => rfl) ?_) | (refine jxg ⟨rfl, rfl⟩ ?_) | (refine jxh ⟨rfl, rfl⟩ ?_) | (refine jx ⟨by (first | omega | (simp; done) | (simp; omega)), rfl⟩ ?_) | (refine jx (fun _ => ⟨by (first | omega | (simp; done) | (simp; omega)), rfl⟩) ?_) | (refine jxg ⟨by (first | omega | (simp; done) | (simp; omega)), rfl, rfl⟩ ?_) | (refine jxh ⟨by (first | omega | (simp; done) | (simp; omega)), rfl, rfl⟩ ?_) | (refine jx ⟨by (first | omega | (simp; done) | (simp; omega)), by (first | omega | (simp; done) | (simp; omega)), rfl⟩ ?_) | (apply zD hw rfl; (case ok => (simp only [nbs, nb, nbss, cels_nbss, and_true, true_and]; try omega))) | (refine And.intro (by (first | omega | (simp; done) | (simp; omega))) ?_) | (refine mc_b (fun hs => ?_) fun hs => ?_) | (refine mg_st (fun hs => ?_) fun hs => ?_) | (refine mg_sf (fun hs => ?_) fun hs => ?_) | (refine mall_s (fun hs => ?_) fun hs => ?_) | (refine malln_s (fun hs => ?_) fun hs => ?_) | (refine mpk_s (fun hs => ?_) fun hs => ?_) | ((repeat ((fail_if_success (refine hK _ _ (cl_id ?_))); clear hK)); refine hK _ _ (cl_id ?_); clear hK)))
        refine hKo2 _ _ (cq_ren [0] (Nat.le_refl _) (DH_nbs hl rw) (by decide) ?_ ?_)
        · (simp (disch := omega) only [go_sem])
        · (simp (disch := omega) only [go_sem])
          omega
    · have ca2 : ¬ (a : Int) < l.length := by omega
      rw [decide_eq_false ca, Bool.false_and, if_neg (by simp), List.append_nil] at hKo2
      cases hq : waits st i with
      | none =>
        rw [hq] at hw
        simp only [needA, Option.isSome_none] at hw
        (repeat' (first | (have hs := Mk.out hs; (try simp only [decide_eq_true_eq, decide_eq_false_iff_not, Bool.not_eq_true, Bool.not_eq_false, Bool.not_true, Bool.not_false, Bool.not_eq_eq_eq_not, Bool.and_eq_true, Bool.or_eq_true, beq_iff_eq, bne_iff_ne, beq_eq_false_iff_ne, ne_eq, Classical.not_not, not_true_eq_false, not_false_eq_true, forall_const, Bool.false_eq_true, false_implies, eq_self] at hs); (try (exfalso; omega)); (try simp (disch := omega) only [go_sem, D0, D1, jl, hlt, g1, g2, ca2, tk, hs])) | (refine z_seqr rfl ?_) | (refine z_seqd 6 [.q, .q, .q, .q, .q, .q, .q, .q, .q, .q, .q, .q, .q, .q, .q, .q, .q, .q, .q, .q, .q, .q] rfl (by kernel_rfl) (by kernel_rfl) ?_) | (refine w_seq rfl fun K hK => ?_) | (refine z_reg rfl ?_) | (refine z_cond rfl ?_) | (refine w_skip rfl ?_; ((repeat ((fail_if_success (refine hK _ _ (cl_id ?_))); clear hK)); refine hK _ _ (cl_id ?_); clear hK)) | (refine w_ret rfl ?_; (try dsimp only [anorm, ablock, astay]); refine z_end ?_) | (refine z_end0 ?_) | (refine w_block rfl ?_) | (refine w_scope rfl ?_) | (refine w_label rfl ?_; ((repeat ((fail_if_success (refine hK _ _ (cl_id ?_))); clear hK)); refine hK _ _ (cl_id ?_); clear hK)) | (refine w_exit rfl ?_; (try dsimp only [anorm, ablock, astay]); (try simp only [reduceIte, ↓reduceIte, Nat.reduceEqDiff]); ((repeat ((fail_if_success (refine hK _ _ (cl_id ?_))); clear hK)); refine hK _ _ (cl_id ?_); clear hK)) | (refine jend_go [(8, [2]), (4, [0, 3, 4]), (7, [0, 3, 4]), (6, [0, 3, 4, 46]), (5, [0, 3, 4, 6]), (3, [0, 3, 4, 13]), (2, [0, 3, 4]), (1, [0, 3]), (0, [0])] ?_; simp only [tabAt_cons, sel_nil, sel_cons, put_at, ofl_cons, ofl_nil, T0_at, List.getElem?_cons_zero, List.getElem?_cons_succ, List.getElem?_nil, Option.getD_some, Option.getD_none, reduceIte, ↓reduceIte, Nat.reduceEqDiff]; refine jl_go ?_) | simp (disch := omega) only [go_sem, D0, D1, jl, hlt, g1, g2, ca2, tk] | (refine jc_t ?_) | (refine jc_f ?_) | (refine jx rfl ?_) | (refine jx (fun _ => rfl) ?_) | (refine jxg ⟨rfl, rfl⟩ ?_) | (refine jxh ⟨rfl, rfl⟩ ?_) | (refine jx ⟨by (first | omega | (simp; done) | (simp; omega)), rfl⟩ ?_) | (refine jx (fun _ => ⟨by (first | omega | (simp; done) | (simp; omega)), rfl⟩) ?_) | (refine jxg ⟨by (first | omega | (simp; done) | (simp; omega)), rfl, rfl⟩ ?_) | (refine jxh ⟨by (first | omega | (simp; done) | (simp; omega)), rfl, rfl⟩ ?_) | (refine jx ⟨by (first | omega | (simp; done) | (simp; omega)), by (first | omega | (simp; done) | (simp; omega)), rfl⟩ ?_) | (apply zD hw rfl; (case ok => (simp only [nbs, nb, nbss, cels_nbss, and_true, true_and]; try omega))) | (refine And.intro (by (first | omega | (simp; done) | (simp; omega))) ?_) | (refine mc_b (fun hs => ?_) fun hs => ?_) | (refine mg_st (fun hs => ?_) fun hs => ?_) | (refine mg_sf (fun hs => ?_) fun hs => ?_) | (refine mall_s (fun hs => ?_) fun hs => ?_) | (refine malln_s (fun hs => ?_) fun hs => ?_) | (refine mpk_s (fun hs => ?_) fun hs => ?_) | ((repeat ((fail_if_success (refine hK _ _ (cl_id ?_))); clear hK)); refine hK _ _ (cl_id ?_); clear hK)))
        refine hKo2 _ _ (cq_ren [0] (Nat.le_refl _) (DH_nbs hl rw) (by decide) ?_ ?_)
        · (simp (disch := omega) only [go_sem])
        · (simp (disch := omega) only [go_sem])
          omega
      | some q =>
        obtain ⟨qn, qw⟩ := q
        rw [hq] at hw
        simp only [needA, Option.isSome_some] at hw
        (repeat' (first | (have hs := Mk.out hs; (try simp only [decide_eq_true_eq, decide_eq_false_iff_not, Bool.not_eq_true, Bool.not_eq_false, Bool.not_true, Bool.not_false, Bool.not_eq_eq_eq_not, Bool.and_eq_true, Bool.or_eq_true, beq_iff_eq, bne_iff_ne, beq_eq_false_iff_ne, ne_eq, Classical.not_not, not_true_eq_false, not_false_eq_true, forall_const, Bool.false_eq_true, false_implies, eq_self] at hs); (try (exfalso; omega)); (try simp (disch := omega) only [go_sem, D0, D1, jl, hlt, g1, g2, ca2, tk, hs])) | (refine z_seqr rfl ?_) | (refine z_seqd 6 [.q, .q, .q, .q, .q, .q, .q, .q, .q, .q, .q, .q, .q, .q, .q, .q, .q, .q, .q, .q, .q, .q] rfl (by kernel_rfl) (by kernel_rfl) ?_) | (refine w_seq rfl fun K hK => ?_) | (refine z_reg rfl ?_) | (refine z_cond rfl ?_) | (refine w_skip rfl ?_; ((repeat ((fail_if_success (refine hK _ _ (cl_id ?_))); clear hK)); refine hK _ _ (cl_id ?_); clear hK)) | (refine w_ret rfl ?_; (try dsimp only [anorm, ablock, astay]); refine z_end ?_) | (refine z_end0 ?_) | (refine w_block rfl ?_) | (refine w_scope rfl ?_) | (refine w_label rfl ?_; ((repeat ((fail_if_success (refine hK _ _ (cl_id ?_))); clear hK)); refine hK _ _ (cl_id ?_); clear hK)) | (refine w_exit rfl ?_; (try dsimp only [anorm, ablock, astay]); (try simp only [reduceIte, ↓reduceIte, Nat.reduceEqDiff]); ((repeat ((fail_if_success (refine hK _ _ (cl_id ?_))); clear hK)); refine hK _ _ (cl_id ?_); clear hK)) | (refine jend_go [(8, [2]), (4, [0, 3, 4]), (7, [0, 3, 4]), (6, [0, 3, 4, 46]), (5, [0, 3, 4, 6]), (3, [0, 3, 4, 13]), (2, [0, 3, 4]), (1, [0, 3]), (0, [0])] ?_; simp only [tabAt_cons, sel_nil, sel_cons, put_at, ofl_cons, ofl_nil, T0_at, List.getElem?_cons_zero, List.getElem?_cons_succ, List.getElem?_nil, Option.getD_some, Option.getD_none, reduceIte, ↓reduceIte, Nat.reduceEqDiff]; refine jl_go ?_) | simp (disch := omega) only [go_sem, D0, D1, jl, hlt, g1, g2, ca2, tk] | (refine jc_t ?_) | (refine jc_f ?_) | (refine jx rfl ?_) | (refine jx (fun _ => rfl) ?_) | (refine jxg ⟨rfl, rfl⟩ ?_) | (refine jxh ⟨rfl, rfl⟩ ?_) | (refine jx ⟨by (first | omega | (simp; done) | (simp; omega)), rfl⟩ ?_) | (refine jx (fun _ => ⟨by (first | omega | (simp; done) | (simp; omega)), rfl⟩) ?_) | (refine jxg ⟨by (first | omega | (simp; done) | (simp; omega)), rfl, rfl⟩ ?_) | (refine jxh ⟨by (first | omega | (simp; done) | (simp; omega)), rfl, rfl⟩ ?_) | (refine jx ⟨by (first | omega | (simp; done) | (simp; omega)), by (first | omega | (simp; done) | (simp; omega)), rfl⟩ ?_) | (apply zD hw rfl; (case ok => (simp only [nbs, nb, nbss, cels_nbss, and_true, true_and]; try omega))) | (refine And.intro (by (first | omega | (simp; done) | (simp; omega))) ?_) | (refine mc_b (fun hs => ?_) fun hs => ?_) | (refine mg_st (fun hs => ?_) fun hs => ?_) | (refine mg_sf (fun hs => ?_) fun hs => ?_) | (refine mall_s (fun hs => ?_) fun hs => ?_) | (refine malln_s (fun hs => ?_) fun hs => ?_) | (refine mpk_s (fun hs => ?_) fun hs => ?_) | ((repeat ((fail_if_success (refine hK _ _ (cl_id ?_))); clear hK)); refine hK _ _ (cl_id ?_); clear hK)))
        refine hKo2 _ _ (cq_ren [0] (Nat.le_refl _) (DH_nbs hl rw) (by decide) ?_ ?_)
        · (simp (disch := omega) only [go_sem])
        · (simp (disch := omega) only [go_sem])
          omega
  · obtain rfl : i = rw.length := by omega
    rw [hz]
    clear hKo
    (repeat' (first | (have hs := Mk.out hs; (try simp only [decide_eq_true_eq, decide_eq_false_iff_not, Bool.not_eq_true, Bool.not_eq_false, Bool.not_true, Bool.not_false, Bool.not_eq_eq_eq_not, Bool.and_eq_true, Bool.or_eq_true, beq_iff_eq, bne_iff_ne, beq_eq_false_iff_ne, ne_eq, Classical.not_not, not_true_eq_false, not_false_eq_true, forall_const, Bool.false_eq_true, false_implies, eq_self] at hs); (try (exfalso; omega)); (try simp (disch := omega) only [go_sem, D0, D1, jl, hlt, hs])) | (refine z_seqr rfl ?_) | (refine z_seqd 6 [.q, .q, .q, .q, .q, .q, .q, .q, .q, .q, .q, .q, .q, .q, .q, .q, .q, .q, .q, .q, .q, .q] rfl (by kernel_rfl) (by kernel_rfl) ?_) | (refine w_seq rfl fun K hK => ?_) | (refine z_reg rfl ?_) | (refine z_cond rfl ?_) | (refine w_skip rfl ?_; ((repeat ((fail_if_success (refine hK _ _ (cl_id ?_))); clear hK)); refine hK _ _ (cl_id ?_); clear hK)) | (refine w_ret rfl ?_; (try dsimp only [anorm, ablock, astay]); refine z_end ?_) | (refine z_end0 ?_) | (refine w_block rfl ?_) | (refine w_scope rfl ?_) | (refine w_label rfl ?_; ((repeat ((fail_if_success (refine hK _ _ (cl_id ?_))); clear hK)); refine hK _ _ (cl_id ?_); clear hK)) | (refine w_exit rfl ?_; (try dsimp only [anorm, ablock, astay]); (try simp only [reduceIte, ↓reduceIte, Nat.reduceEqDiff]); ((repeat ((fail_if_success (refine hK _ _ (cl_id ?_))); clear hK)); refine hK _ _ (cl_id ?_); clear hK)) | (refine jend_go [(8, [2]), (4, [0, 3, 4]), (7, [0, 3, 4]), (6, [0, 3, 4, 46]), (5, [0, 3, 4, 6]), (3, [0, 3, 4, 13]), (2, [0, 3, 4]), (1, [0, 3]), (0, [0])] ?_; simp only [tabAt_cons, sel_nil, sel_cons, put_at, ofl_cons, ofl_nil, T0_at, List.getElem?_cons_zero, List.getElem?_cons_succ, List.getElem?_nil, Option.getD_some, Option.getD_none, reduceIte, ↓reduceIte, Nat.reduceEqDiff]; refine jl_go ?_) | simp (disch := omega) only [go_sem, D0, D1, jl, hlt] | (refine jc_t ?_) | (refine jc_f ?_) | (refine jx rfl ?_) | (refine jx (fun _ => rfl) ?_) | (refine jxg ⟨rfl, rfl⟩ ?_) | (refine jxh ⟨rfl, rfl⟩ ?_) | (refine jx ⟨by (first | omega | (simp; done) | (simp; omega)), rfl⟩ ?_) | (refine jx (fun _ => ⟨by (first | omega | (simp; done) | (simp; omega)), rfl⟩) ?_) | (refine jxg ⟨by (first | omega | (simp; done) | (simp; omega)), rfl, rfl⟩ ?_) | (refine jxh ⟨by (first | omega | (simp; done) | (simp; omega)), rfl, rfl⟩ ?_) | (refine jx ⟨by (first | omega | (simp; done) | (simp; omega)), by (first | omega | (simp; done) | (simp; omega)), rfl⟩ ?_) | (refine And.intro (by (first | omega | (simp; done) | (simp; omega))) ?_) | (refine mc_b (fun hs => ?_) fun hs => ?_) | (refine mg_st (fun hs => ?_) fun hs => ?_) | (refine mg_sf (fun hs => ?_) fun hs => ?_) | (refine mall_s (fun hs => ?_) fun hs => ?_) | (refine malln_s (fun hs => ?_) fun hs => ?_) | (refine mpk_s (fun hs => ?_) fun hs => ?_) | ((repeat ((fail_if_success (refine hK _ _ (cl_id ?_))); clear hK)); refine hK _ _ (cl_id ?_); clear hK)))
    exact end_D hl 1 (Nat.le_refl _) ⟨rfl, rfl⟩ ⟨of_eq_true (cels_nbss _), Wk.of (frzC (Nat.le_refl _) (by rw [Nat.sub_self]; rfl) rfl)⟩
end Go.Proofs.Ytjfoicebdjonfaa
