/- Decode with its values hot (a heap of symbolic length), as two contracts; the heap of its values read and written. No condition but bounds of lengths. -/
import Derived.Test.YtminoakdilbokaaTh
set_option linter.unusedSectionVars false
set_option linter.unusedVariables false
set_option linter.unusedSimpArgs false
set_option linter.deprecated false
namespace Go.Proofs.Ytminoakdilbokaa
open Go.RowKit Go.Cx Go.Am
/-- Tags whose values lie in rows of their own: tag i in the row 3 i + 1. -/
def tgh : Nat → List Tag → List (List AV)
  | _, [] => []
  | k, t :: ts => [.v (.int .i64 t.typ), .hs (3 * k + 1) 1 0 t.val.length] :: tgh (k + 1) ts
def dV : Nat → List Tag → Heap
  | _, [] => []
  | k, t :: ts => none :: some (.row true 1 (t.val.map bcl)) :: some (.row true 2 [[.v (.int .i64 t.typ), .hs (3 * k + 1) 1 0 t.val.length]]) :: dV (k + 1) ts
theorem tgh_len (k : Nat) (ts : List Tag) : (tgh k ts).length = ts.length := by
  induction ts generalizing k with
  | nil => rfl
  | cons t ts ih => simp [tgh, ih]
theorem dV_len (k : Nat) (ts : List Tag) : (dV k ts).length = 3 * ts.length := by
  induction ts generalizing k with
  | nil => rfl
  | cons t ts ih => simp [dV, ih]; omega
theorem tgh_snoc (k : Nat) (ts : List Tag) (t : Tag) : tgh k (ts ++ [t]) = tgh k ts ++ [[.v (.int .i64 t.typ), .hs (3 * (k + ts.length) + 1) 1 0 t.val.length]] := by
  induction ts generalizing k with
  | nil => rfl
  | cons a ts ih => simp [tgh, ih, Nat.add_assoc, Nat.add_comm 1]
theorem dV_snoc (k : Nat) (ts : List Tag) (t : Tag) : dV k (ts ++ [t]) = dV k ts ++ [none, some (.row true 1 (t.val.map bcl)), some (.row true 2 [[.v (.int .i64 t.typ), .hs (3 * (k + ts.length) + 1) 1 0 t.val.length]])] := by
  induction ts generalizing k with
  | nil => rfl
  | cons a ts ih => simp [dV, ih, Nat.add_assoc, Nat.add_comm 1]
def dH (ts : List Tag) : Heap := dV 0 ts ++ [some (.row true 2 (tgh 0 ts))]
set_option maxRecDepth 8000
set_option maxHeartbeats 2000000
attribute [local irreducible] ACalls jcall jsame jex jexg jexh jguard jconv jload jpart jstore jbin jslice jidxA jidx jfield jfieldA jbuild jbuildS jmake jappend jlen jpick jres jcnd jcopy jcap jborn jdraw jops jop jstr jstrc jlive jend
attribute [local go_sem] reduceIte Nat.reduceEqDiff Nat.reduceAdd Nat.reduceMul Nat.reduceLT Nat.reduceLeDiff Nat.reduceSub Int.reduceLT Int.reduceLE Int.reduceToNat Int.reduceNeg Int.reduceAdd Int.reduceSub UInt8.reduceToNat Int.reduceEq reduceCtorEq Int.reducePow Int.reduceMul Nat.reducePow E0
attribute [local go_sem ↓] reduceIte
attribute [local go_sem high] chunks_bvs
attribute [local go_sem] Nat.one_ne_zero Nat.zero_ne_one decide_true decide_false Bool.false_eq_true Bool.true_eq_false Bool.not_true Bool.not_false jops_nil jops_one jops_g jg_tt jg_ff jg_tf jg_ft jg_n jop_move jop_assign jop_pick jop_alloc jop_box jop_build jop_buildSlice jop_load jop_store jop_nilCheck jop_bin jop_not jop_convert jop_makeFunc jop_makeSlice jop_slice jop_fieldAddr jop_field jop_indexAddr jop_index jop_extract jop_len jop_append jop_call jload_m jpart_t jpart_f jpick_t jpick_f jpick_b jidxA_ptr jidxA_cptr jidxA_rp jidxA_sl jidxA_hs jidxA_os jidx_agg jidx_str jfield_m jfieldA_m jbuild_m jlen_str jlen_sl jlen_hs jlen_os jlen_mt jlen_nil jslice_sl jslice3_sl jpart_bcl jstr_map jstr_nil jstr_cons jstrc_cons jstrc_int jstrc_nil jstrc_map jconv_sl jconv_hs jconv_os jconv_mt jconv_nil jconv_str mk_toList str_toList str_size mk_size jbin_eq_nn jbin_ne_nn jbin_eq_pn jbin_ne_pn jbin_eq_bb jbin_ne_bb beq_self_eq_true oc_int oc_bool oc_str oc_slice oc_ptr oc_nilF amaps_bcl jslice_hs jslice_os jslice_mt jslice_nil jslice_str jslice_ptr jbuildS_m jappend_m jmake_m jconv_int jstore_ptr jstore_rp jbin_add jbin_sub jbin_mul jbin_lss jbin_leq jbin_gtr jbin_geq jbin_eql jbin_neq jbin_and jbin_or jbin_xor jbin_andNot jbin_str_eql jbin_str_neq jres_nil jres_tmp jres_cell jdraw_nil jdraw_q jdraw_l jdraw_b jdraw_gg jdraw_e jdraw_m jdraw_mc jdraw_f jdraw_p jdraw_c jwhen_t bcN_eq convT_m locOf_cptr locCv_int jkeep_nil jkeep_cons jsame_rfl locOf_ptr locOf_rp jdraw_w jex_eq jex_all jexg_eq jexh_eq jborn_m jop_copy jcopy_hs jcopy_os jop_cap jcap_mt jcap_nil jbin_eq_sl jbin_ne_sl jbin_eq_hs jbin_ne_hs hget0 hgetk hset0 hsetk List.set_cons_zero List.set_cons_succ put_at ev_tmp ev_const ev_global ev_func aput_some aput_none T0_at ayield place cells1 splice_cs Nat.mul_one Nat.sub_add_cancel Int.cast_ofNat_Int elems source abound afill bfill dest sure one anorm ablock astay cv_int cv_bool cv_str cv_slice cv_ptr cv_nilFunc List.map_cons List.map_nil List.map_toArray List.getElem?_toArray List.getElem?_cons_zero List.getElem?_cons_succ List.getElem?_nil Option.getD_some Option.getD_none Option.map_some Option.map_none Option.bind_some Option.some.injEq Nat.add_zero Nat.zero_add List.drop_zero List.drop_succ_cons List.take_succ_cons List.take_zero List.take_nil List.drop_nil List.length_cons List.length_nil List.length_append List.nil_append List.cons_append List.append_assoc List.append_nil List.append_cancel_left_eq List.cons.injEq if_true if_false true_and and_true or_false false_or ne_eq not_true_eq_false not_false_eq_true Nat.le_refl Int.toNat_natCast List.replicate_succ List.replicate_zero exists_eq List.toList_toArray List.length_map Prod.mk.injEq exists_eq_left exists_eq_left' exists_eq' exists_eq_right' exists_and_left exists_and_right exists_const bvs_len bvs_drop bvs_take bvs_getD splice_bvs splice_row flat_bcl amaps_bvs jpart_bvs List.take_length List.length_drop List.length_take Nat.min_eq_left Nat.min_eq_right amap amaps amapss bmap amapss_bcl back_nil sg_nil back backs sg List.getD_cons_zero List.getD_cons_succ ofl_cons ofl_nil jbin_quo jbin_rem jbin_shl jbin_shr getD_bcl w8_u8 w8_u16 w8_u32 w8_u64 w8_i64 IntWalk.i64_in IntWalk.u64_in IntWalk.u32_in IntWalk.u16_in bits_u8 bits_u16 bits_u32 bits_u64 bits_i64 nbs_bvs gfs_bvs okS okT okL okD wk_rfl wk_any wk_v wk_nil nb_byts nbss_bcl amap_byts frz_v frz_sl frz_byts frz_ptr frz_any frz_mt frzs_bcl nb nbs nbss nbB sh_lt sh_0 sh_at frz Value.int.injEq Value.bool.injEq Value.string.injEq Nat.lt_add_right_iff_pos Nat.lt_irrefl Nat.zero_lt_one gf gfs gfss gfB gfH gfss_bcl byts uvs_len uvs_drop uvs_take uvs_getD splice_uvs nbs_uvs gfs_uvs amaps_uvs jpart_uvs jpart_uvs0 getD_ucl set_ucl b32_xor b32_or b32_and b32_add b32_not b32_shr b32_shl b32_shr3 b32_shr10 jop_cpl sgn_u32 max_u32 flat_ucl zeros8_len zeros32_len okVs_bvs okVs_uvs getI_ucl getI_bcl amapss_ucl w32_in jop_max jop_min jmax_ii jmin_ii uclss_nb uclss_gf chunks1_c chunks1_0 cl1_iii Int.sub_zero undef amapss_set cels_nil cels_len cels_take cels_drop cels_app cels_getD cels_getI cels_nbss cels_gfss cels_amapss cl1_int cl1_bool cl1_ii cl1_ib cl1_iib snoc_int snoc_bool snoc_ii snoc_ib snoc_iib set_int set_bool rep_bool rep_int eqAV scEq Bool.and_true pr_eta tgs_nil tgs_len tgs_take tgs_drop tgs_app tgs_snoc tgs_getD tgs_getI tgs_nbss tgs_amapss nbss_app amapss_app tagC_eq rwb_nil rwb_len rwb_take rwb_snoc rwb_getD rwb_getI rwb_nbss rwb_amapss okV okVs okEs okA okAs List.not_mem_nil List.mem_cons List.mem_singleton false_and and_false true_or or_true or_self and_self ty1 ty2 ty3 ty4 ty5 ty6 ty7 st7 jeq7 jne7 ty8 st8 jeq8 jne8 ty9 ty10 ty11 ty12 ty13 st13 ty14 st14 ty15 ty16 ty17 ty18 st18 ty19 st19 ty20 ty21 ty22 sl22 ty23 ty24 sl24 ty25 ty27 ty29 ty30 ty31 ty32 ty33 st33 ty34 st34 ty35 ty36 ty38 ty40 ty41 ty42 ty43 ty44 ty45 sl45 ty46 ty48 ty49 ty50 ty51 ty52 ty53 ty54 ty55 ty56 ty57 ar57 ty58 ty59 ty60 st60 ty61 st61 ty62 ar62 ty63 st63 ty64 st64 ty65 ty66 ty67 ty68 ty69 ty70 ty71 ty72 ty73 st73 ty74 st74 ty75 arn7 arn8 arn13 arn14 arn18 arn19 arn33 arn34 arn60 arn61 arn63 arn64 arn73 arn74 stn57 stn62 Try.underlying0 Try.underlying1 Try.underlying2 Try.underlying3 Try.underlying4 Try.underlying5 Try.underlying6 Try.underlying7 Try.underlying8 Try.underlying9 Try.underlying10 Try.underlying11 Try.underlying12 Try.underlying13 Try.underlying14 Try.underlying15 Try.underlying16 Try.underlying17 Try.underlying18 Try.underlying19 Try.underlying20 Try.underlying21 Try.underlying22 Try.underlying23 Try.underlying24 Try.underlying25 Try.underlying26 Try.underlying27 Try.underlying28 Try.underlying29 Try.underlying30 Try.underlying31 Try.underlying32 Try.underlying33 Try.underlying34 Try.underlying35 Try.underlying36 Try.underlying37 Try.underlying38 Try.underlying39 Try.underlying40 Try.underlying41 Try.underlying42 Try.underlying43 Try.underlying44 Try.underlying45 Try.underlying46 Try.underlying47 Try.underlying48 Try.underlying49 Try.underlying50 Try.underlying51 Try.underlying52 Try.underlying53 Try.underlying54 Try.underlying55 Try.underlying56 Try.underlying57 Try.underlying58 Try.underlying59 Try.underlying60 Try.underlying61 Try.underlying62 Try.underlying63 Try.underlying64 Try.underlying65 Try.underlying66 Try.underlying67 Try.underlying68 Try.underlying69 Try.underlying70 Try.underlying71 Try.underlying72 Try.underlying73 Try.underlying74 Try.underlying75
attribute [local go_sem ←] List.map_take List.map_drop

theorem decode_hot (b : List UInt8) (hb : b.length ≤ 1000000) : ACalls E0 14 [byts b] [] fun r H' => ((dec b).2 ≠ 0 ∧ r = .tup [.v (.slice none 0 0), .v (.int .i64 (dec b).2)] ∧ H' = []) ∨ ((dec b).2 = 0 ∧ r = .tup [.hs (3 * (dec b).1.length) 2 0 (dec b).1.length, .v (.int .i64 (dec b).2)] ∧ H' = dH (dec b).1) := by
  obtain ⟨z1, z2, hz⟩ : ∃ a e, dec b = (a, e) := ⟨_, _, rfl⟩
  rw [hz]
  by_cases hl : 1494 < b.length
  · have hl2 : (1494 : Int) < b.length := by omega
    rw [dec, if_pos hl] at hz
    obtain ⟨rfl, rfl⟩ := Prod.mk.inj hz
    refine calls_q (calls_of Try.func14 rfl (by kernel_rfl) (by kernel_rfl) (by rw [Try.ntmps14]; exact Nat.le_of_ble_eq_true rfl) (fun hH0 hA0 => ?_)); rw [Try.results14]
    (repeat' (first | (have hs := Mk.out hs; (try simp only [decide_eq_true_eq, decide_eq_false_iff_not, Bool.not_eq_true, Bool.not_eq_false, Bool.not_true, Bool.not_false, Bool.not_eq_eq_eq_not, Bool.and_eq_true, Bool.or_eq_true, beq_iff_eq, bne_iff_ne, beq_eq_false_iff_ne, ne_eq, Classical.not_not, not_true_eq_false, not_false_eq_true, forall_const, Bool.false_eq_true, false_implies, eq_self] at hs); (try (exfalso; omega)); (try simp (disch := omega) only [go_sem, hl2, hs])) | (refine z_seqr rfl ?_) | (refine w_seq rfl fun K hK => ?_) | (refine z_reg rfl ?_) | (refine z_cond rfl ?_) | (refine w_skip rfl ?_; ((repeat ((fail_if_success (refine hK _ _ (cl_id ?_))); clear hK)); refine hK _ _ (cl_id ?_); clear hK)) | (refine w_ret rfl ?_; (try dsimp only [anorm, ablock, astay]); refine z_end ?_) | (refine z_end0 ?_) | (refine w_block rfl ?_) | (refine w_scope rfl ?_) | (refine w_label rfl ?_; ((repeat ((fail_if_success (refine hK _ _ (cl_id ?_))); clear hK)); refine hK _ _ (cl_id ?_); clear hK)) | (refine w_exit rfl ?_; (try dsimp only [anorm, ablock, astay]); (try simp only [reduceIte, ↓reduceIte, Nat.reduceEqDiff]); ((repeat ((fail_if_success (refine hK _ _ (cl_id ?_))); clear hK)); refine hK _ _ (cl_id ?_); clear hK)) | (refine jend_go [(15, [2, 3]), (14, [0, 4]), (13, [0, 4, 6]), (10, [2, 3]), (12, [2, 3]), (11, [0, 4, 5, 6, 37]), (9, [0, 4, 5, 6, 27]), (8, [0, 4, 5, 6, 20]), (7, [0, 4, 5, 6]), (6, [2, 3]), (5, [0, 4, 15]), (4, [0, 4, 12]), (3, [0, 4]), (2, [2, 3]), (1, [0, 9]), (0, [0])] ?_; simp only [tabAt_cons, sel_nil, sel_cons, put_at, ofl_cons, ofl_nil, T0_at, List.getElem?_cons_zero, List.getElem?_cons_succ, List.getElem?_nil, Option.getD_some, Option.getD_none, reduceIte, ↓reduceIte, Nat.reduceEqDiff]; refine jl_go ?_) | simp (disch := omega) only [go_sem, hl2] | (refine jc_t ?_) | (refine jc_f ?_) | (refine And.intro (by (first | omega | (simp; done) | (simp; omega))) ?_) | (refine mc_b (fun hs => ?_) fun hs => ?_) | (refine mg_st (fun hs => ?_) fun hs => ?_) | (refine mg_sf (fun hs => ?_) fun hs => ?_) | (refine mall_s (fun hs => ?_) fun hs => ?_) | (refine malln_s (fun hs => ?_) fun hs => ?_) | (refine mpk_s (fun hs => ?_) fun hs => ?_) | ((repeat ((fail_if_success (refine hK _ _ (cl_id ?_))); clear hK)); refine hK _ _ (cl_id ?_); clear hK)))
    refine ⟨_, _, cq_s (tl := [(0, _)]) ?_, ⟨rfl, rfl⟩⟩
    (simp (disch := omega) only [go_sem])
  have hl2 : ¬ (1494 : Int) < b.length := by omega
  rw [dec, if_neg hl] at hz
  refine calls_q (calls_of Try.func14 rfl (by kernel_rfl) (by kernel_rfl) (by rw [Try.ntmps14]; exact Nat.le_of_ble_eq_true rfl) (fun hH0 hA0 => ?_)); rw [Try.results14]
  (repeat' (first | (have hs := Mk.out hs; (try simp only [decide_eq_true_eq, decide_eq_false_iff_not, Bool.not_eq_true, Bool.not_eq_false, Bool.not_true, Bool.not_false, Bool.not_eq_eq_eq_not, Bool.and_eq_true, Bool.or_eq_true, beq_iff_eq, bne_iff_ne, beq_eq_false_iff_ne, ne_eq, Classical.not_not, not_true_eq_false, not_false_eq_true, forall_const, Bool.false_eq_true, false_implies, eq_self] at hs); (try (exfalso; omega)); (try simp (disch := omega) only [go_sem, hl2, hs])) | (refine z_seqr rfl ?_) | (refine w_seq rfl fun K hK => ?_) | (refine z_reg rfl ?_) | (refine z_cond rfl ?_) | (refine w_skip rfl ?_; ((repeat ((fail_if_success (refine hK _ _ (cl_id ?_))); clear hK)); refine hK _ _ (cl_id ?_); clear hK)) | (refine w_ret rfl ?_; (try dsimp only [anorm, ablock, astay]); refine z_end ?_) | (refine z_end0 ?_) | (refine w_block rfl ?_) | (refine w_scope rfl ?_) | (refine w_label rfl ?_; ((repeat ((fail_if_success (refine hK _ _ (cl_id ?_))); clear hK)); refine hK _ _ (cl_id ?_); clear hK)) | (refine w_exit rfl ?_; (try dsimp only [anorm, ablock, astay]); (try simp only [reduceIte, ↓reduceIte, Nat.reduceEqDiff]); ((repeat ((fail_if_success (refine hK _ _ (cl_id ?_))); clear hK)); refine hK _ _ (cl_id ?_); clear hK)) | (refine jend_go [(15, [2, 3]), (14, [0, 4]), (13, [0, 4, 6]), (10, [2, 3]), (12, [2, 3]), (11, [0, 4, 5, 6, 37]), (9, [0, 4, 5, 6, 27]), (8, [0, 4, 5, 6, 20]), (7, [0, 4, 5, 6]), (6, [2, 3]), (5, [0, 4, 15]), (4, [0, 4, 12]), (3, [0, 4]), (2, [2, 3]), (1, [0, 9]), (0, [0])] ?_; simp only [tabAt_cons, sel_nil, sel_cons, put_at, ofl_cons, ofl_nil, T0_at, List.getElem?_cons_zero, List.getElem?_cons_succ, List.getElem?_nil, Option.getD_some, Option.getD_none, reduceIte, ↓reduceIte, Nat.reduceEqDiff]; refine jl_go ?_) | simp (disch := omega) only [go_sem, hl2] | (refine jc_t ?_) | (refine jc_f ?_) | (refine And.intro (by (first | omega | (simp; done) | (simp; omega))) ?_) | (refine mc_b (fun hs => ?_) fun hs => ?_) | (refine mg_st (fun hs => ?_) fun hs => ?_) | (refine mg_sf (fun hs => ?_) fun hs => ?_) | (refine mall_s (fun hs => ?_) fun hs => ?_) | (refine malln_s (fun hs => ?_) fun hs => ?_) | (refine mpk_s (fun hs => ?_) fun hs => ?_) | ((repeat ((fail_if_success (refine hK _ _ (cl_id ?_))); clear hK)); refine hK _ _ (cl_id ?_); clear hK)))
  refine z_loop (α := Nat × List UInt8 × List Tag) rfl (fun x => x.2.1.length < x.1 ∧ x.2.1.length ≤ 1494 ∧ x.2.2.length ≤ 64 ∧ decL x.1 x.2.1 x.2.2 = (z1, z2)) (fun x => x.2.1.length) (fun x => [(0, byts x.2.1), (4, .hs (3 * x.2.2.length) 2 0 x.2.2.length)]) (fun x => dH x.2.2) (b.length + 1, b, []) ⟨Nat.lt_succ_self _, by simp only; omega, Nat.zero_le _, hz⟩ ?_ ?_
  · refine (cq_bare 2 4 rfl).trans (cq_s ?_)
    (simp (disch := omega) only [go_sem])
  clear hz hl hl2 hb
  rintro ⟨f, c, acc⟩ ⟨h1, h2, h3, hz⟩ K hK
  simp only at h1 h2 h3 hz ⊢
  obtain ⟨f, rfl, hz2⟩ := decL_step hz h1
  clear hz
  have hz := hz2
  clear hz2
  by_cases c0 : c.length = 0
  · rw [if_pos c0] at hz
    obtain ⟨rfl, rfl⟩ := Prod.mk.inj hz
    have c1 : ¬ (0 : Int) < c.length := by omega
    clear hK
    (repeat' (first | (have hs := Mk.out hs; (try simp only [decide_eq_true_eq, decide_eq_false_iff_not, Bool.not_eq_true, Bool.not_eq_false, Bool.not_true, Bool.not_false, Bool.not_eq_eq_eq_not, Bool.and_eq_true, Bool.or_eq_true, beq_iff_eq, bne_iff_ne, beq_eq_false_iff_ne, ne_eq, Classical.not_not, not_true_eq_false, not_false_eq_true, forall_const, Bool.false_eq_true, false_implies, eq_self] at hs); (try (exfalso; omega)); (try simp (disch := omega) only [go_sem, c1, hs])) | (refine z_seqr rfl ?_) | (refine w_seq rfl fun K hK => ?_) | (refine z_reg rfl ?_) | (refine z_cond rfl ?_) | (refine w_skip rfl ?_; ((repeat ((fail_if_success (refine hK _ _ (cl_id ?_))); clear hK)); refine hK _ _ (cl_id ?_); clear hK)) | (refine w_ret rfl ?_; (try dsimp only [anorm, ablock, astay]); refine z_end ?_) | (refine z_end0 ?_) | (refine w_block rfl ?_) | (refine w_scope rfl ?_) | (refine w_label rfl ?_; ((repeat ((fail_if_success (refine hK _ _ (cl_id ?_))); clear hK)); refine hK _ _ (cl_id ?_); clear hK)) | (refine w_exit rfl ?_; (try dsimp only [anorm, ablock, astay]); (try simp only [reduceIte, ↓reduceIte, Nat.reduceEqDiff]); ((repeat ((fail_if_success (refine hK _ _ (cl_id ?_))); clear hK)); refine hK _ _ (cl_id ?_); clear hK)) | (refine jend_go [(15, [2, 3]), (14, [0, 4]), (13, [0, 4, 6]), (10, [2, 3]), (12, [2, 3]), (11, [0, 4, 5, 6, 37]), (9, [0, 4, 5, 6, 27]), (8, [0, 4, 5, 6, 20]), (7, [0, 4, 5, 6]), (6, [2, 3]), (5, [0, 4, 15]), (4, [0, 4, 12]), (3, [0, 4]), (2, [2, 3]), (1, [0, 9]), (0, [0])] ?_; simp only [tabAt_cons, sel_nil, sel_cons, put_at, ofl_cons, ofl_nil, T0_at, List.getElem?_cons_zero, List.getElem?_cons_succ, List.getElem?_nil, Option.getD_some, Option.getD_none, reduceIte, ↓reduceIte, Nat.reduceEqDiff]; refine jl_go ?_) | simp (disch := omega) only [go_sem, c1] | (refine jc_t ?_) | (refine jc_f ?_) | (refine And.intro (by (first | omega | (simp; done) | (simp; omega))) ?_) | (refine mc_b (fun hs => ?_) fun hs => ?_) | (refine mg_st (fun hs => ?_) fun hs => ?_) | (refine mg_sf (fun hs => ?_) fun hs => ?_) | (refine mall_s (fun hs => ?_) fun hs => ?_) | (refine malln_s (fun hs => ?_) fun hs => ?_) | (refine mpk_s (fun hs => ?_) fun hs => ?_) | ((repeat ((fail_if_success (refine hK _ _ (cl_id ?_))); clear hK)); refine hK _ _ (cl_id ?_); clear hK)))
    refine ⟨_, _, cq_s (tl := [(0, _)]) ?_, ⟨rfl, rfl⟩⟩
    (simp (disch := omega) only [go_sem])
  rw [if_neg c0] at hz
  have c1 : (0 : Int) < c.length := by omega
  by_cases c2 : c.length < 4
  · rw [if_pos c2] at hz
    obtain ⟨rfl, rfl⟩ := Prod.mk.inj hz
    have c3 : (c.length : Int) < 4 := by omega
    clear hK
    (repeat' (first | (have hs := Mk.out hs; (try simp only [decide_eq_true_eq, decide_eq_false_iff_not, Bool.not_eq_true, Bool.not_eq_false, Bool.not_true, Bool.not_false, Bool.not_eq_eq_eq_not, Bool.and_eq_true, Bool.or_eq_true, beq_iff_eq, bne_iff_ne, beq_eq_false_iff_ne, ne_eq, Classical.not_not, not_true_eq_false, not_false_eq_true, forall_const, Bool.false_eq_true, false_implies, eq_self] at hs); (try (exfalso; omega)); (try simp (disch := omega) only [go_sem, c1, c3, hs])) | (refine z_seqr rfl ?_) | (refine w_seq rfl fun K hK => ?_) | (refine z_reg rfl ?_) | (refine z_cond rfl ?_) | (refine w_skip rfl ?_; ((repeat ((fail_if_success (refine hK _ _ (cl_id ?_))); clear hK)); refine hK _ _ (cl_id ?_); clear hK)) | (refine w_ret rfl ?_; (try dsimp only [anorm, ablock, astay]); refine z_end ?_) | (refine z_end0 ?_) | (refine w_block rfl ?_) | (refine w_scope rfl ?_) | (refine w_label rfl ?_; ((repeat ((fail_if_success (refine hK _ _ (cl_id ?_))); clear hK)); refine hK _ _ (cl_id ?_); clear hK)) | (refine w_exit rfl ?_; (try dsimp only [anorm, ablock, astay]); (try simp only [reduceIte, ↓reduceIte, Nat.reduceEqDiff]); ((repeat ((fail_if_success (refine hK _ _ (cl_id ?_))); clear hK)); refine hK _ _ (cl_id ?_); clear hK)) | (refine jend_go [(15, [2, 3]), (14, [0, 4]), (13, [0, 4, 6]), (10, [2, 3]), (12, [2, 3]), (11, [0, 4, 5, 6, 37]), (9, [0, 4, 5, 6, 27]), (8, [0, 4, 5, 6, 20]), (7, [0, 4, 5, 6]), (6, [2, 3]), (5, [0, 4, 15]), (4, [0, 4, 12]), (3, [0, 4]), (2, [2, 3]), (1, [0, 9]), (0, [0])] ?_; simp only [tabAt_cons, sel_nil, sel_cons, put_at, ofl_cons, ofl_nil, T0_at, List.getElem?_cons_zero, List.getElem?_cons_succ, List.getElem?_nil, Option.getD_some, Option.getD_none, reduceIte, ↓reduceIte, Nat.reduceEqDiff]; refine jl_go ?_) | simp (disch := omega) only [go_sem, c1, c3] | (refine jc_t ?_) | (refine jc_f ?_) | (refine And.intro (by (first | omega | (simp; done) | (simp; omega))) ?_) | (refine mc_b (fun hs => ?_) fun hs => ?_) | (refine mg_st (fun hs => ?_) fun hs => ?_) | (refine mg_sf (fun hs => ?_) fun hs => ?_) | (refine mall_s (fun hs => ?_) fun hs => ?_) | (refine malln_s (fun hs => ?_) fun hs => ?_) | (refine mpk_s (fun hs => ?_) fun hs => ?_) | ((repeat ((fail_if_success (refine hK _ _ (cl_id ?_))); clear hK)); refine hK _ _ (cl_id ?_); clear hK)))
    refine ⟨_, _, cq_any (L' := []) (tl := [(0, .tup [.v (.slice none 0 0), .v (.int .i64 _)])]) [] rfl (by simp [lv]) ?_ ?_, ⟨rfl, rfl⟩⟩ <;> (simp (disch := omega) only [go_sem])
  rw [if_neg c2] at hz
  have c3 : ¬ (c.length : Int) < 4 := by omega
  have n1 := number_am c 0 (by omega) (by omega)
  have n2 := number_am c 2 (by omega) (by omega)
  change ACalls E0 _ _ _ (fun r H' => r = .v (.int .i64 ((typOf c : Nat) : Int)) ∧ H' = []) at n1
  change ACalls E0 _ _ _ (fun r H' => r = .v (.int .i64 ((lenOf c : Nat) : Int)) ∧ H' = []) at n2
  have t1 : typOf c ≤ 65535 := by
    unfold typOf
    have := (c.getD 0 0).toNat_lt
    have := (c.getD 1 0).toNat_lt
    omega
  have t2 : lenOf c ≤ 65535 := by
    unfold lenOf
    have := (c.getD 2 0).toNat_lt
    have := (c.getD 3 0).toNat_lt
    omega
  have cl := byclone_am ((c.drop 4).take (lenOf c)) (by simp; omega)
  have l0 : (dH acc).length = 3 * acc.length + 1 := by simp [dH, dV_len]
  have g0 : (dH acc)[3 * acc.length]? = some (some (.row true 2 (tgh 0 acc))) := by unfold dH; rw [List.getElem?_append_right (by rw [dV_len]; omega), dV_len]; simp
  have tgl : (tgh 0 acc).length = acc.length := tgh_len 0 acc
  have tl : lenOf c ≤ c.length - 4 → ((c.drop 4).take (lenOf c)).length = lenOf c := fun h => by simp; omega
  generalize hy : typOf c = y at *
  generalize hn : lenOf c = n at *
  by_cases c4 : y = 0 ∧ n = 0
  · rw [if_pos c4] at hz
    obtain ⟨rfl, rfl⟩ := Prod.mk.inj hz
    obtain ⟨c5, c6⟩ := c4
    have c7 : (y : Int) = 0 := by omega
    have c8 : (n : Int) = 0 := by omega
    clear hK cl tl c5 c6
    (repeat' (first | (have hs := Mk.out hs; (try simp only [decide_eq_true_eq, decide_eq_false_iff_not, Bool.not_eq_true, Bool.not_eq_false, Bool.not_true, Bool.not_false, Bool.not_eq_eq_eq_not, Bool.and_eq_true, Bool.or_eq_true, beq_iff_eq, bne_iff_ne, beq_eq_false_iff_ne, ne_eq, Classical.not_not, not_true_eq_false, not_false_eq_true, forall_const, Bool.false_eq_true, false_implies, eq_self] at hs); (try (exfalso; omega)); (try simp (disch := omega) only [go_sem, c1, c3, c7, c8, hs])) | (refine z_seqr rfl ?_) | (refine w_seq rfl fun K hK => ?_) | (refine z_reg rfl ?_) | (refine z_cond rfl ?_) | (refine w_skip rfl ?_; ((repeat ((fail_if_success (refine hK _ _ (cl_id ?_))); clear hK)); refine hK _ _ (cl_id ?_); clear hK)) | (refine w_ret rfl ?_; (try dsimp only [anorm, ablock, astay]); refine z_end ?_) | (refine z_end0 ?_) | (refine w_block rfl ?_) | (refine w_scope rfl ?_) | (refine w_label rfl ?_; ((repeat ((fail_if_success (refine hK _ _ (cl_id ?_))); clear hK)); refine hK _ _ (cl_id ?_); clear hK)) | (refine w_exit rfl ?_; (try dsimp only [anorm, ablock, astay]); (try simp only [reduceIte, ↓reduceIte, Nat.reduceEqDiff]); ((repeat ((fail_if_success (refine hK _ _ (cl_id ?_))); clear hK)); refine hK _ _ (cl_id ?_); clear hK)) | (refine jend_go [(15, [2, 3]), (14, [0, 4]), (13, [0, 4, 6]), (10, [2, 3]), (12, [2, 3]), (11, [0, 4, 5, 6, 37]), (9, [0, 4, 5, 6, 27]), (8, [0, 4, 5, 6, 20]), (7, [0, 4, 5, 6]), (6, [2, 3]), (5, [0, 4, 15]), (4, [0, 4, 12]), (3, [0, 4]), (2, [2, 3]), (1, [0, 9]), (0, [0])] ?_; simp only [tabAt_cons, sel_nil, sel_cons, put_at, ofl_cons, ofl_nil, T0_at, List.getElem?_cons_zero, List.getElem?_cons_succ, List.getElem?_nil, Option.getD_some, Option.getD_none, reduceIte, ↓reduceIte, Nat.reduceEqDiff]; refine jl_go ?_) | simp (disch := omega) only [go_sem, c1, c3, c7, c8] | (refine jc_t ?_) | (refine jc_f ?_) | (apply zc (n1) []; (case ok => simp (disch := omega) only [go_sem, cok, sgOk, bcl, c1, c3, c7, c8])) | (apply zc (n2) []; (case ok => simp (disch := omega) only [go_sem, cok, sgOk, bcl, c1, c3, c7, c8])) | (refine And.intro (by (first | omega | (simp; done) | (simp; omega))) ?_) | (refine mc_b (fun hs => ?_) fun hs => ?_) | (refine mg_st (fun hs => ?_) fun hs => ?_) | (refine mg_sf (fun hs => ?_) fun hs => ?_) | (refine mall_s (fun hs => ?_) fun hs => ?_) | (refine malln_s (fun hs => ?_) fun hs => ?_) | (refine mpk_s (fun hs => ?_) fun hs => ?_) | ((repeat ((fail_if_success (refine hK _ _ (cl_id ?_))); clear hK)); refine hK _ _ (cl_id ?_); clear hK)))
    refine ⟨_, _, cq_s (tl := [(0, _)]) ?_, ⟨rfl, rfl⟩⟩
    (simp (disch := omega) only [go_sem])
  rw [if_neg c4] at hz
  by_cases c5 : y = 0 ∨ c.length - 4 < n
  · rw [if_pos c5] at hz
    obtain ⟨rfl, rfl⟩ := Prod.mk.inj hz
    clear hK cl tl
    by_cases c6 : (y : Int) = 0
    · have c8 : ¬ (n : Int) = 0 := by omega
      (repeat' (first | (have hs := Mk.out hs; (try simp only [decide_eq_true_eq, decide_eq_false_iff_not, Bool.not_eq_true, Bool.not_eq_false, Bool.not_true, Bool.not_false, Bool.not_eq_eq_eq_not, Bool.and_eq_true, Bool.or_eq_true, beq_iff_eq, bne_iff_ne, beq_eq_false_iff_ne, ne_eq, Classical.not_not, not_true_eq_false, not_false_eq_true, forall_const, Bool.false_eq_true, false_implies, eq_self] at hs); (try (exfalso; omega)); (try simp (disch := omega) only [go_sem, c1, c3, c6, c8, hs])) | (refine z_seqr rfl ?_) | (refine w_seq rfl fun K hK => ?_) | (refine z_reg rfl ?_) | (refine z_cond rfl ?_) | (refine w_skip rfl ?_; ((repeat ((fail_if_success (refine hK _ _ (cl_id ?_))); clear hK)); refine hK _ _ (cl_id ?_); clear hK)) | (refine w_ret rfl ?_; (try dsimp only [anorm, ablock, astay]); refine z_end ?_) | (refine z_end0 ?_) | (refine w_block rfl ?_) | (refine w_scope rfl ?_) | (refine w_label rfl ?_; ((repeat ((fail_if_success (refine hK _ _ (cl_id ?_))); clear hK)); refine hK _ _ (cl_id ?_); clear hK)) | (refine w_exit rfl ?_; (try dsimp only [anorm, ablock, astay]); (try simp only [reduceIte, ↓reduceIte, Nat.reduceEqDiff]); ((repeat ((fail_if_success (refine hK _ _ (cl_id ?_))); clear hK)); refine hK _ _ (cl_id ?_); clear hK)) | (refine jend_go [(15, [2, 3]), (14, [0, 4]), (13, [0, 4, 6]), (10, [2, 3]), (12, [2, 3]), (11, [0, 4, 5, 6, 37]), (9, [0, 4, 5, 6, 27]), (8, [0, 4, 5, 6, 20]), (7, [0, 4, 5, 6]), (6, [2, 3]), (5, [0, 4, 15]), (4, [0, 4, 12]), (3, [0, 4]), (2, [2, 3]), (1, [0, 9]), (0, [0])] ?_; simp only [tabAt_cons, sel_nil, sel_cons, put_at, ofl_cons, ofl_nil, T0_at, List.getElem?_cons_zero, List.getElem?_cons_succ, List.getElem?_nil, Option.getD_some, Option.getD_none, reduceIte, ↓reduceIte, Nat.reduceEqDiff]; refine jl_go ?_) | simp (disch := omega) only [go_sem, c1, c3, c6, c8] | (refine jc_t ?_) | (refine jc_f ?_) | (apply zc (n1) []; (case ok => simp (disch := omega) only [go_sem, cok, sgOk, bcl, c1, c3, c6, c8])) | (apply zc (n2) []; (case ok => simp (disch := omega) only [go_sem, cok, sgOk, bcl, c1, c3, c6, c8])) | (refine And.intro (by (first | omega | (simp; done) | (simp; omega))) ?_) | (refine mc_b (fun hs => ?_) fun hs => ?_) | (refine mg_st (fun hs => ?_) fun hs => ?_) | (refine mg_sf (fun hs => ?_) fun hs => ?_) | (refine mall_s (fun hs => ?_) fun hs => ?_) | (refine malln_s (fun hs => ?_) fun hs => ?_) | (refine mpk_s (fun hs => ?_) fun hs => ?_) | ((repeat ((fail_if_success (refine hK _ _ (cl_id ?_))); clear hK)); refine hK _ _ (cl_id ?_); clear hK)))
      refine ⟨_, _, cq_any (L' := []) (tl := [(0, .tup [.v (.slice none 0 0), .v (.int .i64 _)])]) [] rfl (by simp [lv]) ?_ ?_, ⟨rfl, rfl⟩⟩ <;> (simp (disch := omega) only [go_sem])
    · have c8 : (c.length : Int) - 4 < n := by omega
      (repeat' (first | (have hs := Mk.out hs; (try simp only [decide_eq_true_eq, decide_eq_false_iff_not, Bool.not_eq_true, Bool.not_eq_false, Bool.not_true, Bool.not_false, Bool.not_eq_eq_eq_not, Bool.and_eq_true, Bool.or_eq_true, beq_iff_eq, bne_iff_ne, beq_eq_false_iff_ne, ne_eq, Classical.not_not, not_true_eq_false, not_false_eq_true, forall_const, Bool.false_eq_true, false_implies, eq_self] at hs); (try (exfalso; omega)); (try simp (disch := omega) only [go_sem, c1, c3, c6, c8, hs])) | (refine z_seqr rfl ?_) | (refine w_seq rfl fun K hK => ?_) | (refine z_reg rfl ?_) | (refine z_cond rfl ?_) | (refine w_skip rfl ?_; ((repeat ((fail_if_success (refine hK _ _ (cl_id ?_))); clear hK)); refine hK _ _ (cl_id ?_); clear hK)) | (refine w_ret rfl ?_; (try dsimp only [anorm, ablock, astay]); refine z_end ?_) | (refine z_end0 ?_) | (refine w_block rfl ?_) | (refine w_scope rfl ?_) | (refine w_label rfl ?_; ((repeat ((fail_if_success (refine hK _ _ (cl_id ?_))); clear hK)); refine hK _ _ (cl_id ?_); clear hK)) | (refine w_exit rfl ?_; (try dsimp only [anorm, ablock, astay]); (try simp only [reduceIte, ↓reduceIte, Nat.reduceEqDiff]); ((repeat ((fail_if_success (refine hK _ _ (cl_id ?_))); clear hK)); refine hK _ _ (cl_id ?_); clear hK)) | (refine jend_go [(15, [2, 3]), (14, [0, 4]), (13, [0, 4, 6]), (10, [2, 3]), (12, [2, 3]), (11, [0, 4, 5, 6, 37]), (9, [0, 4, 5, 6, 27]), (8, [0, 4, 5, 6, 20]), (7, [0, 4, 5, 6]), (6, [2, 3]), (5, [0, 4, 15]), (4, [0, 4, 12]), (3, [0, 4]), (2, [2, 3]), (1, [0, 9]), (0, [0])] ?_; simp only [tabAt_cons, sel_nil, sel_cons, put_at, ofl_cons, ofl_nil, T0_at, List.getElem?_cons_zero, List.getElem?_cons_succ, List.getElem?_nil, Option.getD_some, Option.getD_none, reduceIte, ↓reduceIte, Nat.reduceEqDiff]; refine jl_go ?_) | simp (disch := omega) only [go_sem, c1, c3, c6, c8] | (refine jc_t ?_) | (refine jc_f ?_) | (apply zc (n1) []; (case ok => simp (disch := omega) only [go_sem, cok, sgOk, bcl, c1, c3, c6, c8])) | (apply zc (n2) []; (case ok => simp (disch := omega) only [go_sem, cok, sgOk, bcl, c1, c3, c6, c8])) | (refine And.intro (by (first | omega | (simp; done) | (simp; omega))) ?_) | (refine mc_b (fun hs => ?_) fun hs => ?_) | (refine mg_st (fun hs => ?_) fun hs => ?_) | (refine mg_sf (fun hs => ?_) fun hs => ?_) | (refine mall_s (fun hs => ?_) fun hs => ?_) | (refine malln_s (fun hs => ?_) fun hs => ?_) | (refine mpk_s (fun hs => ?_) fun hs => ?_) | ((repeat ((fail_if_success (refine hK _ _ (cl_id ?_))); clear hK)); refine hK _ _ (cl_id ?_); clear hK)))
      refine ⟨_, _, cq_any (L' := []) (tl := [(0, .tup [.v (.slice none 0 0), .v (.int .i64 _)])]) [] rfl (by simp [lv]) ?_ ?_, ⟨rfl, rfl⟩⟩ <;> (simp (disch := omega) only [go_sem])
  rw [if_neg c5] at hz
  have c6 : ¬ (y : Int) = 0 := by omega
  have c8 : ¬ (c.length : Int) - 4 < n := by omega
  by_cases c9 : acc.length = 64
  · rw [if_pos c9] at hz
    obtain ⟨rfl, rfl⟩ := Prod.mk.inj hz
    have c10 : (acc.length : Int) = 64 := by omega
    clear hK cl tl
    (repeat' (first | (have hs := Mk.out hs; (try simp only [decide_eq_true_eq, decide_eq_false_iff_not, Bool.not_eq_true, Bool.not_eq_false, Bool.not_true, Bool.not_false, Bool.not_eq_eq_eq_not, Bool.and_eq_true, Bool.or_eq_true, beq_iff_eq, bne_iff_ne, beq_eq_false_iff_ne, ne_eq, Classical.not_not, not_true_eq_false, not_false_eq_true, forall_const, Bool.false_eq_true, false_implies, eq_self] at hs); (try (exfalso; omega)); (try simp (disch := omega) only [go_sem, c1, c3, c6, c8, c10, hs])) | (refine z_seqr rfl ?_) | (refine w_seq rfl fun K hK => ?_) | (refine z_reg rfl ?_) | (refine z_cond rfl ?_) | (refine w_skip rfl ?_; ((repeat ((fail_if_success (refine hK _ _ (cl_id ?_))); clear hK)); refine hK _ _ (cl_id ?_); clear hK)) | (refine w_ret rfl ?_; (try dsimp only [anorm, ablock, astay]); refine z_end ?_) | (refine z_end0 ?_) | (refine w_block rfl ?_) | (refine w_scope rfl ?_) | (refine w_label rfl ?_; ((repeat ((fail_if_success (refine hK _ _ (cl_id ?_))); clear hK)); refine hK _ _ (cl_id ?_); clear hK)) | (refine w_exit rfl ?_; (try dsimp only [anorm, ablock, astay]); (try simp only [reduceIte, ↓reduceIte, Nat.reduceEqDiff]); ((repeat ((fail_if_success (refine hK _ _ (cl_id ?_))); clear hK)); refine hK _ _ (cl_id ?_); clear hK)) | (refine jend_go [(15, [2, 3]), (14, [0, 4]), (13, [0, 4, 6]), (10, [2, 3]), (12, [2, 3]), (11, [0, 4, 5, 6, 37]), (9, [0, 4, 5, 6, 27]), (8, [0, 4, 5, 6, 20]), (7, [0, 4, 5, 6]), (6, [2, 3]), (5, [0, 4, 15]), (4, [0, 4, 12]), (3, [0, 4]), (2, [2, 3]), (1, [0, 9]), (0, [0])] ?_; simp only [tabAt_cons, sel_nil, sel_cons, put_at, ofl_cons, ofl_nil, T0_at, List.getElem?_cons_zero, List.getElem?_cons_succ, List.getElem?_nil, Option.getD_some, Option.getD_none, reduceIte, ↓reduceIte, Nat.reduceEqDiff]; refine jl_go ?_) | simp (disch := omega) only [go_sem, c1, c3, c6, c8, c10] | (refine jc_t ?_) | (refine jc_f ?_) | (apply zc (n1) []; (case ok => simp (disch := omega) only [go_sem, cok, sgOk, bcl, c1, c3, c6, c8, c10])) | (apply zc (n2) []; (case ok => simp (disch := omega) only [go_sem, cok, sgOk, bcl, c1, c3, c6, c8, c10])) | (refine And.intro (by (first | omega | (simp; done) | (simp; omega))) ?_) | (refine mc_b (fun hs => ?_) fun hs => ?_) | (refine mg_st (fun hs => ?_) fun hs => ?_) | (refine mg_sf (fun hs => ?_) fun hs => ?_) | (refine mall_s (fun hs => ?_) fun hs => ?_) | (refine malln_s (fun hs => ?_) fun hs => ?_) | (refine mpk_s (fun hs => ?_) fun hs => ?_) | ((repeat ((fail_if_success (refine hK _ _ (cl_id ?_))); clear hK)); refine hK _ _ (cl_id ?_); clear hK)))
    refine ⟨_, _, cq_any (L' := []) (tl := [(0, .tup [.v (.slice none 0 0), .v (.int .i64 _)])]) [] rfl (by simp [lv]) ?_ ?_, ⟨rfl, rfl⟩⟩ <;> (simp (disch := omega) only [go_sem])
  rw [if_neg c9] at hz
  have c10 : ¬ (acc.length : Int) = 64 := by omega
  have tl := tl (by omega)
  have hK2 := fun T' H' => hK T' H' (f, c.drop (4 + n), acc ++ [⟨y, (c.drop 4).take n⟩]) ⟨by simp; omega, by simp; omega, by simp; omega, hz⟩ (by simp; omega)
  simp only at hK2
  clear hK hz
  have d1 : (4 + (n : Int)).toNat = 4 + n := by omega
  have d2 : (4 + (n : Int) - 4).toNat = n := by omega
  have d3 : ((c.length : Int) - (4 + (n : Int))).toNat = c.length - (4 + n) := by omega
  have d4 : List.drop 4 (List.take (4 + n) c) = (c.drop 4).take n := by
    rw [List.drop_take]
    congr 1
    omega
  generalize hv : (c.drop 4).take n = v at *
  have q3 : ∀ A B : Option Blk, (dH acc ++ [A, B]).set (3 * acc.length) none = (dV 0 acc ++ [none]) ++ [A, B] := fun A B => by
    unfold dH
    rw [List.append_assoc, List.set_append_right _ _ (by rw [dV_len]; omega), dV_len]
    simp
  have q5 : dH (acc ++ [⟨(y : Int), v⟩]) = (dV 0 acc ++ [none]) ++ [some (.row true 1 (v.map bcl)), some (.row true 2 [[.v (.int .i64 (y : Int)), .hs (3 * acc.length + 1) 1 0 v.length]]), some (.row true 2 (tgh 0 acc ++ [[.v (.int .i64 (y : Int)), .hs (3 * acc.length + 1) 1 0 v.length]]))] := by
    unfold dH
    rw [dV_snoc, tgh_snoc]
    simp
  rw [q5] at hK2
  have q6 : 3 * (acc ++ [(⟨(y : Int), v⟩ : Tag)]).length = 3 * acc.length + 3 := by simp; omega
  rw [q6] at hK2
  clear q5 q6
  generalize hHd : dH acc = H at *
  generalize hGd : dV 0 acc ++ [none] = G at *
  have lG : G.length = 3 * acc.length + 1 := by rw [← hGd]; simp [dV_len]
  clear hHd hGd
  generalize tgh 0 acc = TT at *
  obtain ⟨N, hN⟩ : ∃ N, N = 3 * acc.length := ⟨_, rfl⟩
  rw [← hN] at l0 g0 lG hK2 ⊢
  simp only [← hN] at q3
  have q1 : ∀ A B : Option Blk, (H ++ [A, B])[N]? = some (some (.row true 2 TT)) := fun A B => by rw [List.getElem?_append_left (by omega)]; exact g0
  have q2 : ∀ A B : Option Blk, (H ++ [A, B])[N + 1 + 1]? = some B := fun A B => by rw [List.getElem?_append_right (by omega), l0]; simp
  have tk : List.take acc.length TT = TT := List.take_of_length_le (by omega)
  clear hN g0
  (repeat' (first | (have hs := Mk.out hs; (try simp only [decide_eq_true_eq, decide_eq_false_iff_not, Bool.not_eq_true, Bool.not_eq_false, Bool.not_true, Bool.not_false, Bool.not_eq_eq_eq_not, Bool.and_eq_true, Bool.or_eq_true, beq_iff_eq, bne_iff_ne, beq_eq_false_iff_ne, ne_eq, Classical.not_not, not_true_eq_false, not_false_eq_true, forall_const, Bool.false_eq_true, false_implies, eq_self] at hs); (try (exfalso; omega)); (try simp (disch := omega) only [go_sem, c1, c3, c6, c8, c10, d1, d2, d3, d4, l0, tgl, q1, q2, q3, tk, lG, hs])) | (refine z_seqr rfl ?_) | (refine w_seq rfl fun K hK => ?_) | (refine z_reg rfl ?_) | (refine z_cond rfl ?_) | (refine w_skip rfl ?_; ((repeat ((fail_if_success (refine hK _ _ (cl_id ?_))); clear hK)); refine hK _ _ (cl_id ?_); clear hK)) | (refine w_ret rfl ?_; (try dsimp only [anorm, ablock, astay]); refine z_end ?_) | (refine z_end0 ?_) | (refine w_block rfl ?_) | (refine w_scope rfl ?_) | (refine w_label rfl ?_; ((repeat ((fail_if_success (refine hK _ _ (cl_id ?_))); clear hK)); refine hK _ _ (cl_id ?_); clear hK)) | (refine w_exit rfl ?_; (try dsimp only [anorm, ablock, astay]); (try simp only [reduceIte, ↓reduceIte, Nat.reduceEqDiff]); ((repeat ((fail_if_success (refine hK _ _ (cl_id ?_))); clear hK)); refine hK _ _ (cl_id ?_); clear hK)) | (refine jend_go [(15, [2, 3]), (14, [0, 4]), (13, [0, 4, 6]), (10, [2, 3]), (12, [2, 3]), (11, [0, 4, 5, 6, 37]), (9, [0, 4, 5, 6, 27]), (8, [0, 4, 5, 6, 20]), (7, [0, 4, 5, 6]), (6, [2, 3]), (5, [0, 4, 15]), (4, [0, 4, 12]), (3, [0, 4]), (2, [2, 3]), (1, [0, 9]), (0, [0])] ?_; simp only [tabAt_cons, sel_nil, sel_cons, put_at, ofl_cons, ofl_nil, T0_at, List.getElem?_cons_zero, List.getElem?_cons_succ, List.getElem?_nil, Option.getD_some, Option.getD_none, reduceIte, ↓reduceIte, Nat.reduceEqDiff]; refine jl_go ?_) | simp (disch := omega) only [go_sem, c1, c3, c6, c8, c10, d1, d2, d3, d4, l0, tgl, q1, q2, q3, tk, lG] | (refine jc_t ?_) | (refine jc_f ?_) | (apply zc (n1) []; (case ok => simp (disch := omega) only [go_sem, cok, sgOk, bcl, c1, c3, c6, c8, c10, d1, d2, d3, d4, l0, tgl, q1, q2, q3, tk, lG])) | (apply zc (n2) []; (case ok => simp (disch := omega) only [go_sem, cok, sgOk, bcl, c1, c3, c6, c8, c10, d1, d2, d3, d4, l0, tgl, q1, q2, q3, tk, lG])) | (apply zc (cl) []; (case ok => simp (disch := omega) only [go_sem, cok, sgOk, bcl, c1, c3, c6, c8, c10, d1, d2, d3, d4, l0, tgl, q1, q2, q3, tk, lG])) | (refine And.intro (by (first | omega | (simp; done) | (simp; omega))) ?_) | (refine mc_b (fun hs => ?_) fun hs => ?_) | (refine mg_st (fun hs => ?_) fun hs => ?_) | (refine mg_sf (fun hs => ?_) fun hs => ?_) | (refine mall_s (fun hs => ?_) fun hs => ?_) | (refine malln_s (fun hs => ?_) fun hs => ?_) | (refine mpk_s (fun hs => ?_) fun hs => ?_) | ((repeat ((fail_if_success (refine hK _ _ (cl_id ?_))); clear hK)); refine hK _ _ (cl_id ?_); clear hK)))
  refine hK2 _ _ (cq_s ?_)
  (simp (disch := omega) only [go_sem, List.length_append])
theorem dV_at (k : Nat) (ts : List Tag) (i : Nat) (hi : i < ts.length) : (dV k ts)[3 * i + 1]? = some (some (.row true 1 ((ts.getD i tg0).val.map bcl))) := by
  induction ts generalizing k i with
  | nil => simp at hi
  | cons t ts ih =>
    cases i with
    | zero => rfl
    | succ i =>
      have e : 3 * (i + 1) + 1 = (3 * i + 1) + 1 + 1 + 1 := by omega
      rw [e]
      show (dV (k + 1) ts)[3 * i + 1]? = _
      rw [ih (k + 1) i (by simpa using hi)]
      rfl
theorem dH_at (ts : List Tag) (i : Nat) (hi : i < ts.length) : (dH ts)[3 * i + 1]? = some (some (.row true 1 ((ts.getD i tg0).val.map bcl))) := by
  unfold dH
  rw [List.getElem?_append_left (by rw [dV_len]; omega)]
  exact dV_at 0 ts i hi
theorem dH_tags (ts : List Tag) : (dH ts)[3 * ts.length]? = some (some (.row true 2 (tgh 0 ts))) := by
  unfold dH
  rw [List.getElem?_append_right (by rw [dV_len]; omega), dV_len]
  simp
theorem dH_len (ts : List Tag) : (dH ts).length = 3 * ts.length + 1 := by simp [dH, dV_len]
theorem tgh_at (k : Nat) (ts : List Tag) (i : Nat) (hi : i < ts.length) : (tgh k ts)[i]? = some [.v (.int .i64 (ts.getD i tg0).typ), .hs (3 * (k + i) + 1) 1 0 (ts.getD i tg0).val.length] := by
  induction ts generalizing k i with
  | nil => simp at hi
  | cons t ts ih =>
    cases i with
    | zero => rfl
    | succ i =>
      show (tgh (k + 1) ts)[i]? = _
      rw [ih (k + 1) i (by simpa using hi)]
      have e : k + 1 + i = k + (i + 1) := by omega
      rw [e]
      rfl
/-- Tag i with another value. -/
def setV (ts : List Tag) (i : Nat) (v : List UInt8) : List Tag := ts.set i ⟨(ts.getD i tg0).typ, v⟩
theorem setV_len (ts : List Tag) (i : Nat) (v : List UInt8) : (setV ts i v).length = ts.length := by simp [setV]
theorem setV_cons (t : Tag) (ts : List Tag) (i : Nat) (v : List UInt8) : setV (t :: ts) (i + 1) v = t :: setV ts i v := rfl
theorem dV_set (k : Nat) (ts : List Tag) (i : Nat) (hi : i < ts.length) (v : List UInt8) (hv : v.length = (ts.getD i tg0).val.length) : (dV k ts).set (3 * i + 1) (some (.row true 1 (v.map bcl))) = dV k (setV ts i v) := by
  induction ts generalizing k i with
  | nil => simp at hi
  | cons t ts ih =>
    cases i with
    | zero =>
      have hv : v.length = t.val.length := hv
      show _ = none :: some (Blk.row true 1 (v.map bcl)) :: some (.row true 2 [[.v (.int .i64 t.typ), .hs (3 * k + 1) 1 0 v.length]]) :: dV (k + 1) ts
      rw [hv]
      rfl
    | succ i =>
      have e : 3 * (i + 1) + 1 = (3 * i + 1) + 1 + 1 + 1 := by omega
      rw [e, setV_cons]
      show _ :: _ :: _ :: ((dV (k + 1) ts).set (3 * i + 1) _) = _ :: _ :: _ :: dV (k + 1) (setV ts i v)
      rw [ih (k + 1) i (by simpa using hi) hv]
theorem tgh_set (k : Nat) (ts : List Tag) (i : Nat) (hi : i < ts.length) (v : List UInt8) (hv : v.length = (ts.getD i tg0).val.length) : tgh k (setV ts i v) = tgh k ts := by
  induction ts generalizing k i with
  | nil => simp at hi
  | cons t ts ih =>
    cases i with
    | zero =>
      have hv : v.length = t.val.length := hv
      show [AV.v (.int .i64 t.typ), .hs (3 * k + 1) 1 0 v.length] :: tgh (k + 1) ts = [AV.v (.int .i64 t.typ), .hs (3 * k + 1) 1 0 t.val.length] :: tgh (k + 1) ts
      rw [hv]
    | succ i =>
      rw [setV_cons]
      show _ :: tgh (k + 1) (setV ts i v) = _ :: tgh (k + 1) ts
      rw [ih (k + 1) i (by simpa using hi) hv]
theorem dH_set (ts : List Tag) (i : Nat) (hi : i < ts.length) (v : List UInt8) (hv : v.length = (ts.getD i tg0).val.length) : (dH ts).set (3 * i + 1) (some (.row true 1 (v.map bcl))) = dH (setV ts i v) := by
  unfold dH
  rw [List.set_append_left _ _ (by rw [dV_len]; omega), dV_set 0 ts i hi v hv, tgh_set 0 ts i hi v hv]
theorem decode_h0 (b : List UInt8) (hb : b.length ≤ 1000000) (h : (dec b).2 = 0) : ACalls E0 14 [byts b] [] fun r H' => r = .tup [.hs (3 * (dec b).1.length) 2 0 (dec b).1.length, .v (.int .i64 0)] ∧ H' = dH (dec b).1 := by
  have hd := decode_hot b hb
  unfold ACalls at hd ⊢
  refine ⟨hd.1, fun w M vs hG hv => (hd.2 w M vs hG hv).mono ?_⟩
  rintro e w' ⟨r, H', v, M', rfl, hR, rest⟩
  refine ⟨r, H', v, M', rfl, ?_, rest⟩
  rcases hR with hR | hR
  · exact absurd h hR.1
  · rw [hR.2.1, h]
    exact ⟨rfl, hR.2.2⟩
theorem decode_h1 (b : List UInt8) (hb : b.length ≤ 1000000) (h : (dec b).2 ≠ 0) : ACalls E0 14 [byts b] [] fun r H' => r = .tup [.v (.slice none 0 0), .v (.int .i64 (dec b).2)] ∧ H' = [] := by
  have hd := decode_hot b hb
  unfold ACalls at hd ⊢
  refine ⟨hd.1, fun w M vs hG hv => (hd.2 w M vs hG hv).mono ?_⟩
  rintro e w' ⟨r, H', v, M', rfl, hR, rest⟩
  refine ⟨r, H', v, M', rfl, ?_, rest⟩
  rcases hR with hR | hR
  · exact ⟨hR.2.1, hR.2.2⟩
  · exact absurd hR.1 h
end Go.Proofs.Ytminoakdilbokaa
