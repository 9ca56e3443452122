/- Encode, its bytes a row of its own; and Encode of tags whose values stay hot. No condition but bounds of lengths. -/
import Derived.Test.YtminoakdilbokaaBl
import Derived.Test.YtminoakdilbokaaLf
set_option linter.unusedSectionVars false
set_option linter.unusedVariables false
set_option linter.unusedSimpArgs false
set_option linter.deprecated false
namespace Go.Proofs.Ytminoakdilbokaa
open Go.RowKit Go.Cx Go.Am
set_option maxRecDepth 8000
set_option maxHeartbeats 2000000
attribute [local irreducible] ACalls jcall jsame jex jexg jexh jguard jconv jload jpart jstore jbin jslice jidxA jidx jfield jfieldA jbuild jbuildS jmake jappend jlen jpick jres jcnd jcopy jcap jborn jdraw jops jop jstr jstrc jlive jend
attribute [local go_sem] reduceIte Nat.reduceEqDiff Nat.reduceAdd Nat.reduceMul Nat.reduceLT Nat.reduceLeDiff Nat.reduceSub Int.reduceLT Int.reduceLE Int.reduceToNat Int.reduceNeg Int.reduceAdd Int.reduceSub UInt8.reduceToNat Int.reduceEq reduceCtorEq Int.reducePow Int.reduceMul Nat.reducePow E0
attribute [local go_sem ↓] reduceIte
attribute [local go_sem high] chunks_bvs
attribute [local go_sem] Nat.one_ne_zero Nat.zero_ne_one decide_true decide_false Bool.false_eq_true Bool.true_eq_false Bool.not_true Bool.not_false jops_nil jops_one jops_g jg_tt jg_ff jg_tf jg_ft jg_n jop_move jop_assign jop_pick jop_alloc jop_box jop_build jop_buildSlice jop_load jop_store jop_nilCheck jop_bin jop_not jop_convert jop_makeFunc jop_makeSlice jop_slice jop_fieldAddr jop_field jop_indexAddr jop_index jop_extract jop_len jop_append jop_call jload_m jpart_t jpart_f jpick_t jpick_f jpick_b jidxA_ptr jidxA_cptr jidxA_rp jidxA_sl jidxA_hs jidxA_os jidx_agg jidx_str jfield_m jfieldA_m jbuild_m jlen_str jlen_sl jlen_hs jlen_os jlen_mt jlen_nil jslice_sl jslice3_sl jpart_bcl jstr_map jstr_nil jstr_cons jstrc_cons jstrc_int jstrc_nil jstrc_map jconv_sl jconv_hs jconv_os jconv_mt jconv_nil jconv_str mk_toList str_toList str_size mk_size jbin_eq_nn jbin_ne_nn jbin_eq_pn jbin_ne_pn jbin_eq_bb jbin_ne_bb beq_self_eq_true oc_int oc_bool oc_str oc_slice oc_ptr oc_nilF amaps_bcl jslice_hs jslice_os jslice_mt jslice_nil jslice_str jslice_ptr jbuildS_m jappend_m jmake_m jconv_int jstore_ptr jstore_rp jbin_add jbin_sub jbin_mul jbin_lss jbin_leq jbin_gtr jbin_geq jbin_eql jbin_neq jbin_and jbin_or jbin_xor jbin_andNot jbin_str_eql jbin_str_neq jres_nil jres_tmp jres_cell jdraw_nil jdraw_q jdraw_l jdraw_b jdraw_gg jdraw_e jdraw_m jdraw_mc jdraw_f jdraw_p jdraw_c jwhen_t bcN_eq convT_m locOf_cptr locCv_int jkeep_nil jkeep_cons jsame_rfl locOf_ptr locOf_rp jdraw_w jex_eq jex_all jexg_eq jexh_eq jborn_m jop_copy jcopy_hs jcopy_os jop_cap jcap_mt jcap_nil jbin_eq_sl jbin_ne_sl jbin_eq_hs jbin_ne_hs hget0 hgetk hset0 hsetk List.set_cons_zero List.set_cons_succ put_at ev_tmp ev_const ev_global ev_func aput_some aput_none T0_at ayield place cells1 splice_cs Nat.mul_one Nat.sub_add_cancel Int.cast_ofNat_Int elems source abound afill bfill dest sure one anorm ablock astay cv_int cv_bool cv_str cv_slice cv_ptr cv_nilFunc List.map_cons List.map_nil List.map_toArray List.getElem?_toArray List.getElem?_cons_zero List.getElem?_cons_succ List.getElem?_nil Option.getD_some Option.getD_none Option.map_some Option.map_none Option.bind_some Option.some.injEq Nat.add_zero Nat.zero_add List.drop_zero List.drop_succ_cons List.take_succ_cons List.take_zero List.take_nil List.drop_nil List.length_cons List.length_nil List.length_append List.nil_append List.cons_append List.append_assoc List.append_nil List.append_cancel_left_eq List.cons.injEq if_true if_false true_and and_true or_false false_or ne_eq not_true_eq_false not_false_eq_true Nat.le_refl Int.toNat_natCast List.replicate_succ List.replicate_zero exists_eq List.toList_toArray List.length_map Prod.mk.injEq exists_eq_left exists_eq_left' exists_eq' exists_eq_right' exists_and_left exists_and_right exists_const bvs_len bvs_drop bvs_take bvs_getD splice_bvs splice_row flat_bcl amaps_bvs jpart_bvs List.take_length List.length_drop List.length_take Nat.min_eq_left Nat.min_eq_right amap amaps amapss bmap amapss_bcl back_nil sg_nil back backs sg List.getD_cons_zero List.getD_cons_succ ofl_cons ofl_nil jbin_quo jbin_rem jbin_shl jbin_shr getD_bcl w8_u8 w8_u16 w8_u32 w8_u64 w8_i64 IntWalk.i64_in IntWalk.u64_in IntWalk.u32_in IntWalk.u16_in bits_u8 bits_u16 bits_u32 bits_u64 bits_i64 nbs_bvs gfs_bvs okS okT okL okD wk_rfl wk_any wk_v wk_nil nb_byts nbss_bcl amap_byts frz_v frz_sl frz_byts frz_ptr frz_any frz_mt frzs_bcl nb nbs nbss nbB sh_lt sh_0 sh_at frz Value.int.injEq Value.bool.injEq Value.string.injEq Nat.lt_add_right_iff_pos Nat.lt_irrefl Nat.zero_lt_one gf gfs gfss gfB gfH gfss_bcl byts uvs_len uvs_drop uvs_take uvs_getD splice_uvs nbs_uvs gfs_uvs amaps_uvs jpart_uvs jpart_uvs0 getD_ucl set_ucl b32_xor b32_or b32_and b32_add b32_not b32_shr b32_shl b32_shr3 b32_shr10 jop_cpl sgn_u32 max_u32 flat_ucl zeros8_len zeros32_len okVs_bvs okVs_uvs getI_ucl getI_bcl amapss_ucl w32_in jop_max jop_min jmax_ii jmin_ii uclss_nb uclss_gf chunks1_c chunks1_0 cl1_iii Int.sub_zero undef amapss_set cels_nil cels_len cels_take cels_drop cels_app cels_getD cels_getI cels_nbss cels_gfss cels_amapss cl1_int cl1_bool cl1_ii cl1_ib cl1_iib snoc_int snoc_bool snoc_ii snoc_ib snoc_iib set_int set_bool rep_bool rep_int eqAV scEq Bool.and_true pr_eta tgs_nil tgs_len tgs_take tgs_drop tgs_app tgs_snoc tgs_getD tgs_getI tgs_nbss tgs_amapss nbss_app amapss_app tagC_eq rwb_nil rwb_len rwb_take rwb_snoc rwb_getD rwb_getI rwb_nbss rwb_amapss okV okVs okEs okA okAs List.not_mem_nil List.mem_cons List.mem_singleton false_and and_false true_or or_true or_self and_self ty1 ty2 ty3 ty4 ty5 ty6 ty7 st7 jeq7 jne7 ty8 st8 jeq8 jne8 ty9 ty10 ty11 ty12 ty13 st13 ty14 st14 ty15 ty16 ty17 ty18 st18 ty19 st19 ty20 ty21 ty22 sl22 ty23 ty24 sl24 ty25 ty27 ty29 ty30 ty31 ty32 ty33 st33 ty34 st34 ty35 ty36 ty38 ty40 ty41 ty42 ty43 ty44 ty45 sl45 ty46 ty48 ty49 ty50 ty51 ty52 ty53 ty54 ty55 ty56 ty57 ar57 ty58 ty59 ty60 st60 ty61 st61 ty62 ar62 ty63 st63 ty64 st64 ty65 ty66 ty67 ty68 ty69 ty70 ty71 ty72 ty73 st73 ty74 st74 ty75 arn7 arn8 arn13 arn14 arn18 arn19 arn33 arn34 arn60 arn61 arn63 arn64 arn73 arn74 stn57 stn62 Try.underlying0 Try.underlying1 Try.underlying2 Try.underlying3 Try.underlying4 Try.underlying5 Try.underlying6 Try.underlying7 Try.underlying8 Try.underlying9 Try.underlying10 Try.underlying11 Try.underlying12 Try.underlying13 Try.underlying14 Try.underlying15 Try.underlying16 Try.underlying17 Try.underlying18 Try.underlying19 Try.underlying20 Try.underlying21 Try.underlying22 Try.underlying23 Try.underlying24 Try.underlying25 Try.underlying26 Try.underlying27 Try.underlying28 Try.underlying29 Try.underlying30 Try.underlying31 Try.underlying32 Try.underlying33 Try.underlying34 Try.underlying35 Try.underlying36 Try.underlying37 Try.underlying38 Try.underlying39 Try.underlying40 Try.underlying41 Try.underlying42 Try.underlying43 Try.underlying44 Try.underlying45 Try.underlying46 Try.underlying47 Try.underlying48 Try.underlying49 Try.underlying50 Try.underlying51 Try.underlying52 Try.underlying53 Try.underlying54 Try.underlying55 Try.underlying56 Try.underlying57 Try.underlying58 Try.underlying59 Try.underlying60 Try.underlying61 Try.underlying62 Try.underlying63 Try.underlying64 Try.underlying65 Try.underlying66 Try.underlying67 Try.underlying68 Try.underlying69 Try.underlying70 Try.underlying71 Try.underlying72 Try.underlying73 Try.underlying74 Try.underlying75
attribute [local go_sem ←] List.map_take List.map_drop

theorem encode_h0 (ts : List Tag) (h : (enc ts).2 = 0) : ACalls E0 10 [.sl 2 (tgs ts)] [] fun r H' => r = .tup [.hs 0 1 0 (encAll ts).length, .v (.int .i64 0)] ∧ H' = [some (.row true 1 (((encAll ts)).map bcl))] := by
  obtain ⟨hm, ha, hl, _⟩ := enc_ok h
  clear h
  have hm2 : ¬ (64 : Int) < ts.length := by omega
  refine calls_q (calls_of Try.func10 rfl (by kernel_rfl) (by kernel_rfl) (by rw [Try.ntmps10]; exact Nat.le_of_ble_eq_true rfl) (fun hH0 hA0 => ?_)); rw [Try.results10]
  (repeat' (first | (have hs := Mk.out hs; (try simp only [decide_eq_true_eq, decide_eq_false_iff_not, Bool.not_eq_true, Bool.not_eq_false, Bool.not_true, Bool.not_false, Bool.not_eq_eq_eq_not, Bool.and_eq_true, Bool.or_eq_true, beq_iff_eq, bne_iff_ne, beq_eq_false_iff_ne, ne_eq, Classical.not_not, not_true_eq_false, not_false_eq_true, forall_const, Bool.false_eq_true, false_implies, eq_self] at hs); (try (exfalso; omega)); (try simp (disch := omega) only [go_sem, hm2, hs])) | (refine z_seqr rfl ?_) | (refine w_seq rfl fun K hK => ?_) | (refine z_reg rfl ?_) | (refine z_cond rfl ?_) | (refine w_skip rfl ?_; ((repeat ((fail_if_success (refine hK _ _ (cl_id ?_))); clear hK)); refine hK _ _ (cl_id ?_); clear hK)) | (refine w_ret rfl ?_; (try dsimp only [anorm, ablock, astay]); refine z_end ?_) | (refine z_end0 ?_) | (refine w_block rfl ?_) | (refine w_scope rfl ?_) | (refine w_label rfl ?_; ((repeat ((fail_if_success (refine hK _ _ (cl_id ?_))); clear hK)); refine hK _ _ (cl_id ?_); clear hK)) | (refine w_exit rfl ?_; (try dsimp only [anorm, ablock, astay]); (try simp only [reduceIte, ↓reduceIte, Nat.reduceEqDiff]); ((repeat ((fail_if_success (refine hK _ _ (cl_id ?_))); clear hK)); refine hK _ _ (cl_id ?_); clear hK)) | (refine jend_go [(21, [2, 3]), (20, [7, 31, 32, 33]), (19, [7, 31, 32, 33]), (18, [7, 9, 31, 32, 33]), (17, [7, 9, 31, 32, 33]), (16, [7, 9, 31, 32, 33]), (15, [7, 31, 32, 33, 34]), (14, [7, 31, 32, 33]), (13, [0, 7]), (12, [2, 3]), (11, [0, 30]), (10, [0, 4, 13, 14, 15]), (9, [0, 4, 13, 14, 15]), (8, [2, 3]), (7, [0, 4, 6, 13, 14, 15, 21]), (6, [0, 4, 6, 13, 14, 15]), (5, [0, 4, 13, 14, 15, 16]), (4, [0, 4, 13, 14, 15]), (3, [0, 4]), (2, [2, 3]), (1, [0, 12]), (0, [0])] ?_; simp only [tabAt_cons, sel_nil, sel_cons, put_at, ofl_cons, ofl_nil, T0_at, List.getElem?_cons_zero, List.getElem?_cons_succ, List.getElem?_nil, Option.getD_some, Option.getD_none, reduceIte, ↓reduceIte, Nat.reduceEqDiff]; refine jl_go ?_) | simp (disch := omega) only [go_sem, hm2] | (refine jc_t ?_) | (refine jc_f ?_) | (refine And.intro (by (first | omega | (simp; done) | (simp; omega))) ?_) | (refine mc_b (fun hs => ?_) fun hs => ?_) | (refine mg_st (fun hs => ?_) fun hs => ?_) | (refine mg_sf (fun hs => ?_) fun hs => ?_) | (refine mall_s (fun hs => ?_) fun hs => ?_) | (refine malln_s (fun hs => ?_) fun hs => ?_) | (refine mpk_s (fun hs => ?_) fun hs => ?_) | ((repeat ((fail_if_success (refine hK _ _ (cl_id ?_))); clear hK)); refine hK _ _ (cl_id ?_); clear hK)))
  refine z_loop rfl (fun i => i ≤ ts.length) (fun i => ts.length - i) (fun i => [(0, .sl 2 (tgs ts)), (4, .v (.int .i64 ((encAll (ts.take i)).length : Int))), (13, .sl 2 (tgs ts)), (14, .v (.int .i64 (ts.length : Int))), (15, .v (.int .i64 (i : Int)))]) (fun _ => []) 0 (Nat.zero_le _) ?_ ?_
  · have e1 : encAll (ts.take 0) = [] := rfl
    rw [e1]
    refine cq_s ?_
    (simp (disch := omega) only [go_sem])
  rintro i hi K hK
  have hpre : (encAll (ts.take i)).length ≤ 1494 := by
    have h6 : encAll ts = encAll (ts.take i) ++ encAll (ts.drop i) := by
      unfold encAll
      rw [← List.flatMap_append, List.take_append_drop]
    rw [h6, List.length_append] at hl
    omega
  by_cases hlt : (i : Int) < ts.length
  · obtain ⟨⟨y, v⟩, ht⟩ : ∃ t, t = ts.getD i tg0 := ⟨_, rfl⟩
    have e1 : (ts.getD i tg0).typ = y := by rw [← ht]
    have e2 : (ts.getD i tg0).val = v := by rw [← ht]
    have hok : okB y v.length = true := by
      have := all_in (i := i) (by omega) ha
      rw [← ht] at this
      exact this
    have hmay := may_am y v
    have h4 : (encAll (ts.take (i + 1))).length = (encAll (ts.take i)).length + (4 + v.length) := by
      rw [take_tg (by omega), encAll_snoc, List.length_append, encOne_length, e2]
    have h5 := okB_le hok
    rw [hok] at hmay
    have hK2 := fun T' H' => hK T' H' (i + 1) (by omega) (by omega)
    rw [h4] at hK2
    clear hK ht
    generalize (encAll (ts.take i)).length = n at hpre hK2 ⊢
    (repeat' (first | (have hs := Mk.out hs; (try simp only [decide_eq_true_eq, decide_eq_false_iff_not, Bool.not_eq_true, Bool.not_eq_false, Bool.not_true, Bool.not_false, Bool.not_eq_eq_eq_not, Bool.and_eq_true, Bool.or_eq_true, beq_iff_eq, bne_iff_ne, beq_eq_false_iff_ne, ne_eq, Classical.not_not, not_true_eq_false, not_false_eq_true, forall_const, Bool.false_eq_true, false_implies, eq_self] at hs); (try (exfalso; omega)); (try simp (disch := omega) only [go_sem, hlt, e1, e2, hs])) | (refine z_seqr rfl ?_) | (refine w_seq rfl fun K hK => ?_) | (refine z_reg rfl ?_) | (refine z_cond rfl ?_) | (refine w_skip rfl ?_; ((repeat ((fail_if_success (refine hK _ _ (cl_id ?_))); clear hK)); refine hK _ _ (cl_id ?_); clear hK)) | (refine w_ret rfl ?_; (try dsimp only [anorm, ablock, astay]); refine z_end ?_) | (refine z_end0 ?_) | (refine w_block rfl ?_) | (refine w_scope rfl ?_) | (refine w_label rfl ?_; ((repeat ((fail_if_success (refine hK _ _ (cl_id ?_))); clear hK)); refine hK _ _ (cl_id ?_); clear hK)) | (refine w_exit rfl ?_; (try dsimp only [anorm, ablock, astay]); (try simp only [reduceIte, ↓reduceIte, Nat.reduceEqDiff]); ((repeat ((fail_if_success (refine hK _ _ (cl_id ?_))); clear hK)); refine hK _ _ (cl_id ?_); clear hK)) | (refine jend_go [(21, [2, 3]), (20, [7, 31, 32, 33]), (19, [7, 31, 32, 33]), (18, [7, 9, 31, 32, 33]), (17, [7, 9, 31, 32, 33]), (16, [7, 9, 31, 32, 33]), (15, [7, 31, 32, 33, 34]), (14, [7, 31, 32, 33]), (13, [0, 7]), (12, [2, 3]), (11, [0, 30]), (10, [0, 4, 13, 14, 15]), (9, [0, 4, 13, 14, 15]), (8, [2, 3]), (7, [0, 4, 6, 13, 14, 15, 21]), (6, [0, 4, 6, 13, 14, 15]), (5, [0, 4, 13, 14, 15, 16]), (4, [0, 4, 13, 14, 15]), (3, [0, 4]), (2, [2, 3]), (1, [0, 12]), (0, [0])] ?_; simp only [tabAt_cons, sel_nil, sel_cons, put_at, ofl_cons, ofl_nil, T0_at, List.getElem?_cons_zero, List.getElem?_cons_succ, List.getElem?_nil, Option.getD_some, Option.getD_none, reduceIte, ↓reduceIte, Nat.reduceEqDiff]; refine jl_go ?_) | simp (disch := omega) only [go_sem, hlt, e1, e2] | (refine jc_t ?_) | (refine jc_f ?_) | (apply zc (hmay) []; (case ok => simp (disch := omega) only [go_sem, cok, sgOk, bcl, hlt, e1, e2])) | (refine And.intro (by (first | omega | (simp; done) | (simp; omega))) ?_) | (refine mc_b (fun hs => ?_) fun hs => ?_) | (refine mg_st (fun hs => ?_) fun hs => ?_) | (refine mg_sf (fun hs => ?_) fun hs => ?_) | (refine mall_s (fun hs => ?_) fun hs => ?_) | (refine malln_s (fun hs => ?_) fun hs => ?_) | (refine mpk_s (fun hs => ?_) fun hs => ?_) | ((repeat ((fail_if_success (refine hK _ _ (cl_id ?_))); clear hK)); refine hK _ _ (cl_id ?_); clear hK)))
    refine hK2 _ _ (cq_all [] rfl (by decide) (by simp) ?_ ?_)
    · (simp (disch := omega) only [go_sem])
    · (simp (disch := omega) only [go_sem])
      omega
  · obtain rfl : i = ts.length := by omega
    clear hpre
    rw [List.take_length]
    clear hK
    have hl2 : ¬ (1494 : Int) < (encAll ts).length := by omega
    generalize hn : (encAll ts).length = n at hl hl2 ⊢
    (repeat' (first | (have hs := Mk.out hs; (try simp only [decide_eq_true_eq, decide_eq_false_iff_not, Bool.not_eq_true, Bool.not_eq_false, Bool.not_true, Bool.not_false, Bool.not_eq_eq_eq_not, Bool.and_eq_true, Bool.or_eq_true, beq_iff_eq, bne_iff_ne, beq_eq_false_iff_ne, ne_eq, Classical.not_not, not_true_eq_false, not_false_eq_true, forall_const, Bool.false_eq_true, false_implies, eq_self] at hs); (try (exfalso; omega)); (try simp (disch := omega) only [go_sem, hlt, hl2, hs])) | (refine z_seqr rfl ?_) | (refine w_seq rfl fun K hK => ?_) | (refine z_reg rfl ?_) | (refine z_cond rfl ?_) | (refine w_skip rfl ?_; ((repeat ((fail_if_success (refine hK _ _ (cl_id ?_))); clear hK)); refine hK _ _ (cl_id ?_); clear hK)) | (refine w_ret rfl ?_; (try dsimp only [anorm, ablock, astay]); refine z_end ?_) | (refine z_end0 ?_) | (refine w_block rfl ?_) | (refine w_scope rfl ?_) | (refine w_label rfl ?_; ((repeat ((fail_if_success (refine hK _ _ (cl_id ?_))); clear hK)); refine hK _ _ (cl_id ?_); clear hK)) | (refine w_exit rfl ?_; (try dsimp only [anorm, ablock, astay]); (try simp only [reduceIte, ↓reduceIte, Nat.reduceEqDiff]); ((repeat ((fail_if_success (refine hK _ _ (cl_id ?_))); clear hK)); refine hK _ _ (cl_id ?_); clear hK)) | (refine jend_go [(21, [2, 3]), (20, [7, 31, 32, 33]), (19, [7, 31, 32, 33]), (18, [7, 9, 31, 32, 33]), (17, [7, 9, 31, 32, 33]), (16, [7, 9, 31, 32, 33]), (15, [7, 31, 32, 33, 34]), (14, [7, 31, 32, 33]), (13, [0, 7]), (12, [2, 3]), (11, [0, 30]), (10, [0, 4, 13, 14, 15]), (9, [0, 4, 13, 14, 15]), (8, [2, 3]), (7, [0, 4, 6, 13, 14, 15, 21]), (6, [0, 4, 6, 13, 14, 15]), (5, [0, 4, 13, 14, 15, 16]), (4, [0, 4, 13, 14, 15]), (3, [0, 4]), (2, [2, 3]), (1, [0, 12]), (0, [0])] ?_; simp only [tabAt_cons, sel_nil, sel_cons, put_at, ofl_cons, ofl_nil, T0_at, List.getElem?_cons_zero, List.getElem?_cons_succ, List.getElem?_nil, Option.getD_some, Option.getD_none, reduceIte, ↓reduceIte, Nat.reduceEqDiff]; refine jl_go ?_) | simp (disch := omega) only [go_sem, hlt, hl2] | (refine jc_t ?_) | (refine jc_f ?_) | (refine And.intro (by (first | omega | (simp; done) | (simp; omega))) ?_) | (refine mc_b (fun hs => ?_) fun hs => ?_) | (refine mg_st (fun hs => ?_) fun hs => ?_) | (refine mg_sf (fun hs => ?_) fun hs => ?_) | (refine mall_s (fun hs => ?_) fun hs => ?_) | (refine malln_s (fun hs => ?_) fun hs => ?_) | (refine mpk_s (fun hs => ?_) fun hs => ?_) | ((repeat ((fail_if_success (refine hK _ _ (cl_id ?_))); clear hK)); refine hK _ _ (cl_id ?_); clear hK)))
    refine z_loop rfl (fun i => i ≤ ts.length) (fun i => ts.length - i) (fun i => [(7, .hs 0 1 0 (encAll (ts.take i)).length), (31, .sl 2 (tgs ts)), (32, .v (.int .i64 (ts.length : Int))), (33, .v (.int .i64 (i : Int)))]) (fun i => [some (.row true 1 (((encAll (ts.take i))).map bcl))]) 0 (Nat.zero_le _) ?_ ?_
    · have e1 : encAll (ts.take 0) = [] := rfl
      rw [e1]
      refine (cq_bare 1 7 rfl).trans (cq_s ?_)
      (simp (disch := omega) only [go_sem])
    intro i hi K hK
    have hpre : (encAll (ts.take i)).length ≤ 1494 := by
      have h6 : encAll ts = encAll (ts.take i) ++ encAll (ts.drop i) := by
        unfold encAll
        rw [← List.flatMap_append, List.take_append_drop]
      rw [h6, List.length_append] at hn
      omega
    by_cases hlt2 : (i : Int) < ts.length
    · obtain ⟨⟨y, v⟩, ht⟩ : ∃ t, t = ts.getD i tg0 := ⟨_, rfl⟩
      have e1 : (ts.getD i tg0).typ = y := by rw [← ht]
      have e2 : (ts.getD i tg0).val = v := by rw [← ht]
      have hok : okB y v.length = true := by
        have := all_in (i := i) (by omega) ha
        rw [← ht] at this
        exact this
      have h5 := okB_le hok
      obtain ⟨p, rfl⟩ := Int.eq_ofNat_of_zero_le (show 0 ≤ y by omega)
      have h4 : encAll (ts.take (i + 1)) = encAll (ts.take i) ++ (be 2 p ++ be 2 v.length ++ v) := by
        rw [take_tg (by omega), encAll_snoc, ← ht]
        rfl
      have p1 := put_cold p 2 (by omega) (by omega)
      have p2 := put_cold v.length 2 (by omega) (by omega)
      have b1 := be_length 2 p
      have b2 := be_length 2 v.length
      have hK2 := fun T' H' => hK T' H' (i + 1) (by omega) (by omega)
      rw [h4] at hK2
      clear hK ht hl
      generalize encAll (ts.take i) = F1 at hpre hK2 ⊢
      generalize be 2 p = B1 at p1 b1 hK2
      generalize be 2 v.length = B2 at p2 b2 hK2
      have f1 : List.take (F1.length + B1.length) (F1.map bcl ++ B1.map bcl) = F1.map bcl ++ B1.map bcl := List.take_of_length_le (by simp)
      have f2 : List.take (F1.length + B1.length + B2.length) (F1.map bcl ++ (B1.map bcl ++ B2.map bcl)) = F1.map bcl ++ (B1.map bcl ++ B2.map bcl) := List.take_of_length_le (by simp; omega)
      have f3 : F1.length + B1.length + B2.length ≤ F1.length + (B1.length + B2.length) := by omega
      (repeat' (first | (have hs := Mk.out hs; (try simp only [decide_eq_true_eq, decide_eq_false_iff_not, Bool.not_eq_true, Bool.not_eq_false, Bool.not_true, Bool.not_false, Bool.not_eq_eq_eq_not, Bool.and_eq_true, Bool.or_eq_true, beq_iff_eq, bne_iff_ne, beq_eq_false_iff_ne, ne_eq, Classical.not_not, not_true_eq_false, not_false_eq_true, forall_const, Bool.false_eq_true, false_implies, eq_self] at hs); (try (exfalso; omega)); (try simp (disch := omega) only [go_sem, hlt2, e1, e2, f1, f2, f3, hs])) | (refine z_seqr rfl ?_) | (refine w_seq rfl fun K hK => ?_) | (refine z_reg rfl ?_) | (refine z_cond rfl ?_) | (refine w_skip rfl ?_; ((repeat ((fail_if_success (refine hK _ _ (cl_id ?_))); clear hK)); refine hK _ _ (cl_id ?_); clear hK)) | (refine w_ret rfl ?_; (try dsimp only [anorm, ablock, astay]); refine z_end ?_) | (refine z_end0 ?_) | (refine w_block rfl ?_) | (refine w_scope rfl ?_) | (refine w_label rfl ?_; ((repeat ((fail_if_success (refine hK _ _ (cl_id ?_))); clear hK)); refine hK _ _ (cl_id ?_); clear hK)) | (refine w_exit rfl ?_; (try dsimp only [anorm, ablock, astay]); (try simp only [reduceIte, ↓reduceIte, Nat.reduceEqDiff]); ((repeat ((fail_if_success (refine hK _ _ (cl_id ?_))); clear hK)); refine hK _ _ (cl_id ?_); clear hK)) | (refine jend_go [(21, [2, 3]), (20, [7, 31, 32, 33]), (19, [7, 31, 32, 33]), (18, [7, 9, 31, 32, 33]), (17, [7, 9, 31, 32, 33]), (16, [7, 9, 31, 32, 33]), (15, [7, 31, 32, 33, 34]), (14, [7, 31, 32, 33]), (13, [0, 7]), (12, [2, 3]), (11, [0, 30]), (10, [0, 4, 13, 14, 15]), (9, [0, 4, 13, 14, 15]), (8, [2, 3]), (7, [0, 4, 6, 13, 14, 15, 21]), (6, [0, 4, 6, 13, 14, 15]), (5, [0, 4, 13, 14, 15, 16]), (4, [0, 4, 13, 14, 15]), (3, [0, 4]), (2, [2, 3]), (1, [0, 12]), (0, [0])] ?_; simp only [tabAt_cons, sel_nil, sel_cons, put_at, ofl_cons, ofl_nil, T0_at, List.getElem?_cons_zero, List.getElem?_cons_succ, List.getElem?_nil, Option.getD_some, Option.getD_none, reduceIte, ↓reduceIte, Nat.reduceEqDiff]; refine jl_go ?_) | simp (disch := omega) only [go_sem, hlt2, e1, e2, f1, f2, f3] | (refine jc_t ?_) | (refine jc_f ?_) | (apply zc (p1) []; (case ok => simp (disch := omega) only [go_sem, cok, sgOk, bcl, hlt2, e1, e2, f1, f2, f3])) | (apply zc (p2) []; (case ok => simp (disch := omega) only [go_sem, cok, sgOk, bcl, hlt2, e1, e2, f1, f2, f3])) | (refine And.intro (by (first | omega | (simp; done) | (simp; omega))) ?_) | (refine mc_b (fun hs => ?_) fun hs => ?_) | (refine mg_st (fun hs => ?_) fun hs => ?_) | (refine mg_sf (fun hs => ?_) fun hs => ?_) | (refine mall_s (fun hs => ?_) fun hs => ?_) | (refine malln_s (fun hs => ?_) fun hs => ?_) | (refine mpk_s (fun hs => ?_) fun hs => ?_) | ((repeat ((fail_if_success (refine hK _ _ (cl_id ?_))); clear hK)); refine hK _ _ (cl_id ?_); clear hK)))
      refine hK2 _ _ (cq_any [4] rfl (by simp [lv]) ?_ ?_)
      · rw [← List.map_append, ← List.map_append, ← List.map_append]
        (simp (disch := omega) only [go_sem, List.append_assoc])
      · (simp (disch := omega) only [go_sem, List.length_append, Nat.add_assoc])
        omega
    · obtain rfl : i = ts.length := by omega
      rw [List.take_length] at hpre ⊢
      clear hK
      subst hn
      generalize encAll ts = F1 at *
      (repeat' (first | (have hs := Mk.out hs; (try simp only [decide_eq_true_eq, decide_eq_false_iff_not, Bool.not_eq_true, Bool.not_eq_false, Bool.not_true, Bool.not_false, Bool.not_eq_eq_eq_not, Bool.and_eq_true, Bool.or_eq_true, beq_iff_eq, bne_iff_ne, beq_eq_false_iff_ne, ne_eq, Classical.not_not, not_true_eq_false, not_false_eq_true, forall_const, Bool.false_eq_true, false_implies, eq_self] at hs); (try (exfalso; omega)); (try simp (disch := omega) only [go_sem, hlt2, hs])) | (refine z_seqr rfl ?_) | (refine w_seq rfl fun K hK => ?_) | (refine z_reg rfl ?_) | (refine z_cond rfl ?_) | (refine w_skip rfl ?_; ((repeat ((fail_if_success (refine hK _ _ (cl_id ?_))); clear hK)); refine hK _ _ (cl_id ?_); clear hK)) | (refine w_ret rfl ?_; (try dsimp only [anorm, ablock, astay]); refine z_end ?_) | (refine z_end0 ?_) | (refine w_block rfl ?_) | (refine w_scope rfl ?_) | (refine w_label rfl ?_; ((repeat ((fail_if_success (refine hK _ _ (cl_id ?_))); clear hK)); refine hK _ _ (cl_id ?_); clear hK)) | (refine w_exit rfl ?_; (try dsimp only [anorm, ablock, astay]); (try simp only [reduceIte, ↓reduceIte, Nat.reduceEqDiff]); ((repeat ((fail_if_success (refine hK _ _ (cl_id ?_))); clear hK)); refine hK _ _ (cl_id ?_); clear hK)) | (refine jend_go [(21, [2, 3]), (20, [7, 31, 32, 33]), (19, [7, 31, 32, 33]), (18, [7, 9, 31, 32, 33]), (17, [7, 9, 31, 32, 33]), (16, [7, 9, 31, 32, 33]), (15, [7, 31, 32, 33, 34]), (14, [7, 31, 32, 33]), (13, [0, 7]), (12, [2, 3]), (11, [0, 30]), (10, [0, 4, 13, 14, 15]), (9, [0, 4, 13, 14, 15]), (8, [2, 3]), (7, [0, 4, 6, 13, 14, 15, 21]), (6, [0, 4, 6, 13, 14, 15]), (5, [0, 4, 13, 14, 15, 16]), (4, [0, 4, 13, 14, 15]), (3, [0, 4]), (2, [2, 3]), (1, [0, 12]), (0, [0])] ?_; simp only [tabAt_cons, sel_nil, sel_cons, put_at, ofl_cons, ofl_nil, T0_at, List.getElem?_cons_zero, List.getElem?_cons_succ, List.getElem?_nil, Option.getD_some, Option.getD_none, reduceIte, ↓reduceIte, Nat.reduceEqDiff]; refine jl_go ?_) | simp (disch := omega) only [go_sem, hlt2] | (refine jc_t ?_) | (refine jc_f ?_) | (refine And.intro (by (first | omega | (simp; done) | (simp; omega))) ?_) | (refine mc_b (fun hs => ?_) fun hs => ?_) | (refine mg_st (fun hs => ?_) fun hs => ?_) | (refine mg_sf (fun hs => ?_) fun hs => ?_) | (refine mall_s (fun hs => ?_) fun hs => ?_) | (refine malln_s (fun hs => ?_) fun hs => ?_) | (refine mpk_s (fun hs => ?_) fun hs => ?_) | ((repeat ((fail_if_success (refine hK _ _ (cl_id ?_))); clear hK)); refine hK _ _ (cl_id ?_); clear hK)))
      refine end_q [0] rfl (by decide) (by simp) ?_ ⟨rfl, rfl⟩ ?_
      · (simp (disch := omega) only [go_sem])
      · (simp (disch := omega) only [go_sem])
theorem frz_val (d : Nat) (ts : List Tag) (i : Nat) (hi : i < ts.length) : frz (d + 1) (dH ts) 0 (.hs (3 * i + 1) 1 0 (ts.getD i tg0).val.length) = byts (ts.getD i tg0).val := by
  unfold frz
  rw [if_neg (by omega), Nat.sub_zero, dH_at ts i hi]
  simp only
  rw [if_pos ⟨trivial, by simp⟩, List.drop_zero, List.take_of_length_le (by simp), frzs_bcl]
theorem frz_tgh (ts : List Tag) : ((tgh 0 ts).map fun e => e.map (frz 1 (dH ts) 0)) = tgs ts := by
  refine List.ext_getElem? fun i => ?_
  rw [List.getElem?_map]
  by_cases hi : i < ts.length
  · rw [tgh_at 0 ts i hi, tgs_getI hi]
    simp only [Option.map_some, List.map_cons, List.map_nil, frz_v, Nat.zero_add]
    rw [frz_val 0 ts i hi]
    rfl
  · rw [List.getElem?_eq_none (by rw [tgh_len]; omega), List.getElem?_eq_none (by rw [tgs_len]; omega)]
    rfl
theorem frz_dH (ts : List Tag) : frz 2 (dH ts) 0 (.hs (3 * ts.length) 2 0 ts.length) = .sl 2 (tgs ts) := by
  unfold frz
  rw [if_neg (by omega), Nat.sub_zero, dH_tags]
  simp only
  rw [if_pos ⟨trivial, by rw [tgh_len]; omega⟩, List.drop_zero, List.take_of_length_le (by rw [tgh_len]; omega), frz_tgh]
theorem encode_l (ts : List Tag) (h : (enc ts).2 = 0) : ACalls E0 10 [.hs (3 * ts.length) 2 0 ts.length] (dH ts) fun r H' => r = .tup [.hs (3 * ts.length + 1) 1 0 (encAll ts).length, .v (.int .i64 0)] ∧ H' = dH ts ++ [some (.row true 1 (((encAll ts)).map bcl))] := by
  have h1 := (encode_h0 ts h).lendF (L := dH ts) (al' := [.hs (3 * ts.length) 2 0 ts.length]) 2 ⟨by rw [frz_dH]; exact Wk.refl _, trivial⟩ ⟨by unfold nb; exact of_eq_true (tgs_nbss ts), trivial⟩ ⟨⟨trivial, trivial, trivial⟩, ⟨rfl, of_eq_true (gfss_bcl _)⟩, trivial⟩
  have e1 : amap (sg (dH ts).length []) (.tup [.hs 0 1 0 (encAll ts).length, .v (.int .i64 0)]) = .tup [.hs (3 * ts.length + 1) 1 0 (encAll ts).length, .v (.int .i64 0)] := by
    simp only [amap, amaps]
    rw [show sg (dH ts).length [] 0 = 3 * ts.length + 1 by rw [dH_len]; rfl]
  have e2 : [some (.row true 1 (((encAll ts)).map bcl))].map (Option.map (bmap (sg (dH ts).length []))) = [some (.row true 1 (((encAll ts)).map bcl))] := by
    simp only [List.map_cons, List.map_nil, Option.map_some, bmap, amapss_bcl]
  rw [e1, e2] at h1
  exact h1
end Go.Proofs.Ytminoakdilbokaa
