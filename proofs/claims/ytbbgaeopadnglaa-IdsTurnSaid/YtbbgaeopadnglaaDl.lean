/- The law IdsAll, by the machine; what is taken where there is some. No condition but the arguments' own ranges. -/
import Derived.Test.YtbbgaeopadnglaaDj
set_option linter.unusedSectionVars false
set_option linter.unusedVariables false
set_option linter.unusedSimpArgs false
set_option linter.deprecated false
namespace Go.Ids
open Go.Am
theorem Al.take_cons {S : Al} (h : S.Ok) {now : Int} (hn : tk? now) {x : Int} {r : List Int} (hf : (S.rouse now).free = x :: r) : S.takeI now = x ∧ S.takeE now = 0 ∧ (S.takeS now).free = r ∧ (S.takeS now).rs = rdR now S.rs ∧ (∃ k : Nat, k < S.tk.length ∧ x = S.low + (k : Int) ∧ gt S.tk k = false ∧ (S.takeS now).tk = S.tk.set k true) ∧ has (S.takeS now).tk S.low x = true := by
  obtain ⟨k, hk, hx, hg⟩ := (h.rouse now).head hf
  have hl : (S.rouse now).low = S.low := rfl
  have ht : (S.rouse now).tk = S.tk := rfl
  rw [hl] at hx
  rw [ht] at hk hg
  have e3 : S.takeS now = (S.rouse now).pop k := by
    have : (x - S.low).toNat = k := by omega
    simp [Al.takeS, hn, hf, this]
  refine ⟨by simp [Al.takeI, hn, hf], by simp [Al.takeE, hn, hf], ?_, by rw [e3]; rfl, ⟨k, hk, hx, hg, by rw [e3]; rfl⟩, ?_⟩
  · rw [e3, Al.pop_free, hf]; rfl
  · rw [e3]
    show has (S.tk.set k true) S.low x = true
    rw [has_iff, mem_tkn]
    exact ⟨k, by simpa using hk, by rw [gt_set hk, if_pos rfl], hx⟩
theorem Al.take_nil {S : Al} {now : Int} (hn : tk? now) (hf : (S.rouse now).free = []) : S.takeI now = 0 ∧ S.takeE now = 111 ∧ S.takeS now = S.rouse now := by
  refine ⟨by simp [Al.takeI, hn, hf], by simp [Al.takeE, hn, hf], by simp [Al.takeS, hn, hf]⟩
theorem idsL_cons (lo : Int) (n : Nat) : idsL lo (n + 1) = lo :: idsL (lo + 1) n := by
  unfold idsL
  rw [List.range_succ_eq_map, List.map_cons, List.map_map]
  congr 1
  · simp
  · exact List.map_congr_left fun j _ => by simp; omega
theorem Al.rouse_nil {S : Al} (h : S.Ok) (hr : S.rs = []) (now : Int) : (S.rouse now).free = S.free := by
  rw [Al.rouse_free h, hr]
  show S.free ++ [] = _
  rw [List.append_nil]
theorem Al.new_free (lo qu : Int) (n : Nat) : (Al.new lo qu n).free = idsL lo n := rfl
end Go.Ids
namespace Go.Proofs.Ytbbgaeopadnglaa
open Go.RowKit Go.Cx Go.Am Go.Ids
set_option maxRecDepth 8000
set_option maxHeartbeats 2000000
attribute [local irreducible] ACalls jcall jsame jex jexg jexh jguard jconv jload jpart jstore jbin jslice jidxA jidx jfield jfieldA jbuild jbuildS jmake jappend jlen jpick jres jcnd jcopy jcap jborn jdraw jops jop jstr jstrc jlive jend
attribute [local go_sem] reduceIte Nat.reduceEqDiff Nat.reduceAdd Nat.reduceMul Nat.reduceLT Nat.reduceLeDiff Nat.reduceSub Int.reduceLT Int.reduceLE Int.reduceToNat Int.reduceNeg Int.reduceAdd Int.reduceSub UInt8.reduceToNat Int.reduceEq reduceCtorEq Int.reducePow Int.reduceMul Nat.reducePow E0
attribute [local go_sem ↓] reduceIte
attribute [local go_sem high] chunks_bvs
attribute [local go_sem] Nat.one_ne_zero Nat.zero_ne_one decide_true decide_false Bool.false_eq_true Bool.true_eq_false Bool.not_true Bool.not_false jops_nil jops_one jops_g jg_tt jg_ff jg_tf jg_ft jg_n jop_move jop_assign jop_pick jop_alloc jop_box jop_build jop_buildSlice jop_load jop_store jop_nilCheck jop_bin jop_not jop_convert jop_makeFunc jop_makeSlice jop_slice jop_fieldAddr jop_field jop_indexAddr jop_index jop_extract jop_len jop_append jop_call jload_m jpart_t jpart_f jpick_t jpick_f jpick_b jidxA_ptr jidxA_cptr jidxA_rp jidxA_sl jidxA_hs jidxA_os jidx_agg jidx_str jfield_m jfieldA_m jbuild_m jlen_str jlen_sl jlen_hs jlen_os jlen_mt jlen_nil jslice_sl jslice3_sl jpart_bcl jstr_map jstr_nil jstr_cons jstrc_cons jstrc_int jstrc_nil jstrc_map jconv_sl jconv_hs jconv_os jconv_mt jconv_nil jconv_str mk_toList str_toList str_size mk_size jbin_eq_nn jbin_ne_nn jbin_eq_pn jbin_ne_pn jbin_eq_bb jbin_ne_bb beq_self_eq_true oc_int oc_bool oc_str oc_slice oc_ptr oc_nilF amaps_bcl jslice_hs jslice_os jslice_mt jslice_nil jslice_str jslice_ptr jbuildS_m jappend_m jmake_m jconv_int jstore_ptr jstore_rp jbin_add jbin_sub jbin_mul jbin_lss jbin_leq jbin_gtr jbin_geq jbin_eql jbin_neq jbin_and jbin_or jbin_xor jbin_andNot jbin_str_eql jbin_str_neq jres_nil jres_tmp jres_cell jdraw_nil jdraw_q jdraw_l jdraw_b jdraw_gg jdraw_e jdraw_m jdraw_f jkeep_nil jkeep_cons jsame_rfl locOf_ptr locOf_rp jdraw_w jex_eq jex_all jexg_eq jexh_eq jborn_m jop_copy jcopy_hs jcopy_os jop_cap jcap_mt jcap_nil jbin_eq_sl jbin_ne_sl jbin_eq_hs jbin_ne_hs hget0 hgetk hset0 hsetk List.set_cons_zero List.set_cons_succ put_at ev_tmp ev_const ev_global ev_func aput_some aput_none T0_at ayield place cells1 splice_cs Nat.mul_one Nat.sub_add_cancel Int.cast_ofNat_Int elems source abound afill bfill dest sure one anorm ablock astay cv_int cv_bool cv_str cv_slice cv_ptr cv_nilFunc List.map_cons List.map_nil List.map_toArray List.getElem?_toArray List.getElem?_cons_zero List.getElem?_cons_succ Option.getD_some Option.getD_none Option.map_some Option.map_none Option.bind_some Option.some.injEq Nat.add_zero Nat.zero_add List.drop_zero List.drop_succ_cons List.take_succ_cons List.take_zero List.take_nil List.drop_nil List.length_cons List.length_nil List.length_append List.nil_append List.cons_append List.append_assoc List.append_nil List.append_cancel_left_eq List.cons.injEq if_true if_false true_and and_true or_false false_or ne_eq not_true_eq_false not_false_eq_true Nat.le_refl Int.toNat_natCast List.replicate_succ List.replicate_zero exists_eq List.toList_toArray List.length_map Prod.mk.injEq exists_eq_left exists_eq_left' exists_eq' exists_eq_right' exists_and_left exists_and_right exists_const bvs_len bvs_drop bvs_take bvs_getD splice_bvs splice_row flat_bcl amaps_bvs jpart_bvs List.take_length List.length_drop List.length_take Nat.min_eq_left Nat.min_eq_right amap amaps amapss bmap amapss_bcl back_nil sg_nil back backs sg List.getD_cons_zero List.getD_cons_succ ofl_cons ofl_nil jbin_quo jbin_rem jbin_shl jbin_shr getD_bcl w8_u8 w8_u16 w8_u32 w8_u64 w8_i64 IntWalk.i64_in IntWalk.u64_in IntWalk.u32_in IntWalk.u16_in bits_u8 bits_u16 bits_u32 bits_u64 bits_i64 nbs_bvs gfs_bvs okS okT okL okD wk_rfl wk_any wk_v wk_nil nb_byts nbss_bcl amap_byts frz_v frz_sl frz_byts frz_ptr frz_any frz_mt frzs_bcl nb nbs nbss nbB sh_lt sh_0 sh_at frz Value.int.injEq Value.bool.injEq Value.string.injEq Nat.lt_add_right_iff_pos Nat.lt_irrefl Nat.zero_lt_one gf gfs gfss gfB gfH gfss_bcl byts uvs_len uvs_drop uvs_take uvs_getD splice_uvs nbs_uvs gfs_uvs amaps_uvs jpart_uvs jpart_uvs0 getD_ucl set_ucl b32_xor b32_or b32_and b32_add b32_not b32_shr b32_shl b32_shr3 b32_shr10 jop_cpl sgn_u32 max_u32 flat_ucl zeros8_len zeros32_len okVs_bvs okVs_uvs getI_ucl getI_bcl amapss_ucl w32_in jop_max jop_min jmax_ii jmin_ii uclss_nb uclss_gf chunks1_c chunks1_0 cl1_iii Int.sub_zero undef amapss_set cels_nil cels_len cels_take cels_drop cels_app cels_getD cels_getI cels_nbss cels_gfss cels_amapss cl1_int cl1_bool cl1_ii cl1_ib cl1_iib snoc_int snoc_bool snoc_ii snoc_ib snoc_iib set_int set_bool rep_bool rep_int eqAV scEq Bool.and_true pr_eta okV okVs okEs okA okAs List.not_mem_nil List.mem_cons List.mem_singleton false_and and_false true_or or_true or_self and_self ty1 ty2 ty3 ty4 ty5 ty6 ty7 st7 jeq7 jne7 ty8 st8 jeq8 jne8 ty9 ty10 ty11 ty12 ty13 st13 ty14 st14 ty15 ty16 ty17 ty18 st18 ty19 st19 ty20 ty21 ty22 sl22 ty23 ty24 ty25 ty27 ty28 sl28 ty29 sl29 ty30 ty31 st31 jeq31 jne31 ty32 st32 jeq32 jne32 ty34 ty35 ty36 ty37 ty38 sl38 ty39 ty40 ty41 ty42 ty43 ty44 ty46 ty47 ty48 st48 ty49 st49 ty50 ty51 sl51 ty52 ty53 st53 jeq53 jne53 ty54 st54 jeq54 jne54 ty55 ty56 ty57 ty58 st58 ty59 st59 ty60 st60 ty61 st61 ty62 st62 ty63 st63 ty64 sl64 ty65 ty66 ty67 ty69 ty70 ty72 ty73 ty74 ty75 ty76 ty77 st77 ty78 st78 ty79 ty80 ty81 ty82 ty83 ty84 ty85 ty86 ty87 ty88 ty89 st89 ty90 st90 ty91 ar91 ty92 st92 ty93 st93 ty94 ty95 ty96 ty97 ty98 ty99 ty100 ty101 st101 ty102 st102 ty103 ty104 arn7 arn8 arn13 arn14 arn18 arn19 arn31 arn32 arn48 arn49 arn53 arn54 arn58 arn59 arn60 arn61 arn62 arn63 arn77 arn78 arn89 arn90 arn92 arn93 arn101 arn102 stn91 Try.underlying0 Try.underlying1 Try.underlying2 Try.underlying3 Try.underlying4 Try.underlying5 Try.underlying6 Try.underlying7 Try.underlying8 Try.underlying9 Try.underlying10 Try.underlying11 Try.underlying12 Try.underlying13 Try.underlying14 Try.underlying15 Try.underlying16 Try.underlying17 Try.underlying18 Try.underlying19 Try.underlying20 Try.underlying21 Try.underlying22 Try.underlying23 Try.underlying24 Try.underlying25 Try.underlying26 Try.underlying27 Try.underlying28 Try.underlying29 Try.underlying30 Try.underlying31 Try.underlying32 Try.underlying33 Try.underlying34 Try.underlying35 Try.underlying36 Try.underlying37 Try.underlying38 Try.underlying39 Try.underlying40 Try.underlying41 Try.underlying42 Try.underlying43 Try.underlying44 Try.underlying45 Try.underlying46 Try.underlying47 Try.underlying48 Try.underlying49 Try.underlying50 Try.underlying51 Try.underlying52 Try.underlying53 Try.underlying54 Try.underlying55 Try.underlying56 Try.underlying57 Try.underlying58 Try.underlying59 Try.underlying60 Try.underlying61 Try.underlying62 Try.underlying63 Try.underlying64 Try.underlying65 Try.underlying66 Try.underlying67 Try.underlying68 Try.underlying69 Try.underlying70 Try.underlying71 Try.underlying72 Try.underlying73 Try.underlying74 Try.underlying75 Try.underlying76 Try.underlying77 Try.underlying78 Try.underlying79 Try.underlying80 Try.underlying81 Try.underlying82 Try.underlying83 Try.underlying84 Try.underlying85 Try.underlying86 Try.underlying87 Try.underlying88 Try.underlying89 Try.underlying90 Try.underlying91 Try.underlying92 Try.underlying93 Try.underlying94 Try.underlying95 Try.underlying96 Try.underlying97 Try.underlying98 Try.underlying99 Try.underlying100 Try.underlying101 Try.underlying102 Try.underlying103 Try.underlying104
attribute [local go_sem ←] List.map_take List.map_drop

theorem all11_am (low many : Nat) (h1 : low ≤ 65535) (h2 : many ≤ 255) : ACalls E0 5 [.v (.int .u16 (low : Int)), .v (.int .u8 (many : Int))] [] fun r _ => r = .v (.bool true) := by
  obtain ⟨q, hq⟩ : ∃ q : Nat, (low : Int).tmod 60000 = (q : Int) ∧ q < 60000 := ⟨low % 60000, rfl, by omega⟩
  obtain ⟨hq, hq2⟩ := hq
  have n1 := new_u (1 + (q : Int)) 0 (many + 1) (by omega) (by omega) (by omega) (by omega)
  have e1 : 1 + (q : Int) + ((many + 1 : Nat) : Int) - 1 = 1 + (q : Int) + (many : Int) := by omega
  have k0 : (Al.new (1 + (q : Int)) 0 (many + 1)).Ok := Al.new_ok (by omega) (by omega) (by omega) (by omega)
  have f0 : (Al.new (1 + (q : Int)) 0 (many + 1)).free = idsL (1 + (q : Int)) (many + 1) := rfl
  have r0 : (Al.new (1 + (q : Int)) 0 (many + 1)).rs = [] := rfl
  have l0 : (Al.new (1 + (q : Int)) 0 (many + 1)).low = 1 + (q : Int) := rfl
  rw [e1] at n1
  revert n1 k0 f0 r0 l0
  generalize Al.new (1 + (q : Int)) 0 (many + 1) = S0
  intro n1 k0 f0 r0 l0
  refine calls_q (calls_of Try.func5 rfl (by kernel_rfl) (by kernel_rfl) (by rw [Try.ntmps5]; exact Nat.le_of_ble_eq_true rfl) (fun hH0 hA0 => ?_)); rw [Try.results5]
  (repeat' (first | (have hs := Mk.out hs; (try simp only [decide_eq_true_eq, decide_eq_false_iff_not, Bool.not_eq_true, Bool.not_eq_false, Bool.not_true, Bool.not_false, Bool.not_eq_eq_eq_not, Bool.and_eq_true, Bool.or_eq_true, beq_iff_eq, bne_iff_ne, beq_eq_false_iff_ne, ne_eq, Classical.not_not, not_true_eq_false, not_false_eq_true, forall_const, Bool.false_eq_true, false_implies, eq_self] at hs); (try (exfalso; omega)); (try simp (disch := omega) only [go_sem, hq, hs])) | (refine z_seqr rfl ?_) | (refine w_seq rfl fun K hK => ?_) | (refine z_reg rfl ?_) | (refine z_cond rfl ?_) | (refine w_skip rfl ?_; ((repeat ((fail_if_success (refine hK _ _ (cl_id ?_))); clear hK)); refine hK _ _ (cl_id ?_); clear hK)) | (refine w_ret rfl ?_; (try dsimp only [anorm, ablock, astay]); refine z_end ?_) | (refine w_block rfl ?_) | (refine w_scope rfl ?_) | (refine w_label rfl ?_; ((repeat ((fail_if_success (refine hK _ _ (cl_id ?_))); clear hK)); refine hK _ _ (cl_id ?_); clear hK)) | (refine w_exit rfl ?_; (try dsimp only [anorm, ablock, astay]); (try simp only [reduceIte, ↓reduceIte, Nat.reduceEqDiff]); ((repeat ((fail_if_success (refine hK _ _ (cl_id ?_))); clear hK)); refine hK _ _ (cl_id ?_); clear hK)) | (refine jend_go [(12, [4]), (11, [6, 11, 12]), (7, [1, 5, 6, 8]), (10, [4]), (9, [1, 5, 6, 8, 58]), (8, [1, 5, 6, 8, 9, 10]), (6, [1, 5, 6, 8, 35]), (5, [1, 5, 6, 8]), (4, [4]), (3, [1, 5, 6, 31]), (2, [1, 5, 6, 7]), (1, [1, 5]), (0, [0, 1])] ?_; simp only [tabAt_cons, sel_nil, sel_cons, put_at, ofl_cons, ofl_nil, T0_at, List.getElem?_cons_zero, List.getElem?_cons_succ, List.getElem?_nil, Option.getD_some, Option.getD_none, reduceIte, ↓reduceIte, Nat.reduceEqDiff]; refine jl_go ?_) | simp (disch := omega) only [go_sem, hq] | (refine jc_t ?_) | (refine jc_f ?_) | (apply zc (n1) []; (case ok => simp (disch := omega) only [go_sem, cok, sgOk, bcl, hq])) | (refine And.intro (by (first | omega | (simp; done) | (simp; omega))) ?_) | (refine mc_b (fun hs => ?_) fun hs => ?_) | (refine mg_st (fun hs => ?_) fun hs => ?_) | (refine mg_sf (fun hs => ?_) fun hs => ?_) | (refine mall_s (fun hs => ?_) fun hs => ?_) | (refine malln_s (fun hs => ?_) fun hs => ?_) | (refine mpk_s (fun hs => ?_) fun hs => ?_) | ((repeat ((fail_if_success (refine hK _ _ (cl_id ?_))); clear hK)); refine hK _ _ (cl_id ?_); clear hK)))
  refine z_loop (α := Nat × Al) rfl (fun x => x.1 ≤ many + 1 ∧ x.2.Ok ∧ x.2.free = idsL (1 + (q : Int) + (x.1 : Int)) (many + 1 - x.1) ∧ x.2.rs = [] ∧ x.2.low = 1 + (q : Int)) (fun x => many + 1 - x.1) (fun x => [(1, .v (.int .u8 (many : Int))), (5, .v (.int .i64 (1 + (q : Int)))), (6, .ptr 0 0), (8, .v (.int .i64 (x.1 : Int)))]) (fun x => [some (.obj [.v (.int .i64 x.2.low), .v (.int .i64 x.2.quiet), .hs 1 1 0 x.2.tk.length, .hs 2 1 0 x.2.fl.length, .v (.int .i64 (x.2.fr : Int)), .hs 3 2 0 x.2.rs.length, .v (.int .i64 0)]), some (.row true 1 (cels x.2.tk)), some (.row true 1 (cels x.2.fl)), some (.row true 2 (cels x.2.rs))]) (0, S0) ⟨Nat.zero_le _, k0, by simpa using f0, r0, l0⟩ (cq_s ?_) ?_
  · (simp (disch := omega) only [go_sem])
  rintro ⟨i, S⟩ ⟨hi, hS, hf, hr, hl⟩ K hK
  simp only at hi hS hf hr hl ⊢
  by_cases hlt : (i : Int) ≤ many
  · have tk : tk? (i : Int) := ⟨by omega, by omega⟩
    have hc : (S.rouse (i : Int)).free = (1 + (q : Int) + (i : Int)) :: idsL (1 + (q : Int) + ((i + 1 : Nat) : Int)) (many + 1 - (i + 1)) := by
      rw [Al.rouse_nil hS hr, hf, show many + 1 - i = many + 1 - (i + 1) + 1 by omega, idsL_cons, show 1 + (q : Int) + (i : Int) + 1 = 1 + (q : Int) + ((i + 1 : Nat) : Int) by omega]
    obtain ⟨t1, t2, t3, t4, _, t6⟩ := Al.take_cons hS tk hc
    have u1 := take_u S hS (i : Int)
    have hS2 := Al.takeS_ok hS (i : Int)
    have hl2 := (Al.takeS_tk (S := S) (i : Int)).2.1
    rw [t1, t2] at u1
    rw [hr] at t4
    rw [← hl2] at t6
    rw [hl] at hl2
    have hK2 := fun T' H' => hK T' H' (i + 1, S.takeS (i : Int)) ⟨by omega, hS2, t3, t4, hl2⟩ (by simp only; omega)
    clear hK hc t1 t2 t3 t4
    generalize S.takeS (i : Int) = S2 at u1 hS2 hl2 t6 hK2
    have v1 := has_am S2.low S2.quiet S2.tk S2.fl S2.fr S2.rs hS2.ne hS2.lo.1 (1 + (q : Int) + (i : Int)) (by omega)
    rw [t6] at v1
    simp only at hK2
    (repeat' (first | (have hs := Mk.out hs; (try simp only [decide_eq_true_eq, decide_eq_false_iff_not, Bool.not_eq_true, Bool.not_eq_false, Bool.not_true, Bool.not_false, Bool.not_eq_eq_eq_not, Bool.and_eq_true, Bool.or_eq_true, beq_iff_eq, bne_iff_ne, beq_eq_false_iff_ne, ne_eq, Classical.not_not, not_true_eq_false, not_false_eq_true, forall_const, Bool.false_eq_true, false_implies, eq_self] at hs); (try (exfalso; omega)); (try simp (disch := omega) only [go_sem, hlt, hs])) | (refine z_seqr rfl ?_) | (refine w_seq rfl fun K hK => ?_) | (refine z_reg rfl ?_) | (refine z_cond rfl ?_) | (refine w_skip rfl ?_; ((repeat ((fail_if_success (refine hK _ _ (cl_id ?_))); clear hK)); refine hK _ _ (cl_id ?_); clear hK)) | (refine w_ret rfl ?_; (try dsimp only [anorm, ablock, astay]); refine z_end ?_) | (refine w_block rfl ?_) | (refine w_scope rfl ?_) | (refine w_label rfl ?_; ((repeat ((fail_if_success (refine hK _ _ (cl_id ?_))); clear hK)); refine hK _ _ (cl_id ?_); clear hK)) | (refine w_exit rfl ?_; (try dsimp only [anorm, ablock, astay]); (try simp only [reduceIte, ↓reduceIte, Nat.reduceEqDiff]); ((repeat ((fail_if_success (refine hK _ _ (cl_id ?_))); clear hK)); refine hK _ _ (cl_id ?_); clear hK)) | (refine jend_go [(12, [4]), (11, [6, 11, 12]), (7, [1, 5, 6, 8]), (10, [4]), (9, [1, 5, 6, 8, 58]), (8, [1, 5, 6, 8, 9, 10]), (6, [1, 5, 6, 8, 35]), (5, [1, 5, 6, 8]), (4, [4]), (3, [1, 5, 6, 31]), (2, [1, 5, 6, 7]), (1, [1, 5]), (0, [0, 1])] ?_; simp only [tabAt_cons, sel_nil, sel_cons, put_at, ofl_cons, ofl_nil, T0_at, List.getElem?_cons_zero, List.getElem?_cons_succ, List.getElem?_nil, Option.getD_some, Option.getD_none, reduceIte, ↓reduceIte, Nat.reduceEqDiff]; refine jl_go ?_) | simp (disch := omega) only [go_sem, hlt] | (refine jc_t ?_) | (refine jc_f ?_) | (apply zc (u1) [0, 1, 2, 3]; (case ok => simp (disch := omega) only [go_sem, cok, sgOk, bcl, hlt])) | (apply zc (v1) [0, 4, 5, 6]; (case ok => simp (disch := omega) only [go_sem, cok, sgOk, bcl, hlt])) | (refine And.intro (by (first | omega | (simp; done) | (simp; omega))) ?_) | (refine mc_b (fun hs => ?_) fun hs => ?_) | (refine mg_st (fun hs => ?_) fun hs => ?_) | (refine mg_sf (fun hs => ?_) fun hs => ?_) | (refine mall_s (fun hs => ?_) fun hs => ?_) | (refine malln_s (fun hs => ?_) fun hs => ?_) | (refine mpk_s (fun hs => ?_) fun hs => ?_) | ((repeat ((fail_if_success (refine hK _ _ (cl_id ?_))); clear hK)); refine hK _ _ (cl_id ?_); clear hK)))
    refine hK2 _ _ (cq_any [0, 4, 5, 6] rfl (by simp [lv]) ?_ ?_)
    · (simp (disch := omega) only [go_sem])
    · (simp (disch := omega) only [go_sem])
      omega
  · obtain rfl : i = many + 1 := by omega
    clear hK
    have hf2 : (S.rouse 0).free = [] := by rw [Al.rouse_nil hS hr, hf, Nat.sub_self]; rfl
    have tk : tk? 0 := ⟨by omega, by omega⟩
    obtain ⟨t1, t2, t3⟩ := Al.take_nil tk hf2
    have u1 := take_u S hS 0
    rw [t1, t2, t3] at u1
    have hS2 := hS.rouse 0
    have v1 := free_u (S.rouse 0) hS2 0
    have e2 : (S.rouse 0).freeN 0 = 0 := by
      have hr2 : (S.rouse 0).rs = [] := by show rdR 0 S.rs = []; rw [hr]; rfl
      rw [Al.freeN, if_pos tk, Al.rouse_nil hS2 hr2, hf2]
      rfl
    rw [e2] at v1
    generalize S.rouse 0 = S2 at u1 v1
    (repeat' (first | (have hs := Mk.out hs; (try simp only [decide_eq_true_eq, decide_eq_false_iff_not, Bool.not_eq_true, Bool.not_eq_false, Bool.not_true, Bool.not_false, Bool.not_eq_eq_eq_not, Bool.and_eq_true, Bool.or_eq_true, beq_iff_eq, bne_iff_ne, beq_eq_false_iff_ne, ne_eq, Classical.not_not, not_true_eq_false, not_false_eq_true, forall_const, Bool.false_eq_true, false_implies, eq_self] at hs); (try (exfalso; omega)); (try simp (disch := omega) only [go_sem, hlt, hs])) | (refine z_seqr rfl ?_) | (refine w_seq rfl fun K hK => ?_) | (refine z_reg rfl ?_) | (refine z_cond rfl ?_) | (refine w_skip rfl ?_; ((repeat ((fail_if_success (refine hK _ _ (cl_id ?_))); clear hK)); refine hK _ _ (cl_id ?_); clear hK)) | (refine w_ret rfl ?_; (try dsimp only [anorm, ablock, astay]); refine z_end ?_) | (refine w_block rfl ?_) | (refine w_scope rfl ?_) | (refine w_label rfl ?_; ((repeat ((fail_if_success (refine hK _ _ (cl_id ?_))); clear hK)); refine hK _ _ (cl_id ?_); clear hK)) | (refine w_exit rfl ?_; (try dsimp only [anorm, ablock, astay]); (try simp only [reduceIte, ↓reduceIte, Nat.reduceEqDiff]); ((repeat ((fail_if_success (refine hK _ _ (cl_id ?_))); clear hK)); refine hK _ _ (cl_id ?_); clear hK)) | (refine jend_go [(12, [4]), (11, [6, 11, 12]), (7, [1, 5, 6, 8]), (10, [4]), (9, [1, 5, 6, 8, 58]), (8, [1, 5, 6, 8, 9, 10]), (6, [1, 5, 6, 8, 35]), (5, [1, 5, 6, 8]), (4, [4]), (3, [1, 5, 6, 31]), (2, [1, 5, 6, 7]), (1, [1, 5]), (0, [0, 1])] ?_; simp only [tabAt_cons, sel_nil, sel_cons, put_at, ofl_cons, ofl_nil, T0_at, List.getElem?_cons_zero, List.getElem?_cons_succ, List.getElem?_nil, Option.getD_some, Option.getD_none, reduceIte, ↓reduceIte, Nat.reduceEqDiff]; refine jl_go ?_) | simp (disch := omega) only [go_sem, hlt] | (refine jc_t ?_) | (refine jc_f ?_) | (apply zc (u1) [0, 1, 2, 3]; (case ok => simp (disch := omega) only [go_sem, cok, sgOk, bcl, hlt])) | (apply zc (v1) [0, 4, 5, 6]; (case ok => simp (disch := omega) only [go_sem, cok, sgOk, bcl, hlt])) | (apply zc (awake11_am) []; (case ok => simp (disch := omega) only [go_sem, cok, sgOk, bcl, hlt])) | (refine And.intro (by (first | omega | (simp; done) | (simp; omega))) ?_) | (refine mc_b (fun hs => ?_) fun hs => ?_) | (refine mg_st (fun hs => ?_) fun hs => ?_) | (refine mg_sf (fun hs => ?_) fun hs => ?_) | (refine mall_s (fun hs => ?_) fun hs => ?_) | (refine malln_s (fun hs => ?_) fun hs => ?_) | (refine mpk_s (fun hs => ?_) fun hs => ?_) | ((repeat ((fail_if_success (refine hK _ _ (cl_id ?_))); clear hK)); refine hK _ _ (cl_id ?_); clear hK)))
    exact end_d 0 rfl ⟨trivial, by (simp (disch := omega) only [go_sem])⟩
end Go.Proofs.Ytbbgaeopadnglaa
