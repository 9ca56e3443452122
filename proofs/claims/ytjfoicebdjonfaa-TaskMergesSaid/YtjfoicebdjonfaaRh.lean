/- The package task: a plan's steps. No condition but bounds of lengths. -/
import Derived.Test.YtjfoicebdjonfaaRg
import Derived.Shelf.Abstract
set_option linter.unusedSectionVars false
set_option linter.unusedVariables false
set_option linter.unusedSimpArgs false
set_option linter.deprecated false
namespace Go.Proofs.Ytjfoicebdjonfaa
open Go.RowKit Go.Cx Go.Am
set_option maxRecDepth 8000
set_option maxHeartbeats 2000000
attribute [local irreducible] ACalls jcall jsame jex jexg jexh jguard jconv jload jpart jstore jbin jslice jidxA jidx jfield jfieldA jbuild jbuildS jmake jappend jlen jpick jres jcnd jcopy jcap jborn jdraw jops jop jstr jstrc jlive jend
attribute [local go_sem] reduceIte Nat.reduceEqDiff Nat.reduceAdd Nat.reduceMul Nat.reduceLT Nat.reduceLeDiff Nat.reduceSub Int.reduceLT Int.reduceLE Int.reduceToNat Int.reduceNeg Int.reduceAdd Int.reduceSub UInt8.reduceToNat Int.reduceEq reduceCtorEq Int.reducePow Int.reduceMul Nat.reducePow E0
attribute [local go_sem ↓] reduceIte
attribute [local go_sem high] chunks_bvs
attribute [local go_sem] Nat.one_ne_zero Nat.zero_ne_one decide_true decide_false Bool.false_eq_true Bool.true_eq_false Bool.not_true Bool.not_false jops_nil jops_one jops_g jg_tt jg_ff jg_tf jg_ft jg_n jop_move jop_assign jop_pick jop_alloc jop_box jop_build jop_buildSlice jop_load jop_store jop_nilCheck jop_bin jop_not jop_convert jop_makeFunc jop_makeSlice jop_slice jop_fieldAddr jop_field jop_indexAddr jop_index jop_extract jop_len jop_append jop_call jload_m jpart_t jpart_f jpick_t jpick_f jpick_b jidxA_ptr jidxA_cptr jidxA_rp jidxA_sl jidxA_hs jidxA_os jidx_agg jidx_str jfield_m jfieldA_m jbuild_m jlen_str jlen_sl jlen_hs jlen_os jlen_mt jlen_nil jslice_sl jslice3_sl jpart_bcl jstr_map jstr_nil jstr_cons jstrc_cons jstrc_int jstrc_nil jstrc_map jconv_sl jconv_hs jconv_os jconv_mt jconv_nil jconv_str mk_toList str_toList str_size mk_size jbin_eq_nn jbin_ne_nn jbin_eq_pn jbin_ne_pn jbin_eq_bb jbin_ne_bb beq_self_eq_true oc_int oc_bool oc_str oc_slice oc_ptr oc_nilF amaps_bcl jslice_hs jslice_os jslice_mt jslice_nil jslice_str jslice_ptr jbuildS_m jappend_m jmake_m jconv_int jstore_ptr jstore_rp jbin_add jbin_sub jbin_mul jbin_lss jbin_leq jbin_gtr jbin_geq jbin_eql jbin_neq jbin_and jbin_or jbin_xor jbin_andNot jbin_str_eql jbin_str_neq jres_nil jres_tmp jres_cell jdraw_nil jdraw_q jdraw_l jdraw_b jdraw_gg jdraw_e jdraw_m jdraw_mc jdraw_f jdraw_p jdraw_c jwhen_t bcN_eq convT_m locOf_cptr locCv_int jkeep_nil jkeep_cons jsame_rfl locOf_ptr locOf_rp jdraw_w jex_eq jex_all jexg_eq jexh_eq jborn_m jop_copy jcopy_hs jcopy_os jop_cap jcap_mt jcap_nil jbin_eq_sl jbin_ne_sl jbin_eq_hs jbin_ne_hs hget0 hgetk hset0 hsetk List.set_cons_zero List.set_cons_succ put_at ev_tmp ev_const ev_global ev_func aput_some aput_none T0_at ayield place cells1 splice_cs Nat.mul_one Nat.sub_add_cancel Int.cast_ofNat_Int elems source abound afill bfill dest sure one anorm ablock astay cv_int cv_bool cv_str cv_slice cv_ptr cv_nilFunc List.map_cons List.map_nil List.map_toArray List.getElem?_toArray List.getElem?_cons_zero List.getElem?_cons_succ List.getElem?_nil Option.getD_some Option.getD_none Option.map_some Option.map_none Option.bind_some Option.some.injEq Nat.add_zero Nat.zero_add List.drop_zero List.drop_succ_cons List.take_succ_cons List.take_zero List.take_nil List.drop_nil List.length_cons List.length_nil List.length_append List.nil_append List.cons_append List.append_assoc List.append_nil List.append_cancel_left_eq List.cons.injEq if_true if_false true_and and_true or_false false_or ne_eq not_true_eq_false not_false_eq_true Nat.le_refl Int.toNat_natCast List.replicate_succ List.replicate_zero exists_eq List.toList_toArray List.length_map Prod.mk.injEq exists_eq_left exists_eq_left' exists_eq' exists_eq_right' exists_and_left exists_and_right exists_const bvs_len bvs_drop bvs_take bvs_getD splice_bvs splice_row flat_bcl amaps_bvs jpart_bvs List.take_length List.length_drop List.length_take Nat.min_eq_left Nat.min_eq_right amap amaps amapss bmap amapss_bcl back_nil sg_nil back backs sg List.getD_cons_zero List.getD_cons_succ ofl_cons ofl_nil jbin_quo jbin_rem jbin_shl jbin_shr getD_bcl w8_u8 w8_u16 w8_u32 w8_u64 w8_i64 IntWalk.i64_in IntWalk.u64_in IntWalk.u32_in IntWalk.u16_in bits_u8 bits_u16 bits_u32 bits_u64 bits_i64 nbs_bvs gfs_bvs okS okT okL okD wk_rfl wk_any wk_v wk_nil nb_byts nbss_bcl amap_byts frz_v frz_sl frz_byts frz_ptr frz_any frz_mt frzs_bcl nb nbs nbss nbB sh_lt sh_0 sh_at frz Value.int.injEq Value.bool.injEq Value.string.injEq Nat.lt_add_right_iff_pos Nat.lt_irrefl Nat.zero_lt_one gf gfs gfss gfB gfH gfss_bcl byts uvs_len uvs_drop uvs_take uvs_getD splice_uvs nbs_uvs gfs_uvs amaps_uvs jpart_uvs jpart_uvs0 getD_ucl set_ucl b32_xor b32_or b32_and b32_add b32_not b32_shr b32_shl b32_shr3 b32_shr10 jop_cpl sgn_u32 max_u32 flat_ucl zeros8_len zeros32_len okVs_bvs okVs_uvs getI_ucl getI_bcl amapss_ucl w32_in jop_max jop_min jmax_ii jmin_ii uclss_nb uclss_gf chunks1_c chunks1_0 cl1_iii Int.sub_zero undef amapss_set cels_nil cels_len cels_take cels_drop cels_app cels_getD cels_getI cels_nbss cels_gfss cels_amapss cl1_int cl1_bool cl1_ii cl1_ib cl1_iib snoc_int snoc_bool snoc_ii snoc_ib snoc_iib set_int set_bool rep_bool rep_int eqAV scEq Bool.and_true pr_eta okV okVs okEs okA okAs List.not_mem_nil List.mem_cons List.mem_singleton false_and and_false true_or or_true or_self and_self ty1 ty2 ty3 ty4 ty5 ty6 ty7 st7 jeq7 jne7 ty8 st8 jeq8 jne8 ty9 ty10 ty11 ty12 ty13 st13 ty14 st14 ty15 ty16 ty17 ty18 st18 ty19 st19 ty20 ty21 ty22 sl22 ty23 ty24 sl24 ty25 ty27 ty28 ty29 ty30 ty31 sl31 ty32 ty34 ty35 ty36 ty37 ty38 ty39 ty40 sl40 ty41 ty42 ty43 ty44 st44 jeq44 jne44 ty45 st45 jeq45 jne45 ty46 ty47 sl47 ty48 sl48 ty49 ty51 ty52 ty53 sl53 ty54 st54 ty55 st55 ty56 ty57 st57 ty58 st58 ty59 st59 ty60 st60 ty61 sl61 ty62 ty63 ty64 ty65 ty66 ty67 ty69 ty70 ty71 st71 jeq71 jne71 ty72 st72 jeq72 jne72 ty73 ty74 ty75 ty76 ty77 ty78 ty79 ty80 sl80 ty81 st81 ty82 st82 ty83 ty84 ty85 sl85 ty86 st86 ty87 st87 ty89 ty91 ty93 ty94 ty95 ty96 ty97 ty98 ty99 ty100 st100 jeq100 jne100 ty101 st101 jeq101 jne101 ty102 ty103 ty104 ty105 ty106 ty107 ty108 ty109 st109 ty110 st110 ty111 ar111 ty112 st112 ty113 st113 ty114 ty115 ty116 ty117 ty118 ty119 ty120 ty121 ty122 st122 ty123 st123 ty124 arn7 arn8 arn13 arn14 arn18 arn19 arn44 arn45 arn54 arn55 arn57 arn58 arn59 arn60 arn71 arn72 arn81 arn82 arn86 arn87 arn100 arn101 arn109 arn110 arn112 arn113 arn122 arn123 stn111 Try.underlying0 Try.underlying1 Try.underlying2 Try.underlying3 Try.underlying4 Try.underlying5 Try.underlying6 Try.underlying7 Try.underlying8 Try.underlying9 Try.underlying10 Try.underlying11 Try.underlying12 Try.underlying13 Try.underlying14 Try.underlying15 Try.underlying16 Try.underlying17 Try.underlying18 Try.underlying19 Try.underlying20 Try.underlying21 Try.underlying22 Try.underlying23 Try.underlying24 Try.underlying25 Try.underlying26 Try.underlying27 Try.underlying28 Try.underlying29 Try.underlying30 Try.underlying31 Try.underlying32 Try.underlying33 Try.underlying34 Try.underlying35 Try.underlying36 Try.underlying37 Try.underlying38 Try.underlying39 Try.underlying40 Try.underlying41 Try.underlying42 Try.underlying43 Try.underlying44 Try.underlying45 Try.underlying46 Try.underlying47 Try.underlying48 Try.underlying49 Try.underlying50 Try.underlying51 Try.underlying52 Try.underlying53 Try.underlying54 Try.underlying55 Try.underlying56 Try.underlying57 Try.underlying58 Try.underlying59 Try.underlying60 Try.underlying61 Try.underlying62 Try.underlying63 Try.underlying64 Try.underlying65 Try.underlying66 Try.underlying67 Try.underlying68 Try.underlying69 Try.underlying70 Try.underlying71 Try.underlying72 Try.underlying73 Try.underlying74 Try.underlying75 Try.underlying76 Try.underlying77 Try.underlying78 Try.underlying79 Try.underlying80 Try.underlying81 Try.underlying82 Try.underlying83 Try.underlying84 Try.underlying85 Try.underlying86 Try.underlying87 Try.underlying88 Try.underlying89 Try.underlying90 Try.underlying91 Try.underlying92 Try.underlying93 Try.underlying94 Try.underlying95 Try.underlying96 Try.underlying97 Try.underlying98 Try.underlying99 Try.underlying100 Try.underlying101 Try.underlying102 Try.underlying103 Try.underlying104 Try.underlying105 Try.underlying106 Try.underlying107 Try.underlying108 Try.underlying109 Try.underlying110 Try.underlying111 Try.underlying112 Try.underlying113 Try.underlying114 Try.underlying115 Try.underlying116 Try.underlying117 Try.underlying118 Try.underlying119 Try.underlying120 Try.underlying121 Try.underlying122 Try.underlying123 Try.underlying124
attribute [local go_sem ←] List.map_take List.map_drop

def HsP (st : List (Int × Int × Bool)) : Heap := [some (.obj [.hs 1 3 0 st.length]), some (.row true 3 (cels st))]
def unU (pre : List (Int × Int × Bool)) : List (Int × Int × Bool) := pre.map fun x => (4, x.2)
def lkS (l : List (Int × Bool)) : List (Int × Int × Bool) := l.map fun x => (2, x)
def planS (l : List (Int × Bool)) : List (Int × Int × Bool) := lkS l ++ [(3, 0, false)] ++ l.reverse.map fun x => (4, x)
theorem unU_rev (l : List (Int × Bool)) : unU (revU l l.length) = l.reverse.map fun x => (4, x) := by
  refine List.ext_getElem (by simp [unU, revU]) fun i h1 h2 => ?_
  have hi : i < l.length := by simpa [unU, revU] using h1
  have h3 : l.length - 1 - i < l.length := by omega
  simp only [unU, revU, List.getElem_map, List.getElem_range, List.getElem_reverse]
  rw [gt_eq h3]
theorem lkS_snoc {l : List (Int × Bool)} {i : Nat} (h : i < l.length) : lkS (l.take (i + 1)) = lkS (l.take i) ++ [(2, (gt l i).1, (gt l i).2)] := by
  rw [take_gt h]; simp [lkS]
theorem alone_am : ACalls E0 32 [] [] fun r H' => r = .sl 3 (cels [((3 : Int), (0 : Int), false)]) ∧ H' = [] := by
  refine ACalls.cold (L0 := [some (.row true 3 (cels [((3 : Int), (0 : Int), false)]))]) (r0 := .hs 0 3 0 1) ?_ 1 _ ⟨by (simp (disch := omega) only [go_sem]), Wk.of (frzC (by simp) rfl rfl)⟩
  refine calls_q (calls_of Try.func32 rfl (by kernel_rfl) (by kernel_rfl) (by rw [Try.ntmps32]; exact Nat.le_of_ble_eq_true rfl) (fun hH0 hA0 => ?_)); rw [Try.results32]
  (repeat' (first | (have hs := Mk.out hs; (try simp only [decide_eq_true_eq, decide_eq_false_iff_not, Bool.not_eq_true, Bool.not_eq_false, Bool.not_true, Bool.not_false, Bool.not_eq_eq_eq_not, Bool.and_eq_true, Bool.or_eq_true, beq_iff_eq, bne_iff_ne, beq_eq_false_iff_ne, ne_eq, Classical.not_not, not_true_eq_false, not_false_eq_true, forall_const, Bool.false_eq_true, false_implies, eq_self] at hs); (try (exfalso; omega)); (try simp (disch := omega) only [go_sem, hs])) | (refine z_seqr rfl ?_) | (refine w_seq rfl fun K hK => ?_) | (refine z_reg rfl ?_) | (refine z_cond rfl ?_) | (refine w_skip rfl ?_; ((repeat ((fail_if_success (refine hK _ _ (cl_id ?_))); clear hK)); refine hK _ _ (cl_id ?_); clear hK)) | (refine w_ret rfl ?_; (try dsimp only [anorm, ablock, astay]); refine z_end ?_) | (refine z_end0 ?_) | (refine w_block rfl ?_) | (refine w_scope rfl ?_) | (refine w_label rfl ?_; ((repeat ((fail_if_success (refine hK _ _ (cl_id ?_))); clear hK)); refine hK _ _ (cl_id ?_); clear hK)) | (refine w_exit rfl ?_; (try dsimp only [anorm, ablock, astay]); (try simp only [reduceIte, ↓reduceIte, Nat.reduceEqDiff]); ((repeat ((fail_if_success (refine hK _ _ (cl_id ?_))); clear hK)); refine hK _ _ (cl_id ?_); clear hK)) | (refine jend_go [(1, [0]), (0, [])] ?_; simp only [tabAt_cons, sel_nil, sel_cons, put_at, ofl_cons, ofl_nil, T0_at, List.getElem?_cons_zero, List.getElem?_cons_succ, List.getElem?_nil, Option.getD_some, Option.getD_none, reduceIte, ↓reduceIte, Nat.reduceEqDiff]; refine jl_go ?_) | simp (disch := omega) only [go_sem] | (refine jc_t ?_) | (refine jc_f ?_) | (refine And.intro (by (first | omega | (simp; done) | (simp; omega))) ?_) | (refine mc_b (fun hs => ?_) fun hs => ?_) | (refine mg_st (fun hs => ?_) fun hs => ?_) | (refine mg_sf (fun hs => ?_) fun hs => ?_) | (refine mall_s (fun hs => ?_) fun hs => ?_) | (refine malln_s (fun hs => ?_) fun hs => ?_) | (refine mpk_s (fun hs => ?_) fun hs => ?_) | ((repeat ((fail_if_success (refine hK _ _ (cl_id ?_))); clear hK)); refine hK _ _ (cl_id ?_); clear hK)))
  refine end_q [0] rfl (by decide) (by simp) ?_ ⟨rfl, rfl⟩ ?_
  · (simp (disch := omega) only [go_sem])
    rfl
  · (simp (disch := omega) only [go_sem])
theorem backward_am (l : List (Int × Bool)) : ACalls E0 81 [.sl 2 (cels l)] [] fun r H' => r = .fn 89 [] [.ptr 0 0] ∧ H' = [some (.obj [.sl 2 (cels l)])] := by
  refine calls_q (calls_of Try.func81 rfl (by kernel_rfl) (by kernel_rfl) (by rw [Try.ntmps81]; exact Nat.le_of_ble_eq_true rfl) (fun hH0 hA0 => ?_)); rw [Try.results81]
  (repeat' (first | (have hs := Mk.out hs; (try simp only [decide_eq_true_eq, decide_eq_false_iff_not, Bool.not_eq_true, Bool.not_eq_false, Bool.not_true, Bool.not_false, Bool.not_eq_eq_eq_not, Bool.and_eq_true, Bool.or_eq_true, beq_iff_eq, bne_iff_ne, beq_eq_false_iff_ne, ne_eq, Classical.not_not, not_true_eq_false, not_false_eq_true, forall_const, Bool.false_eq_true, false_implies, eq_self] at hs); (try (exfalso; omega)); (try simp (disch := omega) only [go_sem, hs])) | (refine z_seqr rfl ?_) | (refine w_seq rfl fun K hK => ?_) | (refine z_reg rfl ?_) | (refine z_cond rfl ?_) | (refine w_skip rfl ?_; ((repeat ((fail_if_success (refine hK _ _ (cl_id ?_))); clear hK)); refine hK _ _ (cl_id ?_); clear hK)) | (refine w_ret rfl ?_; (try dsimp only [anorm, ablock, astay]); refine z_end ?_) | (refine z_end0 ?_) | (refine w_block rfl ?_) | (refine w_scope rfl ?_) | (refine w_label rfl ?_; ((repeat ((fail_if_success (refine hK _ _ (cl_id ?_))); clear hK)); refine hK _ _ (cl_id ?_); clear hK)) | (refine w_exit rfl ?_; (try dsimp only [anorm, ablock, astay]); (try simp only [reduceIte, ↓reduceIte, Nat.reduceEqDiff]); ((repeat ((fail_if_success (refine hK _ _ (cl_id ?_))); clear hK)); refine hK _ _ (cl_id ?_); clear hK)) | (refine jend_go [(1, [2]), (0, [1])] ?_; simp only [tabAt_cons, sel_nil, sel_cons, put_at, ofl_cons, ofl_nil, T0_at, List.getElem?_cons_zero, List.getElem?_cons_succ, List.getElem?_nil, Option.getD_some, Option.getD_none, reduceIte, ↓reduceIte, Nat.reduceEqDiff]; refine jl_go ?_) | simp (disch := omega) only [go_sem] | (refine jc_t ?_) | (refine jc_f ?_) | (refine And.intro (by (first | omega | (simp; done) | (simp; omega))) ?_) | (refine mc_b (fun hs => ?_) fun hs => ?_) | (refine mg_st (fun hs => ?_) fun hs => ?_) | (refine mg_sf (fun hs => ?_) fun hs => ?_) | (refine mall_s (fun hs => ?_) fun hs => ?_) | (refine malln_s (fun hs => ?_) fun hs => ?_) | (refine mpk_s (fun hs => ?_) fun hs => ?_) | ((repeat ((fail_if_success (refine hK _ _ (cl_id ?_))); clear hK)); refine hK _ _ (cl_id ?_); clear hK)))
  refine end_q [0] rfl (by decide) (by simp) ?_ ⟨rfl, rfl⟩ ?_
  · (simp (disch := omega) only [go_sem])
  · (simp (disch := omega) only [go_sem])
theorem hsP_gf (st : List (Int × Int × Bool)) : gfH (HsP st) := ⟨⟨trivial, trivial⟩, ⟨rfl, of_eq_true (cels_gfss st)⟩, trivial⟩
theorem hsP_id (st : List (Int × Int × Bool)) : ∀ (k : Nat) (B : Blk), (HsP st)[k]? = some (some B) → bmap (fun r => r) B = B := fun k B hk => by
  match k with
  | 0 => cases hk; rfl
  | 1 => cases hk; simp only [bmap, cels_amapss]
  | k + 2 => cases hk
theorem hsP_nb (st : List (Int × Int × Bool)) : ∀ (k : Nat) (B : Blk), (HsP st)[k]? = some (some B) → nbB 2 B := fun k B hk => by
  match k with
  | 0 => cases hk; exact ⟨(by decide : 1 < 2), trivial⟩
  | 1 => cases hk; exact of_eq_true (cels_nbss st)
  | k + 2 => cases hk
theorem hsP_free {M : Mem} {W : World} {st : List (Int × Int × Bool)} (hG : Gam E0.gl M W (HsP st)) (hne : 0 < st.length) {b : Nat} {cur : Array Value} {t : TypeId} {fr : Nat × Nat} (hb : W.heap[b]? = some (.cells cur t fr)) (hc : cur.size = 2) : ∀ r B, (HsP st)[r]? = some (some B) → M.blk r ≠ some b := by
  intro r B hr e
  have h := hG.blks r B hr
  match r with
  | 0 =>
    cases hr
    obtain ⟨b', cur', t', fr', h1, h2, _, _, h5⟩ := h
    rw [h1] at e
    cases e
    rw [hb] at h2
    cases h2
    have := VRs.len h5
    simp at this
    omega
  | 1 =>
    cases hr
    rcases h with ⟨h1, _⟩ | ⟨b', cur', t', fr', us, h1, h2, _, _, h5, h6, _⟩
    · rw [h1] at e; cases e
    · rw [h1] at e
      cases e
      rw [hb] at h2
      cases h2
      have k1 := VRss.len h5
      rw [cels_len] at k1
      have k2 := congrArg List.length h6
      have k3 : cur.toList.length = cur.size := Array.length_toList
      simp only [List.length_take] at k2
      omega
  | r + 2 => cases hr
/-- What stands between two rounds. -/
def IP (Mi : Mem) (w1 : World) (st : List (Int × Int × Bool)) (pre : List (Int × Int × Bool)) (W : World) : Prop :=
  ∃ M, M.G = Mi.G ∧ Gam E0.gl M W (HsP (st ++ unU pre)) ∧ ExtB 1 Mi w1 (HsP st) M W (HsP (st ++ unU pre))
/-- .. and the loop's variable. -/
def AP (N : Nat) (w1 : World) (v3 : Value) (x : Int × Int × Bool) (a' : Act) (W : World) : Prop :=
  ∃ b t fr, w1.heap.size ≤ b ∧ a'.tmps.size = N ∧ a'.tmps.getD 3 undef = v3 ∧ a'.tmps.getD 7 undef = .pointer (some ⟨b, 0, none⟩) ∧ W.heap[b]? = some (.cells #[.int .i64 x.2.1, .bool x.2.2] t fr) ∧ (fr = (0, 0) ∨ 2 ≤ fr.1)
theorem ip_own {Mi : Mem} {w1 : World} {st : List (Int × Int × Bool)} (hin : ∀ b, Mi.G b → b < w1.heap.size) : OwnFrom w1.heap.size (IP Mi w1 st) := by
  rintro pre W W' row ⟨M, h1, h2, h3⟩ hg hr
  refine ⟨M, h1, h2.other hg (fun r e hb => ?_) (fun r e => ?_), h3.other hg fun r e => (hr r e).1⟩
  · rw [h1] at hb
    have := hin r hb
    have := (hr r e).1
    omega
  · obtain ⟨_, o, ho, hc⟩ := hr r e
    exact h2.notCells ho hc
theorem ap_own {N : Nat} {w1 : World} {v3 : Value} (x : Int × Int × Bool) (a' : Act) : OwnFrom w1.heap.size (fun (_ : Unit) W => AP N w1 v3 x a' W) := by
  rintro _ W W' row ⟨b, t, fr, h1, h2, h3, h4, h5, h6⟩ hg hr
  refine ⟨b, t, fr, h1, h2, h3, h4, (hg.block b (Array.getElem?_eq_some_iff.1 h5).1 (fun e => ?_)).trans h5, h6⟩
  obtain ⟨_, o, ho, hc⟩ := hr b e.symm
  rw [h5] at ho
  cases ho
  cases hc
/-- Behind some operations: what stands is said anew. -/
theorem ip_next {Mi M M' : Mem} {w1 W W' : World} {st u' : List (Int × Int × Bool)} {H0 H' : Heap} (hE : ExtB 1 Mi w1 (HsP st) M W H0) (h : ExtB 1 M W H0 M' W' H') (hn : 1 ≤ H'.length) (hG : Gam E0.gl M' W' H') {T : Nat → AV} {N : Nat} {a : Act} (hT : TR M' H'.length W' N T a) (hc : Cq E0 1 T H' (ofl []) (HsP u')) :
    ∃ M2, M2.G = Mi.G ∧ Gam E0.gl M2 W' (HsP u') ∧ ExtB 1 Mi w1 (HsP st) M2 W' (HsP u') := by
  obtain ⟨_, hc⟩ := hc hn
  obtain ⟨M3, g1, _, g3⟩ := hc M' W' N a hG hT
  have hE3 := (hE.trans h).trans g3
  exact ⟨{ M3 with G := Mi.G }, rfl, g1.shrink (fun _ => rfl) Mi.G hE3.G (hsP_gf _) (hsP_id _), hE3.shrink⟩
theorem plan_am (l : List (Int × Bool)) (hl : l.length ≤ 1000000) : ACalls E0 57 [.sl 2 (cels l)] [] fun r H' => r = .hs 0 3 0 (planS l).length ∧ H' = [some (.row true 3 (cels (planS l)))] := by
  have hA := alone_am
  have hB := backward_am l
  refine calls_q (calls_marks Try.func57 rfl (by kernel_rfl) fun w M vs hG hv => ?_)
  rw [Try.ntmps57]
  have hT0 := tr_T0 (N := 33) hv (by simp)
  generalize ha0 : ({ tmps := vs.toArray ++ Array.replicate (33 - vs.toArray.size) undef, defers := [] } : Act) = a0 at *
  have hD0 : a0.defers = [] := by rw [← ha0]
  clear ha0
  refine pre5 (E := E0) (N := 33) (n := 0) (M := M) (H := []) (T := T0 [.sl 2 (cels l)]) (K := fun T H => T = ofl [(3, .ptr 0 0), (24, .fn 89 [] [.ptr 2 0])] ∧ H = HsP (lkS l ++ [(3, 0, false)]) ++ [some (.obj [.sl 2 (cels l)])]) (fun _ => rfl) (by kernel_rfl) (by kernel_rfl) (Nat.le_refl _) hG hT0 ?walk ?rest
  case walk =>
    clear hG hv hT0 hD0
    -- refine calls_q (calls_of Try.func57 rfl (by kernel_rfl) (by kernel_rfl) (by rw [Try.ntmps57]; exact Nat.le_of_ble_eq_true rfl) (fun hH0 hA0 => ?_)); rw [Try.results57]
    (repeat' (first | (have hs := Mk.out hs; (try simp only [decide_eq_true_eq, decide_eq_false_iff_not, Bool.not_eq_true, Bool.not_eq_false, Bool.not_true, Bool.not_false, Bool.not_eq_eq_eq_not, Bool.and_eq_true, Bool.or_eq_true, beq_iff_eq, bne_iff_ne, beq_eq_false_iff_ne, ne_eq, Classical.not_not, not_true_eq_false, not_false_eq_true, forall_const, Bool.false_eq_true, false_implies, eq_self] at hs); (try (exfalso; omega)); (try simp (disch := omega) only [go_sem, hs])) | (refine z_seqr rfl ?_) | (refine z_seqd 7 [.q, .q, .e, .e] rfl (by kernel_rfl) (by kernel_rfl) ?_) | (refine w_seq rfl fun K hK => ?_) | (refine z_reg rfl ?_) | (refine z_cond rfl ?_) | (refine w_skip rfl ?_; ((repeat ((fail_if_success (refine hK _ _ (cl_id ?_))); clear hK)); refine hK _ _ (cl_id ?_); clear hK)) | (refine w_ret rfl ?_; (try dsimp only [anorm, ablock, astay]); refine z_end ?_) | (refine z_end0 ?_) | (refine w_block rfl ?_) | (refine w_scope rfl ?_) | (refine w_label rfl ?_; ((repeat ((fail_if_success (refine hK _ _ (cl_id ?_))); clear hK)); refine hK _ _ (cl_id ?_); clear hK)) | (refine w_exit rfl ?_; (try dsimp only [anorm, ablock, astay]); (try simp only [reduceIte, ↓reduceIte, Nat.reduceEqDiff]); ((repeat ((fail_if_success (refine hK _ _ (cl_id ?_))); clear hK)); refine hK _ _ (cl_id ?_); clear hK)) | (refine jend_go [(11, [2]), (8, [3]), (7, [0, 3]), (6, [0, 3, 8, 9, 10]), (5, [0, 3, 8, 9, 10]), (4, [0, 3, 5, 8, 9, 10]), (3, [0, 3, 8, 9, 10, 11]), (2, [0, 3, 8, 9, 10]), (1, [0, 3]), (0, [0])] ?_; simp only [tabAt_cons, sel_nil, sel_cons, put_at, ofl_cons, ofl_nil, T0_at, List.getElem?_cons_zero, List.getElem?_cons_succ, List.getElem?_nil, Option.getD_some, Option.getD_none, reduceIte, ↓reduceIte, Nat.reduceEqDiff]; refine jl_go ?_) | simp (disch := omega) only [go_sem] | (refine jc_t ?_) | (refine jc_f ?_) | (refine jx rfl ?_) | (refine jx (fun _ => rfl) ?_) | (refine jxg ⟨rfl, rfl⟩ ?_) | (refine jxh ⟨rfl, rfl⟩ ?_) | (refine jx ⟨by (first | omega | (simp; done) | (simp; omega)), rfl⟩ ?_) | (refine jx (fun _ => ⟨by (first | omega | (simp; done) | (simp; omega)), rfl⟩) ?_) | (refine jxg ⟨by (first | omega | (simp; done) | (simp; omega)), rfl, rfl⟩ ?_) | (refine jxh ⟨by (first | omega | (simp; done) | (simp; omega)), rfl, rfl⟩ ?_) | (refine jx ⟨by (first | omega | (simp; done) | (simp; omega)), by (first | omega | (simp; done) | (simp; omega)), rfl⟩ ?_) | ((first | apply zc (hA) [] | apply jxc (hA) [] | apply jxgc (hA) | apply jxhc (hA) [] | apply jxcl (hA)); (case ok => simp (disch := omega) only [go_sem, cok, sgOk, bcl, implies_true, ])) | ((first | apply zc (hB) [] | apply jxc (hB) [] | apply jxgc (hB) | apply jxhc (hB) [] | apply jxcl (hB)); (case ok => simp (disch := omega) only [go_sem, cok, sgOk, bcl, implies_true, ])) | (refine And.intro (by (first | omega | (simp; done) | (simp; omega))) ?_) | (refine mc_b (fun hs => ?_) fun hs => ?_) | (refine mg_st (fun hs => ?_) fun hs => ?_) | (refine mg_sf (fun hs => ?_) fun hs => ?_) | (refine mall_s (fun hs => ?_) fun hs => ?_) | (refine malln_s (fun hs => ?_) fun hs => ?_) | (refine mpk_s (fun hs => ?_) fun hs => ?_) | ((repeat ((fail_if_success (refine hK _ _ (cl_id ?_))); clear hK)); refine hK _ _ (cl_id ?_); clear hK)))
    refine z_loop rfl (fun i => i ≤ l.length) (fun i => l.length - i) (fun i => [(0, .sl 2 (cels l)), (3, .ptr 0 0), (8, .sl 2 (cels l)), (9, .v (.int .i64 l.length)), (10, .v (.int .i64 (i : Int)))]) (fun i => HsP (lkS (l.take i))) 0 (by omega) ?_ ?_
    · have e0 : lkS (l.take 0) = [] := rfl
      rw [e0]
      unfold HsP
      refine (cq_bareC 3 0 0 rfl rfl).trans (cq_any [0, 1] rfl (by simp [lv]) ?_ ?_)
      · (simp (disch := omega) only [go_sem])
      · (simp (disch := omega) only [go_sem])
    intro i hi K hK
    unfold HsP at hK ⊢
    by_cases hlt : (i : Int) < l.length
    · have hK2 := hK
      clear hK
      have hK := fun T' H' => hK2 T' H' (i + 1) (by omega) (by omega)
      clear hK2
      rw [lkS_snoc (by omega)] at hK
      have hln : (lkS (l.take i)).length ≤ 1000000 := by simp [lkS]; omega
      revert hK
      generalize lkS (l.take i) = L1 at *
      intro hK
      (repeat' (first | (have hs := Mk.out hs; (try simp only [decide_eq_true_eq, decide_eq_false_iff_not, Bool.not_eq_true, Bool.not_eq_false, Bool.not_true, Bool.not_false, Bool.not_eq_eq_eq_not, Bool.and_eq_true, Bool.or_eq_true, beq_iff_eq, bne_iff_ne, beq_eq_false_iff_ne, ne_eq, Classical.not_not, not_true_eq_false, not_false_eq_true, forall_const, Bool.false_eq_true, false_implies, eq_self] at hs); (try (exfalso; omega)); (try simp (disch := omega) only [go_sem, hlt, hs])) | (refine z_seqr rfl ?_) | (refine z_seqd 7 [.q, .q, .e, .e] rfl (by kernel_rfl) (by kernel_rfl) ?_) | (refine w_seq rfl fun K hK => ?_) | (refine z_reg rfl ?_) | (refine z_cond rfl ?_) | (refine w_skip rfl ?_; ((repeat ((fail_if_success (refine hK _ _ (cl_id ?_))); clear hK)); refine hK _ _ (cl_id ?_); clear hK)) | (refine w_ret rfl ?_; (try dsimp only [anorm, ablock, astay]); refine z_end ?_) | (refine z_end0 ?_) | (refine w_block rfl ?_) | (refine w_scope rfl ?_) | (refine w_label rfl ?_; ((repeat ((fail_if_success (refine hK _ _ (cl_id ?_))); clear hK)); refine hK _ _ (cl_id ?_); clear hK)) | (refine w_exit rfl ?_; (try dsimp only [anorm, ablock, astay]); (try simp only [reduceIte, ↓reduceIte, Nat.reduceEqDiff]); ((repeat ((fail_if_success (refine hK _ _ (cl_id ?_))); clear hK)); refine hK _ _ (cl_id ?_); clear hK)) | (refine jend_go [(11, [2]), (8, [3]), (7, [0, 3]), (6, [0, 3, 8, 9, 10]), (5, [0, 3, 8, 9, 10]), (4, [0, 3, 5, 8, 9, 10]), (3, [0, 3, 8, 9, 10, 11]), (2, [0, 3, 8, 9, 10]), (1, [0, 3]), (0, [0])] ?_; simp only [tabAt_cons, sel_nil, sel_cons, put_at, ofl_cons, ofl_nil, T0_at, List.getElem?_cons_zero, List.getElem?_cons_succ, List.getElem?_nil, Option.getD_some, Option.getD_none, reduceIte, ↓reduceIte, Nat.reduceEqDiff]; refine jl_go ?_) | simp (disch := omega) only [go_sem, hlt] | (refine jc_t ?_) | (refine jc_f ?_) | (refine jx rfl ?_) | (refine jx (fun _ => rfl) ?_) | (refine jxg ⟨rfl, rfl⟩ ?_) | (refine jxh ⟨rfl, rfl⟩ ?_) | (refine jx ⟨by (first | omega | (simp; done) | (simp; omega)), rfl⟩ ?_) | (refine jx (fun _ => ⟨by (first | omega | (simp; done) | (simp; omega)), rfl⟩) ?_) | (refine jxg ⟨by (first | omega | (simp; done) | (simp; omega)), rfl, rfl⟩ ?_) | (refine jxh ⟨by (first | omega | (simp; done) | (simp; omega)), rfl, rfl⟩ ?_) | (refine jx ⟨by (first | omega | (simp; done) | (simp; omega)), by (first | omega | (simp; done) | (simp; omega)), rfl⟩ ?_) | (refine And.intro (by (first | omega | (simp; done) | (simp; omega))) ?_) | (refine mc_b (fun hs => ?_) fun hs => ?_) | (refine mg_st (fun hs => ?_) fun hs => ?_) | (refine mg_sf (fun hs => ?_) fun hs => ?_) | (refine mall_s (fun hs => ?_) fun hs => ?_) | (refine malln_s (fun hs => ?_) fun hs => ?_) | (refine mpk_s (fun hs => ?_) fun hs => ?_) | ((repeat ((fail_if_success (refine hK _ _ (cl_id ?_))); clear hK)); refine hK _ _ (cl_id ?_); clear hK)))
      refine hK _ _ (cq_any [0, 4] rfl (by simp [lv]) ?_ ?_)
      · (simp (disch := omega) only [go_sem])
      · (simp (disch := omega) only [go_sem])
        omega
    · obtain rfl : i = l.length := by omega
      have e1 : l.take l.length = l := List.take_length
      rw [e1] at *
      have hln : (lkS l).length ≤ 1000000 := by simp [lkS]; omega
      clear hK
      generalize lkS l = L1 at *
      (repeat' (first | (have hs := Mk.out hs; (try simp only [decide_eq_true_eq, decide_eq_false_iff_not, Bool.not_eq_true, Bool.not_eq_false, Bool.not_true, Bool.not_false, Bool.not_eq_eq_eq_not, Bool.and_eq_true, Bool.or_eq_true, beq_iff_eq, bne_iff_ne, beq_eq_false_iff_ne, ne_eq, Classical.not_not, not_true_eq_false, not_false_eq_true, forall_const, Bool.false_eq_true, false_implies, eq_self] at hs); (try (exfalso; omega)); (try simp (disch := omega) only [go_sem, hlt, hs])) | (refine z_seqr rfl ?_) | (refine z_seqd 7 [.q, .q, .e, .e] rfl (by kernel_rfl) (by kernel_rfl) ?_) | (refine w_seq rfl fun K hK => ?_) | (refine z_reg rfl ?_) | (refine z_cond rfl ?_) | (refine w_skip rfl ?_; ((repeat ((fail_if_success (refine hK _ _ (cl_id ?_))); clear hK)); refine hK _ _ (cl_id ?_); clear hK)) | (refine w_ret rfl ?_; (try dsimp only [anorm, ablock, astay]); refine z_end ?_) | (refine z_end0 ?_) | (refine w_block rfl ?_) | (refine w_scope rfl ?_) | (refine w_label rfl ?_; ((repeat ((fail_if_success (refine hK _ _ (cl_id ?_))); clear hK)); refine hK _ _ (cl_id ?_); clear hK)) | (refine w_exit rfl ?_; (try dsimp only [anorm, ablock, astay]); (try simp only [reduceIte, ↓reduceIte, Nat.reduceEqDiff]); ((repeat ((fail_if_success (refine hK _ _ (cl_id ?_))); clear hK)); refine hK _ _ (cl_id ?_); clear hK)) | (refine jend_go [(11, [2]), (8, [3]), (7, [0, 3]), (6, [0, 3, 8, 9, 10]), (5, [0, 3, 8, 9, 10]), (4, [0, 3, 5, 8, 9, 10]), (3, [0, 3, 8, 9, 10, 11]), (2, [0, 3, 8, 9, 10]), (1, [0, 3]), (0, [0])] ?_; simp only [tabAt_cons, sel_nil, sel_cons, put_at, ofl_cons, ofl_nil, T0_at, List.getElem?_cons_zero, List.getElem?_cons_succ, List.getElem?_nil, Option.getD_some, Option.getD_none, reduceIte, ↓reduceIte, Nat.reduceEqDiff]; refine jl_go ?_) | simp (disch := omega) only [go_sem, hlt] | (refine jc_t ?_) | (refine jc_f ?_) | (refine jx rfl ?_) | (refine jx (fun _ => rfl) ?_) | (refine jxg ⟨rfl, rfl⟩ ?_) | (refine jxh ⟨rfl, rfl⟩ ?_) | (refine jx ⟨by (first | omega | (simp; done) | (simp; omega)), rfl⟩ ?_) | (refine jx (fun _ => ⟨by (first | omega | (simp; done) | (simp; omega)), rfl⟩) ?_) | (refine jxg ⟨by (first | omega | (simp; done) | (simp; omega)), rfl, rfl⟩ ?_) | (refine jxh ⟨by (first | omega | (simp; done) | (simp; omega)), rfl, rfl⟩ ?_) | (refine jx ⟨by (first | omega | (simp; done) | (simp; omega)), by (first | omega | (simp; done) | (simp; omega)), rfl⟩ ?_) | ((first | apply zc (hA) [] | apply jxc (hA) [] | apply jxgc (hA) | apply jxhc (hA) [] | apply jxcl (hA)); (case ok => simp (disch := omega) only [go_sem, cok, sgOk, bcl, implies_true, hlt])) | (refine And.intro (by (first | omega | (simp; done) | (simp; omega))) ?_) | (refine mc_b (fun hs => ?_) fun hs => ?_) | (refine mg_st (fun hs => ?_) fun hs => ?_) | (refine mg_sf (fun hs => ?_) fun hs => ?_) | (refine mall_s (fun hs => ?_) fun hs => ?_) | (refine malln_s (fun hs => ?_) fun hs => ?_) | (refine mpk_s (fun hs => ?_) fun hs => ?_) | ((repeat ((fail_if_success (refine hK _ _ (cl_id ?_))); clear hK)); refine hK _ _ (cl_id ?_); clear hK)))
      refine z_draw 7 [.q, .q, .e, .e] rfl (by kernel_rfl) (by kernel_rfl) ?_
      (repeat' (first | (have hs := Mk.out hs; (try simp only [decide_eq_true_eq, decide_eq_false_iff_not, Bool.not_eq_true, Bool.not_eq_false, Bool.not_true, Bool.not_false, Bool.not_eq_eq_eq_not, Bool.and_eq_true, Bool.or_eq_true, beq_iff_eq, bne_iff_ne, beq_eq_false_iff_ne, ne_eq, Classical.not_not, not_true_eq_false, not_false_eq_true, forall_const, Bool.false_eq_true, false_implies, eq_self] at hs); (try (exfalso; omega)); (try simp (disch := omega) only [go_sem, hs])) | (refine z_seqr rfl ?_) | (refine z_seqd 7 [.q, .q, .e, .e] rfl (by kernel_rfl) (by kernel_rfl) ?_) | (refine w_seq rfl fun K hK => ?_) | (refine z_reg rfl ?_) | (refine z_cond rfl ?_) | (refine w_skip rfl ?_; ((repeat ((fail_if_success (refine hK _ _ (cl_id ?_))); clear hK)); refine hK _ _ (cl_id ?_); clear hK)) | (refine w_ret rfl ?_; (try dsimp only [anorm, ablock, astay]); refine z_end ?_) | (refine z_end0 ?_) | (refine w_block rfl ?_) | (refine w_scope rfl ?_) | (refine w_label rfl ?_; ((repeat ((fail_if_success (refine hK _ _ (cl_id ?_))); clear hK)); refine hK _ _ (cl_id ?_); clear hK)) | (refine w_exit rfl ?_; (try dsimp only [anorm, ablock, astay]); (try simp only [reduceIte, ↓reduceIte, Nat.reduceEqDiff]); ((repeat ((fail_if_success (refine hK _ _ (cl_id ?_))); clear hK)); refine hK _ _ (cl_id ?_); clear hK)) | (refine jend_go [(11, [2]), (8, [3]), (7, [0, 3]), (6, [0, 3, 8, 9, 10]), (5, [0, 3, 8, 9, 10]), (4, [0, 3, 5, 8, 9, 10]), (3, [0, 3, 8, 9, 10, 11]), (2, [0, 3, 8, 9, 10]), (1, [0, 3]), (0, [0])] ?_; simp only [tabAt_cons, sel_nil, sel_cons, put_at, ofl_cons, ofl_nil, T0_at, List.getElem?_cons_zero, List.getElem?_cons_succ, List.getElem?_nil, Option.getD_some, Option.getD_none, reduceIte, ↓reduceIte, Nat.reduceEqDiff]; refine jl_go ?_) | simp (disch := omega) only [go_sem] | (refine jc_t ?_) | (refine jc_f ?_) | (refine jx rfl ?_) | (refine jx (fun _ => rfl) ?_) | (refine jxg ⟨rfl, rfl⟩ ?_) | (refine jxh ⟨rfl, rfl⟩ ?_) | (refine jx ⟨by (first | omega | (simp; done) | (simp; omega)), rfl⟩ ?_) | (refine jx (fun _ => ⟨by (first | omega | (simp; done) | (simp; omega)), rfl⟩) ?_) | (refine jxg ⟨by (first | omega | (simp; done) | (simp; omega)), rfl, rfl⟩ ?_) | (refine jxh ⟨by (first | omega | (simp; done) | (simp; omega)), rfl, rfl⟩ ?_) | (refine jx ⟨by (first | omega | (simp; done) | (simp; omega)), by (first | omega | (simp; done) | (simp; omega)), rfl⟩ ?_) | ((first | apply zc (hA) [] | apply jxc (hA) [] | apply jxgc (hA) | apply jxhc (hA) [] | apply jxcl (hA)); (case ok => simp (disch := omega) only [go_sem, cok, sgOk, bcl, implies_true, ])) | (refine And.intro (by (first | omega | (simp; done) | (simp; omega))) ?_) | (refine mc_b (fun hs => ?_) fun hs => ?_) | (refine mg_st (fun hs => ?_) fun hs => ?_) | (refine mg_sf (fun hs => ?_) fun hs => ?_) | (refine mall_s (fun hs => ?_) fun hs => ?_) | (refine malln_s (fun hs => ?_) fun hs => ?_) | (refine mpk_s (fun hs => ?_) fun hs => ?_) | ((repeat ((fail_if_success (refine hK _ _ (cl_id ?_))); clear hK)); refine hK _ _ (cl_id ?_); clear hK)))
      refine cl_id ?_
      (repeat' (first | (have hs := Mk.out hs; (try simp only [decide_eq_true_eq, decide_eq_false_iff_not, Bool.not_eq_true, Bool.not_eq_false, Bool.not_true, Bool.not_false, Bool.not_eq_eq_eq_not, Bool.and_eq_true, Bool.or_eq_true, beq_iff_eq, bne_iff_ne, beq_eq_false_iff_ne, ne_eq, Classical.not_not, not_true_eq_false, not_false_eq_true, forall_const, Bool.false_eq_true, false_implies, eq_self] at hs); (try (exfalso; omega)); (try simp (disch := omega) only [go_sem, hs])) | (refine z_seqr rfl ?_) | (refine z_seqd 7 [.q, .q, .e, .e] rfl (by kernel_rfl) (by kernel_rfl) ?_) | (refine w_seq rfl fun K hK => ?_) | (refine z_reg rfl ?_) | (refine z_cond rfl ?_) | (refine w_skip rfl ?_; ((repeat ((fail_if_success (refine hK _ _ (cl_id ?_))); clear hK)); refine hK _ _ (cl_id ?_); clear hK)) | (refine w_ret rfl ?_; (try dsimp only [anorm, ablock, astay]); refine z_end ?_) | (refine z_end0 ?_) | (refine w_block rfl ?_) | (refine w_scope rfl ?_) | (refine w_label rfl ?_; ((repeat ((fail_if_success (refine hK _ _ (cl_id ?_))); clear hK)); refine hK _ _ (cl_id ?_); clear hK)) | (refine w_exit rfl ?_; (try dsimp only [anorm, ablock, astay]); (try simp only [reduceIte, ↓reduceIte, Nat.reduceEqDiff]); ((repeat ((fail_if_success (refine hK _ _ (cl_id ?_))); clear hK)); refine hK _ _ (cl_id ?_); clear hK)) | (refine jend_go [(11, [2]), (8, [3]), (7, [0, 3]), (6, [0, 3, 8, 9, 10]), (5, [0, 3, 8, 9, 10]), (4, [0, 3, 5, 8, 9, 10]), (3, [0, 3, 8, 9, 10, 11]), (2, [0, 3, 8, 9, 10]), (1, [0, 3]), (0, [0])] ?_; simp only [tabAt_cons, sel_nil, sel_cons, put_at, ofl_cons, ofl_nil, T0_at, List.getElem?_cons_zero, List.getElem?_cons_succ, List.getElem?_nil, Option.getD_some, Option.getD_none, reduceIte, ↓reduceIte, Nat.reduceEqDiff]; refine jl_go ?_) | simp (disch := omega) only [go_sem] | (refine jc_t ?_) | (refine jc_f ?_) | (refine jx rfl ?_) | (refine jx (fun _ => rfl) ?_) | (refine jxg ⟨rfl, rfl⟩ ?_) | (refine jxh ⟨rfl, rfl⟩ ?_) | (refine jx ⟨by (first | omega | (simp; done) | (simp; omega)), rfl⟩ ?_) | (refine jx (fun _ => ⟨by (first | omega | (simp; done) | (simp; omega)), rfl⟩) ?_) | (refine jxg ⟨by (first | omega | (simp; done) | (simp; omega)), rfl, rfl⟩ ?_) | (refine jxh ⟨by (first | omega | (simp; done) | (simp; omega)), rfl, rfl⟩ ?_) | (refine jx ⟨by (first | omega | (simp; done) | (simp; omega)), by (first | omega | (simp; done) | (simp; omega)), rfl⟩ ?_) | ((first | apply zc (hB) [] | apply jxc (hB) [] | apply jxgc (hB) | apply jxhc (hB) [] | apply jxcl (hB)); (case ok => simp (disch := omega) only [go_sem, cok, sgOk, bcl, implies_true, ])) | (refine And.intro (by (first | omega | (simp; done) | (simp; omega))) ?_) | (refine mc_b (fun hs => ?_) fun hs => ?_) | (refine mg_st (fun hs => ?_) fun hs => ?_) | (refine mg_sf (fun hs => ?_) fun hs => ?_) | (refine mall_s (fun hs => ?_) fun hs => ?_) | (refine malln_s (fun hs => ?_) fun hs => ?_) | (refine mpk_s (fun hs => ?_) fun hs => ?_) | ((repeat ((fail_if_success (refine hK _ _ (cl_id ?_))); clear hK)); refine hK _ _ (cl_id ?_); clear hK)))
      unfold HsP
      refine ⟨_, _, cq_any (tl := [(3, .ptr 0 0), (24, .fn 89 [] [.ptr 2 0])]) [0, 2, 3] rfl (by simp [lv]) ?_ ?_, rfl, rfl⟩
      · (simp (disch := omega) only [go_sem])
      · (simp (disch := omega) only [go_sem])
  case rest =>
    rintro T1 H1 M1 a w1 ⟨rfl, rfl⟩ _ hG1 hT1 hd1 hE1
    have hD : a.defers = [] := hd1.trans hD0
    clear hT0 hD0 hd1 a0
    generalize hst : lkS l ++ [((3 : Int), (0 : Int), false)] = st at *
    have hne : 0 < st.length := by rw [← hst]; simp
    have h2at : (HsP st ++ [some (Blk.obj [.sl 2 (cels l)])])[2]? = some (some (.obj [.sl 2 (cels l)])) := rfl
    -- the iterator's box is written no more
    have hfn := hT1.2 24
    change VR M1 3 w1 (.fn _ [] [.ptr 2 0]) _ at hfn
    unfold VR at hfn
    obtain ⟨us, ks, hfn, hus, hks⟩ := hfn
    unfold VRt at hus
    subst hus
    unfold VRt VRt at hks
    obtain ⟨u, r0, rfl, hu, rfl⟩ := hks
    have hu2 := VR.iceO hG1 h2at hu
    have hGi : Gam E0.gl (M1.ice 2) w1 (HsP st) := by
      have := Gam.iceO hG1 h2at
      exact Gam.less (E := E0) (H := HsP st) (L := [none]) this (hsP_nb st)
    have hEi : ExtB 0 M w [] (M1.ice 2) w1 (HsP st) := by
      have := hE1.trans (ExtB.iceO (n := 0) (M := M1) (w := w1) h2at (Nat.zero_le _))
      exact ExtB.less (L := [none]) this (Nat.zero_le _)
    have h3 := hT1.2 3
    change VR M1 3 w1 (.ptr 0 0) _ at h3
    have hN := hT1.1
    have hu3 : VR (M1.ice 2) 0 w1 (.cptr [.sl 2 (cels l)]) u := VR.down (by simp only [nb, nbs, cels_nbss, and_self]) hu2
    have hkp : ∀ b, (M1.ice 2).G b → b < w1.heap.size := hGi.inG
    unfold VR at h3
    obtain ⟨_, b0, hb0, h3⟩ := h3
    have hb0i : (M1.ice 2).blk 0 = some b0 := hb0
    clear hG1 hE1 hT1 hu hu2 h2at hb0
    generalize M1.ice 2 = Mi at *
    refine (wpIn_wide (n := 6)).1 (wpIn_block (wpIn_rangeFunc_ownH (F := Fence.wide) (n := 6) rfl (by decide) (gf := 89) (lb := #[u]) hfn trivial (enters_of Try.func89 (by kernel_rfl) rfl)
      (back_stops Mi w1 hkp l hl u hu3) (fun h k b hb => (k b hb).trans (h b hb)) (fun W ln o o' hl2 _ _ _ b hb => World.putObj_heap_other (by have := hkp b hb; omega)) (Below.refl _ _) (fun _ => rfl)
      (IP Mi w1 st) (fun _ _ _ => False) (ip_own hkp) (fun _ _ _ _ _ h _ _ => h) ?h0 (AP 33 w1 (a.tmps.getD 3 undef)) ap_own ?assign ?body ?done ?stop))
    case h0 =>
      refine ⟨Mi, rfl, ?_, ?_⟩
      · simpa [unU] using hGi
      · have : ExtB 1 Mi w1 (HsP st) Mi w1 (HsP st) := ExtB.refl (show 1 ≤ 2 by decide)
        simpa [unU] using this
    case stop => exact fun D c pre W _ _ h _ => h.elim
    case assign =>
      rintro ln pre x W K ⟨M2, hGG, hGam, hE2⟩ hK
      generalize hst2 : st ++ unU pre = s2 at *
      obtain ⟨a2, ha2⟩ : ∃ a2 : Act, a2 = { tmps := (Array.zip #[25, 26] (encN x)).foldl (fun t (p, v) => t.setIfInBounds p v) a.tmps, defers := [] } := ⟨_, rfl⟩
      rw [← ha2]
      have ea : a2 = ((({ a with defers := [] } : Act).put (some 25) (.int .i64 x.1)).put (some 26) (.agg #[.int .i64 x.2.1, .bool x.2.2])) := by
        rw [ha2]
        simp [encN, Act.put]
      have eN : a2.tmps.size = 33 := by rw [ea, put_size, put_size]; exact hN
      have e3 : a2.tmps.getD 3 undef = a.tmps.getD 3 undef := by rw [ea, put_getD (by decide), put_getD (by decide)]
      have e26 : a2.tmps.getD 26 undef = .agg #[.int .i64 x.2.1, .bool x.2.2] := by rw [ea]; exact put_same (by rw [put_size]; show 26 < a.tmps.size; omega)
      clear ha2 ea
      have hT2 : TR M2 2 W 33 (ofl [(26, .agg [.v (.int .i64 x.2.1), .v (.bool x.2.2)])]) a2 := ⟨eN, fun i => ofl_all (p := fun i y => VR M2 2 W y (a2.tmps.getD i undef)) trivial (fun y hy => by
        obtain rfl := List.mem_singleton.1 hy
        simp only
        rw [e26]
        unfold VR
        refine ⟨[_, _], rfl, ?_⟩
        unfold VRs VRs VRs
        exact ⟨_, _, rfl, rfl, rfl, _, _, rfl, rfl, rfl, rfl⟩)⟩
      refine reg_inL (E := E0) (N := 33) (by kernel_rfl) (by kernel_rfl) (ofl [(26, .agg [.v (.int .i64 x.2.1), .v (.bool x.2.2)])]) (HsP s2) M2 (fun T' H' => T' 7 = .ptr 2 0 ∧ H' = HsP s2 ++ [some (.obj [.v (.int .i64 x.2.1), .v (.bool x.2.2)])]) hGam hT2 ?_ ?_
      · unfold HsP
        simp (disch := omega) only [go_sem]
      rintro T' H' M3 a3 W3 ⟨k7, rfl⟩ hG3 hT3 hd3 hs3 hX
      refine hK a3 W3 (hX.keepsFrom hGam _) (fun b hb => hX.keep hGam b (by rw [hGG]; exact hb)) ?_ ?_
      · unfold IP
        rw [hst2]
        refine ip_next hE2 (ExtB.of (show 1 ≤ 2 by decide) hX) (show 1 ≤ 3 by decide) hG3 hT3 ?_
        unfold HsP
        refine cq_any [0, 1] rfl (by simp [lv]) ?_ ?_
        · (simp (disch := omega) only [go_sem])
        · (simp (disch := omega) only [go_sem])
      · obtain ⟨b, cur, t, fr, q1, q2, q3, q4, q5⟩ := hG3.blks 2 _ rfl
        have hcur : cur = #[.int .i64 x.2.1, .bool x.2.2] := by
          unfold VRs VRs VRs at q5
          obtain ⟨y, r, e1, _, e2, z, r2, rfl, _, e4, rfl⟩ := q5
          unfold VR at e2 e4
          subst e2 e4
          exact Array.toList_inj.1 e1
        subst hcur
        refine ⟨b, t, fr, ?_, hT3.1, (hs3 3 (by kernel_rfl)).trans e3, ?_, q2, q3⟩
        · have hsz := hE2.size
          rcases hX.hot b ⟨2, _, rfl, rfl, q1⟩ with ⟨r, B, r1, r2, r3⟩ | hh
          · exfalso
            have hr : r < 2 := (List.getElem?_eq_some_iff.1 r1).1
            have hbl := hX.blk r hr
            have hat : ∃ B', (HsP s2 ++ [some (Blk.obj [.v (.int .i64 x.2.1), .v (.bool x.2.2)])])[r]? = some (some B') := by
              match r, hr with
              | 0, _ => exact ⟨_, rfl⟩
              | 1, _ => exact ⟨_, rfl⟩
            obtain ⟨B', hB'⟩ := hat
            exact hG3.far 2 r _ B' b rfl hB' rfl (by omega) q1 (hbl.trans r3)
          · omega
        · have := hT3.2 7
          rw [k7] at this
          unfold VR at this
          obtain ⟨_, b', e1, e2⟩ := this
          rw [q1] at e1
          cases e1
          exact e2
    case body =>
      rintro ln pre x a3 W hln _ ⟨M2, hGG, hGam, hE2⟩ ⟨b, t, fr, hb, hN3, h3', h7, hcell, hfr⟩ hlen
      have eU : st ++ unU (pre ++ [x]) = (st ++ unU pre) ++ [((4 : Int), x.2.1, x.2.2)] := by simp [unU]
      have hlu : (st ++ unU pre).length ≤ 3000000 := by
        have e1 : st.length ≤ 1000001 := by rw [← hst]; simp [lkS]; omega
        simp [unU]
        omega
      have hne2 : 0 < (st ++ unU pre).length := by simp; omega
      generalize st ++ unU pre = u2 at *
      have hfree := hsP_free hGam hne2 hcell rfl
      have hnG : ¬ M2.G b := fun h => by
        rw [hGG] at h
        have := hkp b h
        omega
      have hG3 := Gam.rename (E := E0) (s := 2) (B := .obj [.v (.int .i64 x.2.1), .v (.bool x.2.2)]) (w1 := W) hGam hnG hfree ⟨rfl, rfl, rfl, rfl⟩ (fun _ _ => rfl) (fun M' m1 m2 m3 m4 => by
        refine ⟨b, _, t, fr, m3, hcell, hfr, m4.symm, ?_⟩
        unfold VRs VRs VRs
        exact ⟨_, _, rfl, rfl, rfl, _, _, rfl, rfl, rfl, rfl⟩)
      have hE3 : ExtB 1 Mi w1 (HsP st) (M2.push 2 b 2) W (HsP u2 ++ [some (.obj [.v (.int .i64 x.2.1), .v (.bool x.2.2)])]) := hE2.pushB hb (show 1 ≤ 2 by decide)
      have hblk0 : (M2.push 2 b 2).blk 0 = some b0 := (hE3.blk 0 (by decide)).trans hb0i
      have hblk2 : (M2.push 2 b 2).blk 2 = some b := by simp [Mem.push]
      have hGG3 : (M2.push 2 b 2).G = Mi.G := hGG
      change Gam E0.gl (M2.push 2 b 2) W (HsP u2 ++ [some (.obj [.v (.int .i64 x.2.1), .v (.bool x.2.2)])]) at hG3
      generalize M2.push 2 b 2 = M3 at *
      have hT3 : TR M3 3 W 33 (ofl [(3, .ptr 0 0), (7, .ptr 2 0)]) a3 := ⟨hN3, fun i => ofl_all (p := fun i y => VR M3 3 W y (a3.tmps.getD i undef)) trivial (fun y hy => by
        rcases List.mem_cons.1 hy with rfl | hy
        · simp only
          rw [h3', h3]
          unfold VR
          exact ⟨by decide, b0, hblk0, rfl⟩
        · obtain rfl := List.mem_singleton.1 hy
          simp only
          rw [h7]
          unfold VR
          exact ⟨by decide, b, hblk2, rfl⟩)⟩
      refine wpIn_block (reg_inL (E := E0) (N := 33) (by kernel_rfl) (by kernel_rfl) (ofl [(3, .ptr 0 0), (7, .ptr 2 0)]) (HsP u2 ++ [some (Blk.obj [.v (.int .i64 x.2.1), .v (.bool x.2.2)])]) M3 (fun T' H' => 1 ≤ H'.length ∧ Cq E0 1 T' H' (ofl []) (HsP (u2 ++ [((4 : Int), x.2.1, x.2.2)]))) hG3 hT3 ?_ ?_)
      · unfold HsP
        simp (disch := omega) only [go_sem]
        refine ⟨by omega, cq_any [0, 4] rfl (by simp [lv]) ?_ ?_⟩
        · (simp (disch := omega) only [go_sem])
        · (simp (disch := omega) only [go_sem])
      rintro T' H' M4 a4 W4 ⟨hn4, hc4⟩ hG4 hT4 hd4 hs4 hX
      exact ⟨hX.keepsFrom hG3 _, fun c hc => hX.keep hG3 c (by rw [hGG3]; exact hc), by
        unfold IP
        rw [eU]
        exact ip_next hE3 (ExtB.of (show 1 ≤ 3 by decide) hX) hn4 hG4 hT4 hc4⟩
    case done =>
      rintro D xs W hDl hS ⟨M2, hGG, hGam, hE2⟩ hK
      subst hS
      have hu : st ++ unU (revU l l.length) = planS l := by rw [unU_rev, ← hst]; rfl
      rw [hu] at hGam hE2
      generalize planS l = u2 at *
      have hT2 : TR M2 2 W 33 (ofl [(3, .ptr 0 0)]) { a with defers := { target := .collected D, args := #[] } :: a.defers } := ⟨hN, fun i => ofl_all (p := fun i y => VR M2 2 W y (a.tmps.getD i undef)) trivial (fun y hy => by
        obtain rfl := List.mem_singleton.1 hy
        simp only
        rw [h3]
        unfold VR
        exact ⟨by decide, b0, (hE2.blk 0 (by decide)).trans hb0i, rfl⟩)⟩
      refine wp_seq ((wpIn_wide (n := 6)).1 (reg_in0 (E := E0) (N := 33) (by kernel_rfl) (by kernel_rfl) (ofl [(3, .ptr 0 0)]) (HsP u2) M2 (fun T' H' => T' 2 = .hs 1 3 0 u2.length ∧ H' = HsP u2) hGam hT2 ?_ ?_))
      · unfold HsP
        simp (disch := omega) only [go_sem]
      rintro T' H' M3 a3 W3 ⟨k2, rfl⟩ hG3 hT3 hd3 hs3 hX
      have hK3 := (hX.keepsFrom hGam 0).same D _ (Nat.zero_le _) hK rfl
      refine wp_ret ?_
      show LeavesInM Fence.wide 8 E0.P _ a3.tmps _ a3.defers .returning W3
      rw [hd3]
      show LeavesInM Fence.wide 8 E0.P _ a3.tmps _ ({ target := .collected D, args := #[] } :: a.defers) .returning W3
      rw [hD]
      refine ⟨by simp, .inl ⟨_, _, rfl, run_takeDeferred hK3, ?_⟩⟩
      have hgr := grownBy_putObj' W3 D (.deferred none)
      have hnG : ∀ r, some D = some r → ¬ M3.G r := fun r e hr => by
        cases e
        rcases hX.gnew D hr with q | ⟨q, B, q1, _, q3⟩ | q
        · rw [hGG] at q
          have := hkp D q
          omega
        · exact hGam.notCells hK rfl q B q1 q3
        · have := (Array.getElem?_eq_some_iff.1 hK).1
          omega
      have hG4 := hG3.other hgr hnG (fun r e => by cases e; exact hG3.notCells hK3 rfl)
      have hv := hT3.2 2
      rw [k2] at hv
      refine ⟨_, results_tmp rfl _ _ _, .hs 1 3 0 u2.length, HsP u2, _, M3, rfl, ?_, hG4, VR.mono (M := M3) (M' := M3) (n := 2) (w := W3) (fun _ h => h) (hG3.keepG hgr hnG) (Nat.le_refl _) (fun _ _ => ⟨rfl, rfl⟩) hv, ?_⟩
      · unfold HsP
        refine end_q [1] rfl (by decide) (by simp) ?_ ⟨rfl, rfl⟩ ?_
        · (simp (disch := omega) only [go_sem])
        · (simp (disch := omega) only [go_sem])
      · have hEx : ExtB 0 M w [] M3 _ (HsP u2) := (((hEi.trans (hE2.down (Nat.zero_le _))).trans (ExtB.of (Nat.zero_le _) hX)).other hgr (fun r e => by cases e; have := hEi.size; omega))
        exact ExtB.full (H := []) hEx
end Go.Proofs.Ytjfoicebdjonfaa
