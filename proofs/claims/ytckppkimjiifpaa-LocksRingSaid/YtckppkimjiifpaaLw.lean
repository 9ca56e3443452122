/- Locks: For, by the machine, over the library's sort. No condition but bounds of lengths. -/
import Derived.Test.YtckppkimjiifpaaLk
import Derived.Test.YtckppkimjiifpaaLs
set_option linter.unusedSectionVars false
set_option linter.unusedVariables false
set_option linter.unusedSimpArgs false
set_option linter.deprecated false
namespace Go.Am
open Go.RowKit Go.Cx
section
variable {E : Env} {Hs Hs' Y : Heap} {g : FuncId} {al : List AV}
/-- A contract of the first blocks that brings one row more. -/
theorem ACalls.preR {sz k : Nat} {es : List (List AV)} (h : ACalls E g al Hs fun r H' => r = .hs Hs.length sz 0 k ∧ H' = Hs' ++ [some (.row true sz es)]) (hl : Hs'.length = Hs.length) (hn : nbs Hs.length al) (hB : ∀ (k : Nat) (B : Blk), Hs[k]? = some (some B) → nbB Hs.length B) (hB' : ∀ (k : Nat) (B : Blk), Hs'[k]? = some (some B) → nbB Hs.length B) (hes : nbss 0 es) (Y : Heap) :
    ACalls E g al (Hs ++ Y) fun r H' => r = .hs (Hs ++ Y).length sz 0 k ∧ H' = Hs' ++ Y ++ [some (.row true sz es)] := by
  have hgd : ∀ k, k < Hs.length → (List.range Hs.length).getD k 0 = k := fun k hk => by rw [List.getD_eq_getElem?_getD, List.getElem?_range hk]; rfl
  have hsg : ∀ r, r < Hs.length → sg (Hs ++ Y).length (List.range Hs.length) r = r := fun r hr => by
    unfold sg
    rw [List.length_range, if_pos hr, hgd r hr]
  have h2 := h.frame (H := Hs ++ Y) (as' := al) false (List.range Hs.length) List.nodup_range (by simp) (fun q hq => by have := List.mem_range.1 hq; simp; omega) (fun k B hk => by
    have hkl := (List.getElem?_eq_some_iff.1 hk).1
    refine ⟨hB k B hk, ?_⟩
    rw [hgd k hkl, List.getElem?_append_left hkl, hk, bmap_id (n := Hs.length) hsg (hB k B hk)]) (rdAs_id hsg hn) (fun _ _ _ hh => by cases hh)
  refine ⟨h2.1, fun w M vs hG hv => (h2.2 w M vs hG hv).mono ?_⟩
  rintro e w' ⟨r, H', v, M', rfl, ⟨r1, H1, ⟨rfl, rfl⟩, rfl, rfl⟩, rest⟩
  refine ⟨_, _, v, M', rfl, ⟨?_, ?_⟩, rest⟩
  · unfold amap sg
    rw [List.length_range, if_neg (by omega), Nat.sub_self, Nat.add_zero]
  unfold back
  have hd : (Hs' ++ [some (Blk.row true sz es)]).drop (List.range Hs.length).length = [some (.row true sz es)] := by
    rw [List.length_range, ← hl]
    exact List.drop_left
  have hm : bmap (sg (Hs ++ Y).length (List.range Hs.length)) (.row true sz es) = .row true sz es := by
    show Blk.row true sz (amapss _ es) = _
    rw [amapss_id (n := 0) (fun _ hr => absurd hr (Nat.not_lt_zero _)) hes]
  rw [hd, List.map_cons, List.map_nil, Option.map_some, hm]
  congr 1
  apply List.ext_getElem?
  intro k
  by_cases hk : k < Hs.length
  · have hk' : k < (Hs' ++ [some (Blk.row true sz es)]).length := by simp; omega
    have := backs_in (σ := List.range Hs.length) (f := sg (Hs ++ Y).length (List.range Hs.length)) (H := Hs ++ Y) (H' := Hs' ++ [some (Blk.row true sz es)]) (k := k) List.nodup_range (fun q hq => by have := List.mem_range.1 hq; simp; omega) (by simpa using hk) _ (List.getElem?_eq_getElem hk')
    rw [hgd k hk] at this
    rw [this, List.getElem?_append_left (by omega), List.getElem?_eq_getElem (by omega : k < Hs'.length), List.getElem_append_left (by omega)]
    cases hb : Hs'[k] with
    | none => rfl
    | some B =>
      have hB2 : Hs'[k]? = some (some B) := by rw [List.getElem?_eq_getElem (by omega), hb]
      simp only [Option.map_some]
      rw [bmap_id (n := Hs.length) hsg (hB' k B hB2)]
  · rw [backs_out (by simpa using hk), List.getElem?_append_right (by omega), List.getElem?_append_right (by omega), hl]
end
end Go.Am
namespace Go.Proofs.Ytckppkimjiifpaa
open Go.RowKit Go.Cx Go.Am
set_option maxRecDepth 8000
set_option maxHeartbeats 2000000
attribute [local irreducible] ACalls jcall jsame jex jexg jexh jguard jconv jload jpart jstore jbin jslice jidxA jidx jfield jfieldA jbuild jbuildS jmake jappend jlen jpick jres jcnd jcopy jcap jborn jdraw jops jop jstr jstrc jlive jend jlenM jmmake jlook jmput jmdel jrange jnext jentry jlk jmp2 jmd2 jlm jrg jnx jny jen jeo
attribute [local go_sem] reduceIte Nat.reduceEqDiff Nat.reduceAdd Nat.reduceMul Nat.reduceLT Nat.reduceLeDiff Nat.reduceSub Int.reduceLT Int.reduceLE Int.reduceToNat Int.reduceNeg Int.reduceAdd Int.reduceSub UInt8.reduceToNat Int.reduceEq reduceCtorEq Int.reducePow Int.reduceMul Nat.reducePow E0
attribute [local go_sem ↓] reduceIte
attribute [local go_sem high] chunks_bvs
attribute [local go_sem] Nat.one_ne_zero Nat.zero_ne_one decide_true decide_false Bool.false_eq_true Bool.true_eq_false Bool.not_true Bool.not_false jops_nil jops_one jops_g jg_tt jg_ff jg_tf jg_ft jg_n jop_move jop_assign jop_pick jop_alloc jop_box jop_build jop_buildSlice jop_load jop_store jop_nilCheck jop_bin jop_not jop_convert jop_makeFunc jop_makeSlice jop_slice jop_fieldAddr jop_field jop_indexAddr jop_index jop_extract jop_len jop_append jop_call jload_m jpart_t jpart_f jpick_t jpick_f jpick_b jidxA_ptr jidxA_cptr jidxA_rp jidxA_sl jidxA_hs jidxA_os jidx_agg jidx_str jfield_m jfieldA_m jbuild_m jlen_str jlen_sl jlen_hs jlen_os jlen_mt jlen_nil jslice_sl jslice3_sl jpart_bcl jstr_map jstr_nil jstr_cons jstrc_cons jstrc_int jstrc_nil jstrc_map jconv_sl jconv_hs jconv_os jconv_mt jconv_nil jconv_str mk_toList str_toList str_size mk_size jbin_eq_nn jbin_ne_nn jbin_eq_pn jbin_ne_pn jbin_eq_bb jbin_ne_bb beq_self_eq_true oc_int oc_bool oc_str oc_slice oc_ptr oc_nilF amaps_bcl jslice_hs jslice_os jslice_mt jslice_nil jslice_str jslice_ptr jbuildS_m jappend_m jmake_m jconv_int jstore_ptr jstore_rp jbin_add jbin_sub jbin_mul jbin_lss jbin_leq jbin_gtr jbin_geq jbin_eql jbin_neq jbin_and jbin_or jbin_xor jbin_andNot jbin_str_eql jbin_str_neq jres_nil jres_tmp jres_cell jdraw_nil jdraw_q jdraw_l jdraw_b jdraw_gg jdraw_e jdraw_m jdraw_mc jdraw_f jdraw_p jdraw_c jwhen_t bcN_eq convT_m locOf_cptr locCv_int jkeep_nil jkeep_cons jsame_rfl locOf_ptr locOf_rp jdraw_w jex_eq jex_all jexg_eq jexh_eq jborn_m jop_copy jcopy_hs jcopy_os jop_cap jcap_mt jcap_nil jbin_eq_sl jbin_ne_sl jbin_eq_hs jbin_ne_hs hget0 hgetk hset0 hsetk List.set_cons_zero List.set_cons_succ put_at ev_tmp ev_const ev_global ev_func aput_some aput_none T0_at ayield place cells1 splice_cs Nat.mul_one Nat.sub_add_cancel Int.cast_ofNat_Int elems source abound afill bfill dest sure one anorm ablock astay cv_int cv_bool cv_str cv_slice cv_ptr cv_nilFunc List.map_cons List.map_nil List.map_toArray List.getElem?_toArray List.getElem?_cons_zero List.getElem?_cons_succ List.getElem?_nil Option.getD_some Option.getD_none Option.map_some Option.map_none Option.bind_some Option.some.injEq Nat.add_zero Nat.zero_add List.drop_zero List.drop_succ_cons List.take_succ_cons List.take_zero List.take_nil List.drop_nil List.length_cons List.length_nil List.length_append List.nil_append List.cons_append List.append_assoc List.append_nil List.append_cancel_left_eq List.cons.injEq if_true if_false true_and and_true or_false false_or ne_eq not_true_eq_false not_false_eq_true Nat.le_refl Int.toNat_natCast List.replicate_succ List.replicate_zero exists_eq List.toList_toArray List.length_map Prod.mk.injEq exists_eq_left exists_eq_left' exists_eq' exists_eq_right' exists_and_left exists_and_right exists_const bvs_len bvs_drop bvs_take bvs_getD splice_bvs splice_row flat_bcl amaps_bvs jpart_bvs List.take_length List.length_drop List.length_take Nat.min_eq_left Nat.min_eq_right amap amaps amapss amapss_bcl back_nil sg_nil back backs sg List.getD_cons_zero List.getD_cons_succ ofl_cons ofl_nil jbin_quo jbin_rem jbin_shl jbin_shr getD_bcl w8_u8 w8_u16 w8_u32 w8_u64 w8_i64 IntWalk.i64_in IntWalk.u64_in IntWalk.u32_in IntWalk.u16_in bits_u8 bits_u16 bits_u32 bits_u64 bits_i64 nbs_bvs gfs_bvs okS okT okL okD wk_rfl wk_any wk_v wk_nil nb_byts nbss_bcl amap_byts frz_v frz_sl frz_byts frz_ptr frz_any frz_mt frzs_bcl nb nbs nbss sh_lt sh_0 sh_at frz Value.int.injEq Value.bool.injEq Value.string.injEq Nat.lt_add_right_iff_pos Nat.lt_irrefl Nat.zero_lt_one gf gfs gfss gfH gfss_bcl byts uvs_len uvs_drop uvs_take uvs_getD splice_uvs nbs_uvs gfs_uvs amaps_uvs jpart_uvs jpart_uvs0 getD_ucl set_ucl b32_xor b32_or b32_and b32_add b32_not b32_shr b32_shl b32_shr3 b32_shr10 jop_cpl sgn_u32 max_u32 flat_ucl zeros8_len zeros32_len okVs_bvs okVs_uvs getI_ucl getI_bcl amapss_ucl w32_in jop_max jop_min jmax_ii jmin_ii uclss_nb uclss_gf chunks1_c chunks1_0 cl1_iii Int.sub_zero undef amapss_set cels_nil cels_len cels_take cels_drop cels_app cels_getD cels_getI cels_nbss cels_gfss cels_amapss cl1_int cl1_bool cl1_ii cl1_ib cl1_iib snoc_int snoc_bool snoc_ii snoc_ib snoc_iib set_int set_bool rep_bool rep_int eqAV scEq Bool.and_true pr_eta tgs_nil tgs_len tgs_take tgs_drop tgs_app tgs_snoc tgs_getD tgs_getI tgs_nbss tgs_amapss nbss_app amapss_app tagC_eq rwb_nil rwb_len rwb_take rwb_snoc rwb_getD rwb_getI rwb_nbss rwb_amapss jop_makeMap jop_lookup jop_mapUpdate jop_delete jop_range jop_next jop_entry jmmake_m jlook_m jlk_mI jmput_m jmp2_mI jmdel_m jmd2_mB jlenM_m jlm_mB jrange_m jnext_m jnx_m jentry_m jen_m jeo_mS nbB_mI nbB_mSI bmap_mI bmap_mSI gfB_mI mB_nil vI nbB_o nbB_r nbB_i bmap_o bmap_r bmap_i gfB_o gfB_r gfB_i cl1_iiib okV okVs okEs okA okAs List.not_mem_nil List.mem_cons List.mem_singleton false_and and_false true_or or_true or_self and_self ty1 ty2 ty3 zv3 ty4 ty5 ty6 ty7 st7 jeq7 jne7 ty8 st8 jeq8 jne8 ty9 ty10 ty11 ty12 ty13 st13 ty14 st14 ty15 ty16 ty17 ty18 st18 ty19 st19 ty20 ty21 ty22 sl22 ty23 ty24 ty26 ty27 ty28 ty29 st29 jeq29 jne29 ty30 st30 jeq30 jne30 ty31 ty32 sl32 ty33 ty34 st34 jeq34 jne34 ty35 st35 jeq35 jne35 ty37 ty38 sl38 ty39 ty41 ty42 ty43 ty44 ty46 ty47 ty48 st48 ty49 st49 ty50 ty51 ty52 sl52 ty53 st53 ty54 st54 ty55 sl55 ty57 ty58 ty59 ty60 ty61 mp61 ty62 sl62 ty63 st63 ty64 st64 ty65 ty66 st66 jeq66 jne66 ty67 st67 jeq67 jne67 ty68 ty69 ty70 ty71 ty72 ty73 sl73 ty74 st74 ty75 st75 ty77 ty79 ty80 ty81 ty82 ty83 ty84 ty85 ty86 ty87 ty88 ty89 ty90 st90 jeq90 jne90 ty91 st91 jeq91 jne91 ty92 ty93 ty94 ty96 ty97 ty98 ty100 ty101 ty102 ty103 ty104 ty105 ty106 ty107 ty108 ty109 ty110 ty111 ty113 ty114 ty115 st115 ty116 st116 ty117 ar117 ty118 st118 ty119 st119 ty120 ty121 ty122 ty123 ty124 ty125 ty126 st126 ty127 st127 ty128 arn7 arn8 arn13 arn14 arn18 arn19 arn29 arn30 arn34 arn35 arn48 arn49 arn53 arn54 arn63 arn64 arn66 arn67 arn74 arn75 arn90 arn91 arn115 arn116 arn118 arn119 arn126 arn127 stn117 Try.underlying0 Try.underlying1 Try.underlying2 Try.underlying3 Try.underlying4 Try.underlying5 Try.underlying6 Try.underlying7 Try.underlying8 Try.underlying9 Try.underlying10 Try.underlying11 Try.underlying12 Try.underlying13 Try.underlying14 Try.underlying15 Try.underlying16 Try.underlying17 Try.underlying18 Try.underlying19 Try.underlying20 Try.underlying21 Try.underlying22 Try.underlying23 Try.underlying24 Try.underlying25 Try.underlying26 Try.underlying27 Try.underlying28 Try.underlying29 Try.underlying30 Try.underlying31 Try.underlying32 Try.underlying33 Try.underlying34 Try.underlying35 Try.underlying36 Try.underlying37 Try.underlying38 Try.underlying39 Try.underlying40 Try.underlying41 Try.underlying42 Try.underlying43 Try.underlying44 Try.underlying45 Try.underlying46 Try.underlying47 Try.underlying48 Try.underlying49 Try.underlying50 Try.underlying51 Try.underlying52 Try.underlying53 Try.underlying54 Try.underlying55 Try.underlying56 Try.underlying57 Try.underlying58 Try.underlying59 Try.underlying60 Try.underlying61 Try.underlying62 Try.underlying63 Try.underlying64 Try.underlying65 Try.underlying66 Try.underlying67 Try.underlying68 Try.underlying69 Try.underlying70 Try.underlying71 Try.underlying72 Try.underlying73 Try.underlying74 Try.underlying75 Try.underlying76 Try.underlying77 Try.underlying78 Try.underlying79 Try.underlying80 Try.underlying81 Try.underlying82 Try.underlying83 Try.underlying84 Try.underlying85 Try.underlying86 Try.underlying87 Try.underlying88 Try.underlying89 Try.underlying90 Try.underlying91 Try.underlying92 Try.underlying93 Try.underlying94 Try.underlying95 Try.underlying96 Try.underlying97 Try.underlying98 Try.underlying99 Try.underlying100 Try.underlying101 Try.underlying102 Try.underlying103 Try.underlying104 Try.underlying105 Try.underlying106 Try.underlying107 Try.underlying108 Try.underlying109 Try.underlying110 Try.underlying111 Try.underlying112 Try.underlying113 Try.underlying114 Try.underlying115 Try.underlying116 Try.underlying117 Try.underlying118 Try.underlying119 Try.underlying120 Try.underlying121 Try.underlying122 Try.underlying123 Try.underlying124 Try.underlying125 Try.underlying126 Try.underlying127 Try.underlying128
attribute [local go_sem ←] List.map_take List.map_drop

/-- A call that sees the locks alone, and brings a row. -/
theorem zLR {K : Kvh} {g : FuncId} {al : List AV} {st : List Lk} {sz k : Nat} {es : List (List AV)} {Y : Heap} (h : ACalls E0 g al (LH st) fun r H' => r = .hs (LH st).length sz 0 k ∧ H' = LH st ++ [some (.row true sz es)]) (hes : nbss 0 es) (ok : nbs (2 * st.length + 1) al) (hk : K.k (.hs (LH st ++ Y).length sz 0 k) (LH st ++ Y ++ [some (.row true sz es)])) : jcall (K := K) E0 g al (LH st ++ Y) := by
  rw [← LH_len] at ok
  exact z_ret (ACalls.preR h rfl ok (LH_nbs st) (LH_nbs st) hes Y) hk
theorem lholders_hot (hso : SortOk) (st : List Lk) (i : Nat) (hi : i < st.length) (hr : (lk st i).held.length ≤ 1000000) : ACalls E0 17 [.ptr 0 0, .v (.int .i64 (i : Int))] (LH st) fun r H' => r = .hs (LH st).length 1 0 (holders st i).length ∧ H' = LH st ++ [some (.row true 1 (cels (holders st i)))] := by
  have h1 := lat_am st i hi
  have g1 := LH_o st hi
  have g2 := LH_m st hi
  have l0 := LH_len st
  unfold holders
  generalize (lk st i).held = m at *
  refine calls_q (calls_of Try.func17 rfl (by kernel_rfl) (by kernel_rfl) (by rw [Try.ntmps17]; exact Nat.le_of_ble_eq_true rfl) (fun hH0 hA0 => ?_)); rw [Try.results17]
  (repeat' (first | (have hs := Mk.out hs; (try simp only [decide_eq_true_eq, decide_eq_false_iff_not, Bool.not_eq_true, Bool.not_eq_false, Bool.not_true, Bool.not_false, Bool.not_eq_eq_eq_not, Bool.and_eq_true, Bool.or_eq_true, beq_iff_eq, bne_iff_ne, beq_eq_false_iff_ne, ne_eq, Classical.not_not, not_true_eq_false, not_false_eq_true, forall_const, Bool.false_eq_true, false_implies, eq_self] at hs); (try (exfalso; omega)); (try simp (disch := omega) only [go_sem, g1, g2, hs])) | (refine z_seqr rfl ?_) | (refine w_seq rfl fun K hK => ?_) | (refine z_reg rfl ?_) | (refine z_cond rfl ?_) | (refine w_skip rfl ?_; ((repeat ((fail_if_success (refine hK _ _ (cl_id ?_))); clear hK)); refine hK _ _ (cl_id ?_); clear hK)) | (refine w_ret rfl ?_; (try dsimp only [anorm, ablock, astay]); refine z_end ?_) | (refine z_end0 ?_) | (refine w_block rfl ?_) | (refine w_scope rfl ?_) | (refine w_label rfl ?_; ((repeat ((fail_if_success (refine hK _ _ (cl_id ?_))); clear hK)); refine hK _ _ (cl_id ?_); clear hK)) | (refine w_exit rfl ?_; (try dsimp only [anorm, ablock, astay]); (try simp only [reduceIte, ↓reduceIte, Nat.reduceEqDiff]); ((repeat ((fail_if_success (refine hK _ _ (cl_id ?_))); clear hK)); refine hK _ _ (cl_id ?_); clear hK)) | (refine jend_go [(10, [4]), (9, [6]), (8, [6, 17]), (7, [6, 7, 17]), (6, [6, 17, 19]), (5, [6, 17]), (4, [5, 6]), (3, [4]), (2, [5, 12]), (1, [5]), (0, [0, 1])] ?_; simp only [tabAt_cons, sel_nil, sel_cons, put_at, ofl_cons, ofl_nil, T0_at, List.getElem?_cons_zero, List.getElem?_cons_succ, List.getElem?_nil, Option.getD_some, Option.getD_none, reduceIte, ↓reduceIte, Nat.reduceEqDiff]; refine jl_go ?_) | simp (disch := omega) only [go_sem, g1, g2] | (refine jc_t ?_) | (refine jc_f ?_) | (refine z_ret (h1) ?_) | (refine jrg_go fun bs c => ?_) | (refine And.intro (by (first | omega | (simp; done) | (simp; omega))) ?_) | (refine mc_b (fun hs => ?_) fun hs => ?_) | (refine mg_st (fun hs => ?_) fun hs => ?_) | (refine mg_sf (fun hs => ?_) fun hs => ?_) | (refine mall_s (fun hs => ?_) fun hs => ?_) | (refine malln_s (fun hs => ?_) fun hs => ?_) | (refine mpk_s (fun hs => ?_) fun hs => ?_) | ((repeat ((fail_if_success (refine hK _ _ (cl_id ?_))); clear hK)); refine hK _ _ (cl_id ?_); clear hK)))
  obtain ⟨G, hG⟩ : ∃ G, G = (LH st).set (2 * i + 2) (some (mS vI m bs c)) := ⟨_, rfl⟩
  have lG : G.length = (LH st).length := by rw [hG, List.length_set]
  have gm : G[2 * i + 2]? = some (some (mS vI m bs c)) := by
    rw [hG, List.getElem?_set, if_pos rfl, if_pos (by omega)]
  have gmL := at_app gm
  have gb : G.set (2 * i + 2) (some (mB vI m)) = LH st := by
    rw [hG, List.set_set]
    exact set_same g2
  have gnb : ∀ (k : Nat) (B : Blk), G[k]? = some (some B) → nbB G.length B := by
    intro k B hk
    rw [lG]
    rw [hG, List.getElem?_set] at hk
    split at hk
    · split at hk
      · cases hk
        exact of_eq_true nbB_mSI
      · cases hk
    · exact LH_nbs st k B hk
  rw [← hG, ← lG]
  refine z_loop (α := List Nat) rfl (fun s => s.Nodup ∧ ∀ j ∈ s, j < m.length) (fun s => todo m.length s) (fun s => [(6, .hs (G.length + 1) 1 0 s.length), (17, .ptr G.length 0)]) (fun s => G ++ [some (.iter (2 * i + 2) bs c s), some (.row true 1 (cels (met m s)))]) [] ⟨by simp, by simp⟩ ?_ ?_
  · have hb := cq_bare (E := E0) (n := G.length) (T := ofl [(6, .v (.slice none 0 0)), (17, .ptr G.length 0)]) (H := G ++ [some (.iter (2 * i + 2) bs c [])]) 1 6 rfl
    rw [List.append_assoc, List.length_append] at hb
    refine hb.trans (cq_s ?_)
    (simp (disch := omega) only [go_sem])
  rintro s ⟨hs1, hs2⟩ K hK
  have hml : (met m s).length = s.length := by simp [met]
  have hsl : s.length ≤ m.length := by
    have hp : s.Perm ((List.range m.length).filter fun j => decide (j ∈ s)) := (List.perm_ext_iff_of_nodup hs1 (List.nodup_range.filter _)).2 fun j => by
      rw [List.mem_filter, List.mem_range, decide_eq_true_eq]
      exact ⟨fun h => ⟨hs2 j h, h⟩, fun h => h.2⟩
    have := List.length_filter_le (fun j => decide (j ∈ s)) (List.range m.length)
    rw [List.length_range] at this
    exact Nat.le_trans (Nat.le_of_eq hp.length_eq) this
  (repeat' (first | (have hs := Mk.out hs; (try simp only [decide_eq_true_eq, decide_eq_false_iff_not, Bool.not_eq_true, Bool.not_eq_false, Bool.not_true, Bool.not_false, Bool.not_eq_eq_eq_not, Bool.and_eq_true, Bool.or_eq_true, beq_iff_eq, bne_iff_ne, beq_eq_false_iff_ne, ne_eq, Classical.not_not, not_true_eq_false, not_false_eq_true, forall_const, Bool.false_eq_true, false_implies, eq_self] at hs); (try (exfalso; omega)); (try simp (disch := omega) only [go_sem, gm, gmL, hs])) | (refine z_seqr rfl ?_) | (refine w_seq rfl fun K hK => ?_) | (refine z_reg rfl ?_) | (refine z_cond rfl ?_) | (refine w_skip rfl ?_; ((repeat ((fail_if_success (refine hK _ _ (cl_id ?_))); clear hK)); refine hK _ _ (cl_id ?_); clear hK)) | (refine w_ret rfl ?_; (try dsimp only [anorm, ablock, astay]); refine z_end ?_) | (refine z_end0 ?_) | (refine w_block rfl ?_) | (refine w_scope rfl ?_) | (refine w_label rfl ?_; ((repeat ((fail_if_success (refine hK _ _ (cl_id ?_))); clear hK)); refine hK _ _ (cl_id ?_); clear hK)) | (refine w_exit rfl ?_; (try dsimp only [anorm, ablock, astay]); (try simp only [reduceIte, ↓reduceIte, Nat.reduceEqDiff]); ((repeat ((fail_if_success (refine hK _ _ (cl_id ?_))); clear hK)); refine hK _ _ (cl_id ?_); clear hK)) | (refine jend_go [(10, [4]), (9, [6]), (8, [6, 17]), (7, [6, 7, 17]), (6, [6, 17, 19]), (5, [6, 17]), (4, [5, 6]), (3, [4]), (2, [5, 12]), (1, [5]), (0, [0, 1])] ?_; simp only [tabAt_cons, sel_nil, sel_cons, put_at, ofl_cons, ofl_nil, T0_at, List.getElem?_cons_zero, List.getElem?_cons_succ, List.getElem?_nil, Option.getD_some, Option.getD_none, reduceIte, ↓reduceIte, Nat.reduceEqDiff]; refine jl_go ?_) | simp (disch := omega) only [go_sem, gm, gmL] | (refine jc_t ?_) | (refine jc_f ?_) | (refine And.intro (by (first | omega | (simp; done) | (simp; omega))) ?_) | (refine mc_b (fun hs => ?_) fun hs => ?_) | (refine mg_st (fun hs => ?_) fun hs => ?_) | (refine mg_sf (fun hs => ?_) fun hs => ?_) | (refine mall_s (fun hs => ?_) fun hs => ?_) | (refine malln_s (fun hs => ?_) fun hs => ?_) | (refine mpk_s (fun hs => ?_) fun hs => ?_) | ((repeat ((fail_if_success (refine hK _ _ (cl_id ?_))); clear hK)); refine hK _ _ (cl_id ?_); clear hK)))
  refine jny_go (f := vI) (fun hall => ?_) (fun j k a hm hsn => ?_)
  · clear hK
    have hp := met_all hs1 hs2 hall
    have hso2 := hso (met m s) (by omega)
    rw [srtI_perm hp, hml] at hso2
    have hzl : s.length = (srtI (m.map (·.1))).length := by rw [srtI_len, ← hml]; exact hp.length_eq
    generalize srtI (m.map (·.1)) = z at *
    have q1 : G.length + 1 < G.length + 2 := by omega
    (repeat' (first | (have hs := Mk.out hs; (try simp only [decide_eq_true_eq, decide_eq_false_iff_not, Bool.not_eq_true, Bool.not_eq_false, Bool.not_true, Bool.not_false, Bool.not_eq_eq_eq_not, Bool.and_eq_true, Bool.or_eq_true, beq_iff_eq, bne_iff_ne, beq_eq_false_iff_ne, ne_eq, Classical.not_not, not_true_eq_false, not_false_eq_true, forall_const, Bool.false_eq_true, false_implies, eq_self] at hs); (try (exfalso; omega)); (try simp (disch := omega) only [go_sem, gm, gmL, q1, hs])) | (refine z_seqr rfl ?_) | (refine w_seq rfl fun K hK => ?_) | (refine z_reg rfl ?_) | (refine z_cond rfl ?_) | (refine w_skip rfl ?_; ((repeat ((fail_if_success (refine hK _ _ (cl_id ?_))); clear hK)); refine hK _ _ (cl_id ?_); clear hK)) | (refine w_ret rfl ?_; (try dsimp only [anorm, ablock, astay]); refine z_end ?_) | (refine z_end0 ?_) | (refine w_block rfl ?_) | (refine w_scope rfl ?_) | (refine w_label rfl ?_; ((repeat ((fail_if_success (refine hK _ _ (cl_id ?_))); clear hK)); refine hK _ _ (cl_id ?_); clear hK)) | (refine w_exit rfl ?_; (try dsimp only [anorm, ablock, astay]); (try simp only [reduceIte, ↓reduceIte, Nat.reduceEqDiff]); ((repeat ((fail_if_success (refine hK _ _ (cl_id ?_))); clear hK)); refine hK _ _ (cl_id ?_); clear hK)) | (refine jend_go [(10, [4]), (9, [6]), (8, [6, 17]), (7, [6, 7, 17]), (6, [6, 17, 19]), (5, [6, 17]), (4, [5, 6]), (3, [4]), (2, [5, 12]), (1, [5]), (0, [0, 1])] ?_; simp only [tabAt_cons, sel_nil, sel_cons, put_at, ofl_cons, ofl_nil, T0_at, List.getElem?_cons_zero, List.getElem?_cons_succ, List.getElem?_nil, Option.getD_some, Option.getD_none, reduceIte, ↓reduceIte, Nat.reduceEqDiff]; refine jl_go ?_) | simp (disch := omega) only [go_sem, gm, gmL, q1] | (refine jc_t ?_) | (refine jc_f ?_) | (apply zc (hso2) [G.length + 1]; (case ok => simp (disch := omega) only [go_sem, cok, sgOk, bcl, gm, gmL, q1])) | (refine And.intro (by (first | omega | (simp; done) | (simp; omega))) ?_) | (refine mc_b (fun hs => ?_) fun hs => ?_) | (refine mg_st (fun hs => ?_) fun hs => ?_) | (refine mg_sf (fun hs => ?_) fun hs => ?_) | (refine mall_s (fun hs => ?_) fun hs => ?_) | (refine malln_s (fun hs => ?_) fun hs => ?_) | (refine mpk_s (fun hs => ?_) fun hs => ?_) | ((repeat ((fail_if_success (refine hK _ _ (cl_id ?_))); clear hK)); refine hK _ _ (cl_id ?_); clear hK)))
    refine (cq_forget (f := vI) (m := m) (2 * i + 2) (gmL _)).cl ?_
    rw [List.set_append_left _ _ (by omega), gb, lG, hzl]
    refine ⟨_, _, cq_ren (tl := [(0, .hs (LH st).length 1 0 z.length)]) (L' := [some (.row true 1 (cels z))]) [1] (Nat.le_refl _) (LH_nbs st) (by decide) ?_ ?_, rfl, rfl⟩
    · (simp (disch := omega) only [go_sem])
    · (simp (disch := omega) only [go_sem])
  · have hK2 := fun T' H' => hK T' H' (s ++ [j]) ⟨List.nodup_append.2 ⟨hs1, by simp, fun x hx y hy e => by
      rw [List.mem_singleton] at hy
      rw [e, hy] at hx
      exact hsn hx⟩, fun x hx => by
      rcases List.mem_append.1 hx with hx | hx
      · exact hs2 x hx
      · rw [List.mem_singleton.1 hx]
        exact (List.getElem?_eq_some_iff.1 hm).1⟩ (todo_less (List.getElem?_eq_some_iff.1 hm).1 hsn)
    clear hK
    rw [met_snoc hm] at hK2
    have hs3 : (s ++ [j]).length = s.length + 1 := by simp
    rw [hs3] at hK2
    generalize met m s = acc at *
    rw [← hml] at hK2 hsl
    rw [← hml]
    have hle : acc.length ≤ m.length := hsl
    have tk : List.take acc.length acc = acc := List.take_length
    (repeat' (first | (have hs := Mk.out hs; (try simp only [decide_eq_true_eq, decide_eq_false_iff_not, Bool.not_eq_true, Bool.not_eq_false, Bool.not_true, Bool.not_false, Bool.not_eq_eq_eq_not, Bool.and_eq_true, Bool.or_eq_true, beq_iff_eq, bne_iff_ne, beq_eq_false_iff_ne, ne_eq, Classical.not_not, not_true_eq_false, not_false_eq_true, forall_const, Bool.false_eq_true, false_implies, eq_self] at hs); (try (exfalso; omega)); (try simp (disch := omega) only [go_sem, gm, gmL, hm, tk, hs])) | (refine z_seqr rfl ?_) | (refine w_seq rfl fun K hK => ?_) | (refine z_reg rfl ?_) | (refine z_cond rfl ?_) | (refine w_skip rfl ?_; ((repeat ((fail_if_success (refine hK _ _ (cl_id ?_))); clear hK)); refine hK _ _ (cl_id ?_); clear hK)) | (refine w_ret rfl ?_; (try dsimp only [anorm, ablock, astay]); refine z_end ?_) | (refine z_end0 ?_) | (refine w_block rfl ?_) | (refine w_scope rfl ?_) | (refine w_label rfl ?_; ((repeat ((fail_if_success (refine hK _ _ (cl_id ?_))); clear hK)); refine hK _ _ (cl_id ?_); clear hK)) | (refine w_exit rfl ?_; (try dsimp only [anorm, ablock, astay]); (try simp only [reduceIte, ↓reduceIte, Nat.reduceEqDiff]); ((repeat ((fail_if_success (refine hK _ _ (cl_id ?_))); clear hK)); refine hK _ _ (cl_id ?_); clear hK)) | (refine jend_go [(10, [4]), (9, [6]), (8, [6, 17]), (7, [6, 7, 17]), (6, [6, 17, 19]), (5, [6, 17]), (4, [5, 6]), (3, [4]), (2, [5, 12]), (1, [5]), (0, [0, 1])] ?_; simp only [tabAt_cons, sel_nil, sel_cons, put_at, ofl_cons, ofl_nil, T0_at, List.getElem?_cons_zero, List.getElem?_cons_succ, List.getElem?_nil, Option.getD_some, Option.getD_none, reduceIte, ↓reduceIte, Nat.reduceEqDiff]; refine jl_go ?_) | simp (disch := omega) only [go_sem, gm, gmL, hm, tk] | (refine jc_t ?_) | (refine jc_f ?_) | (refine And.intro (by (first | omega | (simp; done) | (simp; omega))) ?_) | (refine mc_b (fun hs => ?_) fun hs => ?_) | (refine mg_st (fun hs => ?_) fun hs => ?_) | (refine mg_sf (fun hs => ?_) fun hs => ?_) | (refine mall_s (fun hs => ?_) fun hs => ?_) | (refine malln_s (fun hs => ?_) fun hs => ?_) | (refine mpk_s (fun hs => ?_) fun hs => ?_) | ((repeat ((fail_if_success (refine hK _ _ (cl_id ?_))); clear hK)); refine hK _ _ (cl_id ?_); clear hK)))
    refine hK2 _ _ (cq_ren [0, 3] (Nat.le_refl _) gnb (by decide) ?_ ?_)
    · (simp (disch := omega) only [go_sem])
    · (simp (disch := omega) only [go_sem])
      omega
end Go.Proofs.Ytckppkimjiifpaa
