/- The law PppoeOwn, by the machine. No condition. -/
import Derived.Test.YtoeheoihdoaplaaTl
set_option linter.unusedSectionVars false
set_option linter.unusedVariables false
set_option linter.unusedSimpArgs false
set_option linter.deprecated false
namespace Go.Am
open Go.Cx
/-- A nil is a row of one's own, empty: anywhere in a value. -/
theorem cq_bareW {E : Env} {n : Nat} {T : Nat → AV} {H : Heap} (sz i : Nat) (a2 : AV) (hw : ∀ (M : Mem) (w : World) (u : Value), M.blk H.length = none → VR M (H.length + 1) w (T i) u → VR M (H.length + 1) w a2 u) : Cq E n T H (put T i a2) (H ++ [some (.row true sz [])]) := fun hn => by
  refine ⟨by simp; omega, fun M w N a hG hT0 => ⟨M.bare H.length, hG.bare sz, ⟨hT0.1, fun j => ?_⟩, ⟨rfl, rfl, rfl, Nat.le_refl _, fun _ h => h, fun _ h => .inl h, fun _ _ _ => rfl, by simp; omega, fun r hr => ?_, fun _ _ => rfl, fun b hb => ?_⟩⟩⟩
  · have hj2 : VR (M.bare H.length) (H.length + 1) w (T j) (a.tmps.getD j undef) := VR.mono (M := M) (M' := M.bare H.length) (n := H.length) (n' := H.length + 1) (w := w) (fun _ h => h) (fun _ _ => rfl) (Nat.le_succ _) (fun r hr => ⟨by simp only [Mem.bare]; rw [if_neg (by omega)], rfl⟩) (hT0.2 j)
    rw [List.length_append]
    unfold put
    split
    · next e =>
      subst e
      exact hw _ _ _ (by simp [Mem.bare]) hj2
    · exact hj2
  · simp only [Mem.bare]
    rw [if_neg (by omega)]
  · obtain ⟨k, B, q1, q2, q3⟩ := hb
    rw [getElem?_snoc] at q1
    simp only [Mem.bare] at q3
    split at q1
    · next he => rw [if_pos he] at q3; cases q3
    · next he => rw [if_neg he] at q3; exact .inl ⟨k, B, q1, q2, q3⟩
theorem ACalls.bareW {E : Env} {f : FuncId} {al : List AV} {H0 L : Heap} {r0 : AV} (h : ACalls E f al H0 fun r H' => r = r0 ∧ H' = L) (sz : Nat) (r2 : AV) (hw : ∀ (M : Mem) (w : World) (u : Value), M.blk L.length = none → VR M (L.length + 1) w r0 u → VR M (L.length + 1) w r2 u) : ACalls E f al H0 fun r H' => r = r2 ∧ H' = L ++ [some (.row true sz [])] := by
  refine calls_q ⟨h.1, fun w M vs hG hv => (h.2 w M vs hG hv).mono ?_⟩
  rintro e w' ⟨r, H', v, M', rfl, ⟨rfl, rfl⟩, q⟩
  exact ⟨_, _, v, M', rfl, ⟨_, _, cq_bareW (T := ofl [(0, r)]) sz 0 r2 hw, rfl, rfl⟩, q⟩
section
variable {M : Mem} {n : Nat} {w : World} {u : Value} {sz : Nat}
theorem bare_nil (hb : M.blk n = none) (h : VR M (n + 1) w (.v (.slice none 0 0)) u) : VR M (n + 1) w (.hs n sz 0 0) u := by
  unfold VR at h
  subst h
  unfold VR
  exact ⟨Nat.lt_succ_self _, none, 0, rfl, Nat.le_refl _, Nat.zero_le _, fun _ => rfl, .inr (.inl ⟨rfl, rfl⟩)⟩
theorem bare_tup {al : List AV} (hb : M.blk n = none) (h : VR M (n + 1) w (.tup (.v (.slice none 0 0) :: al)) u) : VR M (n + 1) w (.tup (.hs n sz 0 0 :: al)) u := by
  unfold VR at h ⊢
  obtain ⟨us, rfl, k⟩ := h
  refine ⟨us, rfl, ?_⟩
  unfold VRt at k ⊢
  obtain ⟨u, r, rfl, k1, k2⟩ := k
  exact ⟨u, r, rfl, bare_nil hb k1, k2⟩
theorem bare_agg {cs al : List AV} (j : Nat) (hj : cs[j]? = some (.v (.slice none 0 0))) (hb : M.blk n = none) (h : VR M (n + 1) w (.tup (.agg cs :: al)) u) : VR M (n + 1) w (.tup (.agg (cs.set j (.hs n sz 0 0)) :: al)) u := by
  unfold VR at h ⊢
  obtain ⟨us, rfl, k⟩ := h
  refine ⟨us, rfl, ?_⟩
  unfold VRt at k ⊢
  obtain ⟨u, r, rfl, k1, k2⟩ := k
  refine ⟨u, r, rfl, ?_, k2⟩
  unfold VR at k1 ⊢
  obtain ⟨us2, e, k1⟩ := k1
  exact ⟨us2, e, VRs.setw (fun u hu => bare_nil hb hu) k1 hj⟩
end
end Go.Am
namespace Go.Proofs.Ytoeheoihdoaplaa
open Go.RowKit Go.Cx Go.Am
theorem frz_hsnoc {d N r k : Nat} {hot : Bool} {L : Heap} {a : AV} {l : List (List UInt8)} {v : List UInt8} (ha : frz (d + 1) L N a = a) (hr : N ≤ r) (h : L[r - N]? = some (some (.row hot 1 (v.map bcl)))) (hk : k = v.length) : (([a] :: (rwb l ++ [[AV.hs r 1 0 k]])).map fun e => e.map (frz (d + 1) L N)) = [a] :: rwb (l ++ [v]) := by
  rw [List.map_cons, List.map_append, frz_rwb]
  simp only [List.map_cons, List.map_nil, ha, frz_hs hr h hk]
  rw [← rwb_snoc]
/-- A row of bytes, of which the first i are all x. -/
def fl (x : UInt8) (b : List UInt8) (i : Nat) : List UInt8 := List.replicate i x ++ b.drop i
theorem fl_len {x : UInt8} {b : List UInt8} {i : Nat} (h : i ≤ b.length) : (fl x b i).length = b.length := by simp [fl]; omega
theorem fl_0 {x : UInt8} {b : List UInt8} : fl x b 0 = b := by simp [fl]
theorem fl_set {x : UInt8} {b : List UInt8} {i : Nat} (h : i < b.length) : (fl x b i).set i x = fl x b (i + 1) := by
  unfold fl
  rw [List.set_append_right _ _ (by simp), List.length_replicate, Nat.sub_self, List.drop_eq_getElem_cons h, List.set_cons_zero, List.replicate_succ', List.append_assoc]
  rfl
theorem fl_map {x : UInt8} {b : List UInt8} {i : Nat} (h : i < b.length) : ((fl x b i).map bcl).set i [.v (.int .u8 (x.toNat : Int))] = (fl x b (i + 1)).map bcl := by rw [← fl_set h, List.map_set]; rfl
theorem fl_get {x : UInt8} {b : List UInt8} {i : Nat} (h : i < b.length) : ((fl x b i).map bcl)[i]? = some (bcl ((fl x b i).getD i 0)) := by
  have h2 : i < (fl x b i).length := by rw [fl_len (by omega)]; exact h
  rw [List.getElem?_map, List.getElem?_eq_getElem h2, List.getD_eq_getElem?_getD, List.getElem?_eq_getElem h2]
  rfl
theorem spl_bcl {b : UInt8} {v : AV} : splice 0 [v] (bcl b) = [v] := rfl
set_option maxRecDepth 8000
set_option maxHeartbeats 2000000
attribute [local irreducible] ACalls jcall jsame jex jexg jexh jguard jconv jload jpart jstore jbin jslice jidxA jidx jfield jfieldA jbuild jbuildS jmake jappend jlen jpick jres jcnd jcopy jcap jborn jdraw jops jop jstr jstrc jlive jend
attribute [local go_sem] reduceIte Nat.reduceEqDiff Nat.reduceAdd Nat.reduceMul Nat.reduceLT Nat.reduceLeDiff Nat.reduceSub Int.reduceLT Int.reduceLE Int.reduceToNat Int.reduceNeg Int.reduceAdd Int.reduceSub UInt8.reduceToNat Int.reduceEq reduceCtorEq Int.reducePow Int.reduceMul Nat.reducePow E0
attribute [local go_sem ↓] reduceIte
attribute [local go_sem high] chunks_bvs
attribute [local go_sem] Nat.one_ne_zero Nat.zero_ne_one decide_true decide_false Bool.false_eq_true Bool.true_eq_false Bool.not_true Bool.not_false jops_nil jops_one jops_g jg_tt jg_ff jg_tf jg_ft jg_n jop_move jop_assign jop_pick jop_alloc jop_box jop_build jop_buildSlice jop_load jop_store jop_nilCheck jop_bin jop_not jop_convert jop_makeFunc jop_makeSlice jop_slice jop_fieldAddr jop_field jop_indexAddr jop_index jop_extract jop_len jop_append jop_call jload_m jpart_t jpart_f jpick_t jpick_f jpick_b jidxA_ptr jidxA_cptr jidxA_rp jidxA_sl jidxA_hs jidxA_os jidx_agg jidx_str jfield_m jfieldA_m jbuild_m jlen_str jlen_sl jlen_hs jlen_os jlen_mt jlen_nil jslice_sl jslice3_sl jpart_bcl jstr_map jstr_nil jstr_cons jstrc_cons jstrc_int jstrc_nil jstrc_map jconv_sl jconv_hs jconv_os jconv_mt jconv_nil jconv_str mk_toList str_toList str_size mk_size jbin_eq_nn jbin_ne_nn jbin_eq_pn jbin_ne_pn jbin_eq_bb jbin_ne_bb beq_self_eq_true oc_int oc_bool oc_str oc_slice oc_ptr oc_nilF amaps_bcl jslice_hs jslice_os jslice_mt jslice_nil jslice_str jslice_ptr jbuildS_m jappend_m jmake_m jconv_int jstore_ptr jstore_rp jbin_add jbin_sub jbin_mul jbin_lss jbin_leq jbin_gtr jbin_geq jbin_eql jbin_neq jbin_and jbin_or jbin_xor jbin_andNot jbin_str_eql jbin_str_neq jres_nil jres_tmp jres_cell jdraw_nil jdraw_q jdraw_l jdraw_b jdraw_gg jdraw_e jdraw_m jdraw_mc jdraw_f locOf_cptr locCv_int jkeep_nil jkeep_cons jsame_rfl locOf_ptr locOf_rp jdraw_w jex_eq jex_all jexg_eq jexh_eq jborn_m jop_copy jcopy_hs jcopy_os jop_cap jcap_mt jcap_nil jbin_eq_sl jbin_ne_sl jbin_eq_hs jbin_ne_hs hget0 hgetk hset0 hsetk List.set_cons_zero List.set_cons_succ put_at ev_tmp ev_const ev_global ev_func aput_some aput_none T0_at ayield place cells1 splice_cs Nat.mul_one Nat.sub_add_cancel Int.cast_ofNat_Int elems source abound afill bfill dest sure one anorm ablock astay cv_int cv_bool cv_str cv_slice cv_ptr cv_nilFunc List.map_cons List.map_nil List.map_toArray List.getElem?_toArray List.getElem?_cons_zero List.getElem?_cons_succ List.getElem?_nil Option.getD_some Option.getD_none Option.map_some Option.map_none Option.bind_some Option.some.injEq Nat.add_zero Nat.zero_add List.drop_zero List.drop_succ_cons List.take_succ_cons List.take_zero List.take_nil List.drop_nil List.length_cons List.length_nil List.length_append List.nil_append List.cons_append List.append_assoc List.append_nil List.append_cancel_left_eq List.cons.injEq if_true if_false true_and and_true or_false false_or ne_eq not_true_eq_false not_false_eq_true Nat.le_refl Int.toNat_natCast List.replicate_succ List.replicate_zero exists_eq List.toList_toArray List.length_map Prod.mk.injEq exists_eq_left exists_eq_left' exists_eq' exists_eq_right' exists_and_left exists_and_right exists_const bvs_len bvs_drop bvs_take bvs_getD splice_bvs splice_row flat_bcl amaps_bvs jpart_bvs List.take_length List.length_drop List.length_take Nat.min_eq_left Nat.min_eq_right amap amaps amapss bmap amapss_bcl back_nil sg_nil back backs sg List.getD_cons_zero List.getD_cons_succ ofl_cons ofl_nil jbin_quo jbin_rem jbin_shl jbin_shr getD_bcl w8_u8 w8_u16 w8_u32 w8_u64 w8_i64 IntWalk.i64_in IntWalk.u64_in IntWalk.u32_in IntWalk.u16_in bits_u8 bits_u16 bits_u32 bits_u64 bits_i64 nbs_bvs gfs_bvs okS okT okL okD wk_rfl wk_any wk_v wk_nil nb_byts nbss_bcl amap_byts frz_v frz_sl frz_byts frz_ptr frz_any frz_mt frzs_bcl nb nbs nbss nbB sh_lt sh_0 sh_at frz Value.int.injEq Value.bool.injEq Value.string.injEq Nat.lt_add_right_iff_pos Nat.lt_irrefl Nat.zero_lt_one gf gfs gfss gfB gfH gfss_bcl byts uvs_len uvs_drop uvs_take uvs_getD splice_uvs nbs_uvs gfs_uvs amaps_uvs jpart_uvs jpart_uvs0 getD_ucl set_ucl b32_xor b32_or b32_and b32_add b32_not b32_shr b32_shl b32_shr3 b32_shr10 jop_cpl sgn_u32 max_u32 flat_ucl zeros8_len zeros32_len okVs_bvs okVs_uvs getI_ucl getI_bcl amapss_ucl w32_in jop_max jop_min jmax_ii jmin_ii uclss_nb uclss_gf chunks1_c chunks1_0 cl1_iii Int.sub_zero undef amapss_set cels_nil cels_len cels_take cels_drop cels_app cels_getD cels_getI cels_nbss cels_gfss cels_amapss cl1_int cl1_bool cl1_ii cl1_ib cl1_iib snoc_int snoc_bool snoc_ii snoc_ib snoc_iib set_int set_bool rep_bool rep_int eqAV scEq Bool.and_true pr_eta tgs_nil tgs_len tgs_take tgs_drop tgs_app tgs_snoc tgs_getD tgs_getI tgs_nbss tgs_amapss nbss_app amapss_app tagC_eq rwb_nil rwb_len rwb_take rwb_snoc rwb_getD rwb_getI rwb_nbss rwb_amapss okV okVs okEs okA okAs List.not_mem_nil List.mem_cons List.mem_singleton false_and and_false true_or or_true or_self and_self ty1 ty2 ty3 ty4 ty5 ty6 ty7 st7 jeq7 jne7 ty8 st8 jeq8 jne8 ty9 ty10 ty11 ty12 ty13 st13 ty14 st14 ty15 ty16 ty17 ty18 st18 ty19 st19 ty20 ty21 ty22 sl22 ty23 st23 ty24 st24 ty25 ty26 ty28 ty30 ty31 ty32 ty33 ty34 ty35 st35 ty36 st36 ty38 ty39 ty40 sl40 ty41 ty42 ty43 ty44 ty45 ty46 ty47 ty48 ty49 ty50 ty51 ty52 ty53 ty54 ty56 ty57 sl57 ty59 ty60 sl60 ty61 ty63 ty64 ty65 ty66 ty67 st67 ty68 st68 ty69 ty70 ty72 ty73 ty74 ty75 ar75 ty76 ty77 ty78 ty80 ty81 ty82 ty83 st83 ty84 st84 ty85 ar85 ty86 st86 ty87 st87 ty88 ty89 ty90 ty91 ty92 ty93 ty94 ty95 ty96 st96 ty97 st97 ty98 arn7 arn8 arn13 arn14 arn18 arn19 arn23 arn24 arn35 arn36 arn67 arn68 arn83 arn84 arn86 arn87 arn96 arn97 stn75 stn85 Try.underlying0 Try.underlying1 Try.underlying2 Try.underlying3 Try.underlying4 Try.underlying5 Try.underlying6 Try.underlying7 Try.underlying8 Try.underlying9 Try.underlying10 Try.underlying11 Try.underlying12 Try.underlying13 Try.underlying14 Try.underlying15 Try.underlying16 Try.underlying17 Try.underlying18 Try.underlying19 Try.underlying20 Try.underlying21 Try.underlying22 Try.underlying23 Try.underlying24 Try.underlying25 Try.underlying26 Try.underlying27 Try.underlying28 Try.underlying29 Try.underlying30 Try.underlying31 Try.underlying32 Try.underlying33 Try.underlying34 Try.underlying35 Try.underlying36 Try.underlying37 Try.underlying38 Try.underlying39 Try.underlying40 Try.underlying41 Try.underlying42 Try.underlying43 Try.underlying44 Try.underlying45 Try.underlying46 Try.underlying47 Try.underlying48 Try.underlying49 Try.underlying50 Try.underlying51 Try.underlying52 Try.underlying53 Try.underlying54 Try.underlying55 Try.underlying56 Try.underlying57 Try.underlying58 Try.underlying59 Try.underlying60 Try.underlying61 Try.underlying62 Try.underlying63 Try.underlying64 Try.underlying65 Try.underlying66 Try.underlying67 Try.underlying68 Try.underlying69 Try.underlying70 Try.underlying71 Try.underlying72 Try.underlying73 Try.underlying74 Try.underlying75 Try.underlying76 Try.underlying77 Try.underlying78 Try.underlying79 Try.underlying80 Try.underlying81 Try.underlying82 Try.underlying83 Try.underlying84 Try.underlying85 Try.underlying86 Try.underlying87 Try.underlying88 Try.underlying89 Try.underlying90 Try.underlying91 Try.underlying92 Try.underlying93 Try.underlying94 Try.underlying95 Try.underlying96 Try.underlying97 Try.underlying98
attribute [local go_sem ←] List.map_take List.map_drop

/-- The blocks of values found: the first value's own row. -/
def hotB (l : List (List UInt8)) : Heap := match l with
  | [] => [some (.row true 1 [])]
  | v :: V => [some (.row true 1 ([.hs 1 1 0 v.length] :: rwb V)), some (.row true 1 (v.map bcl))]
theorem all_hot (ts : List Tag) (y : Int) (hts : ts.length ≤ 1000000) (hvs : ∀ i, (ts.getD i tg0).val.length ≤ 1000000) : ACalls E0 34 [.sl 2 (tgs ts), .v (.int .i64 y)] [] fun r H' => r = .hs 0 1 0 (vals ts y).length ∧ H' = hotB (vals ts y) := by
  obtain ⟨z, hz⟩ : ∃ z, z = vals ts y := ⟨_, rfl⟩
  rw [← hz]
  refine calls_q (calls_of Try.func34 rfl (by kernel_rfl) (by kernel_rfl) (by rw [Try.ntmps34]; exact Nat.le_of_ble_eq_true rfl) (fun hH0 hA0 => ?_)); rw [Try.results34]
  (repeat' (first | (have hs := Mk.out hs; (try simp only [decide_eq_true_eq, decide_eq_false_iff_not, Bool.not_eq_true, Bool.not_eq_false, Bool.not_true, Bool.not_false, Bool.not_eq_eq_eq_not, Bool.and_eq_true, Bool.or_eq_true, beq_iff_eq, bne_iff_ne, beq_eq_false_iff_ne, ne_eq, Classical.not_not, not_true_eq_false, not_false_eq_true, forall_const, Bool.false_eq_true, false_implies, eq_self] at hs); (try (exfalso; omega)); (try simp (disch := omega) only [go_sem, hs])) | (refine z_seqr rfl ?_) | (refine w_seq rfl fun K hK => ?_) | (refine z_reg rfl ?_) | (refine z_cond rfl ?_) | (refine w_skip rfl ?_; ((repeat ((fail_if_success (refine hK _ _ (cl_id ?_))); clear hK)); refine hK _ _ (cl_id ?_); clear hK)) | (refine w_ret rfl ?_; (try dsimp only [anorm, ablock, astay]); refine z_end ?_) | (refine z_end0 ?_) | (refine w_block rfl ?_) | (refine w_scope rfl ?_) | (refine w_label rfl ?_; ((repeat ((fail_if_success (refine hK _ _ (cl_id ?_))); clear hK)); refine hK _ _ (cl_id ?_); clear hK)) | (refine w_exit rfl ?_; (try dsimp only [anorm, ablock, astay]); (try simp only [reduceIte, ↓reduceIte, Nat.reduceEqDiff]); ((repeat ((fail_if_success (refine hK _ _ (cl_id ?_))); clear hK)); refine hK _ _ (cl_id ?_); clear hK)) | (refine jend_go [(8, [4]), (7, [1, 5, 8, 9, 10]), (6, [1, 5, 8, 9, 10]), (5, [1, 5, 7, 8, 9, 10, 17]), (4, [1, 5, 7, 8, 9, 10]), (3, [1, 5, 8, 9, 10, 11]), (2, [1, 5, 8, 9, 10]), (1, [0, 1, 5]), (0, [0, 1])] ?_; simp only [tabAt_cons, sel_nil, sel_cons, put_at, ofl_cons, ofl_nil, T0_at, List.getElem?_cons_zero, List.getElem?_cons_succ, List.getElem?_nil, Option.getD_some, Option.getD_none, reduceIte, ↓reduceIte, Nat.reduceEqDiff]; refine jl_go ?_) | simp (disch := omega) only [go_sem] | (refine jc_t ?_) | (refine jc_f ?_) | (refine And.intro (by (first | omega | (simp; done) | (simp; omega))) ?_) | (refine mc_b (fun hs => ?_) fun hs => ?_) | (refine mg_st (fun hs => ?_) fun hs => ?_) | (refine mg_sf (fun hs => ?_) fun hs => ?_) | (refine mall_s (fun hs => ?_) fun hs => ?_) | (refine malln_s (fun hs => ?_) fun hs => ?_) | (refine mpk_s (fun hs => ?_) fun hs => ?_) | ((repeat ((fail_if_success (refine hK _ _ (cl_id ?_))); clear hK)); refine hK _ _ (cl_id ?_); clear hK)))
  refine z_loop rfl (fun i => i ≤ ts.length) (fun i => ts.length - i) (fun i => [(1, .v (.int .i64 y)), (5, .hs 0 1 0 (vals (ts.take i) y).length), (8, .sl 2 (tgs ts)), (9, .v (.int .i64 (ts.length : Int))), (10, .v (.int .i64 (i : Int)))]) (fun i => hotB (vals (ts.take i) y)) 0 (Nat.zero_le _) ?_ ?_
  · have e1 : vals (ts.take 0) y = [] := rfl
    rw [e1]
    unfold hotB
    refine (cq_bare 1 5 rfl).trans (cq_s ?_)
    (simp (disch := omega) only [go_sem])
  intro i hi K hK
  have hl := vals_le (ts.take i) y
  have hT : (ts.take i).length ≤ ts.length := List.length_take_le' _ _
  by_cases hlt : (i : Int) < ts.length
  · have hv := vals_take (y := y) (show i < ts.length by omega)
    have hK2 := fun T' H' => hK T' H' (i + 1) (by omega) (by omega)
    clear hK
    obtain ⟨v, hv2⟩ : ∃ v, (ts.getD i tg0).val = v := ⟨_, rfl⟩
    have hvl := hvs i
    rw [hv2] at hv hvl
    by_cases hy : (ts.getD i tg0).typ = y
    · rw [if_pos hy] at hv
      rw [hv] at hK2
      have cl := byclone_am v (by omega)
      clear hv
      generalize vals (ts.take i) y = V at hl hK2 ⊢
      cases V with
      | nil =>
        unfold hotB at hK2 ⊢
        simp only [List.nil_append] at hK2
        (repeat' (first | (have hs := Mk.out hs; (try simp only [decide_eq_true_eq, decide_eq_false_iff_not, Bool.not_eq_true, Bool.not_eq_false, Bool.not_true, Bool.not_false, Bool.not_eq_eq_eq_not, Bool.and_eq_true, Bool.or_eq_true, beq_iff_eq, bne_iff_ne, beq_eq_false_iff_ne, ne_eq, Classical.not_not, not_true_eq_false, not_false_eq_true, forall_const, Bool.false_eq_true, false_implies, eq_self] at hs); (try (exfalso; omega)); (try simp (disch := omega) only [go_sem, hlt, hy, hv2, hs])) | (refine z_seqr rfl ?_) | (refine w_seq rfl fun K hK => ?_) | (refine z_reg rfl ?_) | (refine z_cond rfl ?_) | (refine w_skip rfl ?_; ((repeat ((fail_if_success (refine hK _ _ (cl_id ?_))); clear hK)); refine hK _ _ (cl_id ?_); clear hK)) | (refine w_ret rfl ?_; (try dsimp only [anorm, ablock, astay]); refine z_end ?_) | (refine z_end0 ?_) | (refine w_block rfl ?_) | (refine w_scope rfl ?_) | (refine w_label rfl ?_; ((repeat ((fail_if_success (refine hK _ _ (cl_id ?_))); clear hK)); refine hK _ _ (cl_id ?_); clear hK)) | (refine w_exit rfl ?_; (try dsimp only [anorm, ablock, astay]); (try simp only [reduceIte, ↓reduceIte, Nat.reduceEqDiff]); ((repeat ((fail_if_success (refine hK _ _ (cl_id ?_))); clear hK)); refine hK _ _ (cl_id ?_); clear hK)) | (refine jend_go [(8, [4]), (7, [1, 5, 8, 9, 10]), (6, [1, 5, 8, 9, 10]), (5, [1, 5, 7, 8, 9, 10, 17]), (4, [1, 5, 7, 8, 9, 10]), (3, [1, 5, 8, 9, 10, 11]), (2, [1, 5, 8, 9, 10]), (1, [0, 1, 5]), (0, [0, 1])] ?_; simp only [tabAt_cons, sel_nil, sel_cons, put_at, ofl_cons, ofl_nil, T0_at, List.getElem?_cons_zero, List.getElem?_cons_succ, List.getElem?_nil, Option.getD_some, Option.getD_none, reduceIte, ↓reduceIte, Nat.reduceEqDiff]; refine jl_go ?_) | simp (disch := omega) only [go_sem, hlt, hy, hv2] | (refine jc_t ?_) | (refine jc_f ?_) | (apply zc (cl) []; (case ok => simp (disch := omega) only [go_sem, cok, sgOk, bcl, hlt, hy, hv2])) | (refine And.intro (by (first | omega | (simp; done) | (simp; omega))) ?_) | (refine mc_b (fun hs => ?_) fun hs => ?_) | (refine mg_st (fun hs => ?_) fun hs => ?_) | (refine mg_sf (fun hs => ?_) fun hs => ?_) | (refine mall_s (fun hs => ?_) fun hs => ?_) | (refine malln_s (fun hs => ?_) fun hs => ?_) | (refine mpk_s (fun hs => ?_) fun hs => ?_) | ((repeat ((fail_if_success (refine hK _ _ (cl_id ?_))); clear hK)); refine hK _ _ (cl_id ?_); clear hK)))
        refine hK2 _ _ (cq_any [4, 2] rfl (by simp [lv]) ?_ ?_)
        · (simp (disch := omega) only [go_sem, rwb_nil])
        · (simp (disch := omega) only [go_sem])
          try omega
      | cons w V =>
        unfold hotB at hK2 ⊢
        simp only [List.cons_append] at hK2
        have hl3 : V.length + 1 ≤ 1000000 := by simp at hl; omega
        (repeat' (first | (have hs := Mk.out hs; (try simp only [decide_eq_true_eq, decide_eq_false_iff_not, Bool.not_eq_true, Bool.not_eq_false, Bool.not_true, Bool.not_false, Bool.not_eq_eq_eq_not, Bool.and_eq_true, Bool.or_eq_true, beq_iff_eq, bne_iff_ne, beq_eq_false_iff_ne, ne_eq, Classical.not_not, not_true_eq_false, not_false_eq_true, forall_const, Bool.false_eq_true, false_implies, eq_self] at hs); (try (exfalso; omega)); (try simp (disch := omega) only [go_sem, hlt, hy, hv2, hs])) | (refine z_seqr rfl ?_) | (refine w_seq rfl fun K hK => ?_) | (refine z_reg rfl ?_) | (refine z_cond rfl ?_) | (refine w_skip rfl ?_; ((repeat ((fail_if_success (refine hK _ _ (cl_id ?_))); clear hK)); refine hK _ _ (cl_id ?_); clear hK)) | (refine w_ret rfl ?_; (try dsimp only [anorm, ablock, astay]); refine z_end ?_) | (refine z_end0 ?_) | (refine w_block rfl ?_) | (refine w_scope rfl ?_) | (refine w_label rfl ?_; ((repeat ((fail_if_success (refine hK _ _ (cl_id ?_))); clear hK)); refine hK _ _ (cl_id ?_); clear hK)) | (refine w_exit rfl ?_; (try dsimp only [anorm, ablock, astay]); (try simp only [reduceIte, ↓reduceIte, Nat.reduceEqDiff]); ((repeat ((fail_if_success (refine hK _ _ (cl_id ?_))); clear hK)); refine hK _ _ (cl_id ?_); clear hK)) | (refine jend_go [(8, [4]), (7, [1, 5, 8, 9, 10]), (6, [1, 5, 8, 9, 10]), (5, [1, 5, 7, 8, 9, 10, 17]), (4, [1, 5, 7, 8, 9, 10]), (3, [1, 5, 8, 9, 10, 11]), (2, [1, 5, 8, 9, 10]), (1, [0, 1, 5]), (0, [0, 1])] ?_; simp only [tabAt_cons, sel_nil, sel_cons, put_at, ofl_cons, ofl_nil, T0_at, List.getElem?_cons_zero, List.getElem?_cons_succ, List.getElem?_nil, Option.getD_some, Option.getD_none, reduceIte, ↓reduceIte, Nat.reduceEqDiff]; refine jl_go ?_) | simp (disch := omega) only [go_sem, hlt, hy, hv2] | (refine jc_t ?_) | (refine jc_f ?_) | (apply zc (cl) []; (case ok => simp (disch := omega) only [go_sem, cok, sgOk, bcl, hlt, hy, hv2])) | (refine And.intro (by (first | omega | (simp; done) | (simp; omega))) ?_) | (refine mc_b (fun hs => ?_) fun hs => ?_) | (refine mg_st (fun hs => ?_) fun hs => ?_) | (refine mg_sf (fun hs => ?_) fun hs => ?_) | (refine mall_s (fun hs => ?_) fun hs => ?_) | (refine malln_s (fun hs => ?_) fun hs => ?_) | (refine mpk_s (fun hs => ?_) fun hs => ?_) | ((repeat ((fail_if_success (refine hK _ _ (cl_id ?_))); clear hK)); refine hK _ _ (cl_id ?_); clear hK)))
        have q1 : ∀ (L : Heap) (n : Nat), frz 1 L 2 (.hs 1 1 0 n) = .hs 1 1 0 n := fun L n => by unfold frz; rw [if_pos (by omega)]
        refine hK2 _ _ (cq_f [5, 1, 3] [some (.row true 1 ([.hs 1 1 0 w.length] :: (rwb V ++ [[.hs 2 1 0 v.length]]))), some (.row true 1 ((w).map bcl))] [some (.row true 1 ((v).map bcl))] [(1, .v (.int .i64 y)), (5, .hs 0 1 0 (V.length + 1 + 1)), (8, .sl 2 (tgs ts)), (9, .v (.int .i64 (ts.length : Int))), (10, .v (.int .i64 ((i : Int) + 1)))] 1 rfl (by simp [lv]) ?_ ?_ (by simp) ?_ ?_)
        · (simp (disch := omega) only [go_sem, nbss_app, amapss_app])
        · (simp (disch := omega) only [go_sem])
        · refine ⟨⟨by (simp (disch := omega) only [go_sem]), rfl, rfl, .inr (frz_hsnoc (q1 _ _) (by simp) rfl rfl)⟩, ⟨by (simp (disch := omega) only [go_sem]), ?_⟩, trivial⟩
          exact ⟨rfl, rfl, .inl rfl⟩
        · (simp (disch := omega) only [go_sem, okD])
          try omega
    · rw [if_neg hy, List.append_nil] at hv
      rw [hv] at hK2
      clear hv
      generalize vals (ts.take i) y = V at hl hK2 ⊢
      cases V with
      | nil =>
        unfold hotB at hK2 ⊢
        (repeat' (first | (have hs := Mk.out hs; (try simp only [decide_eq_true_eq, decide_eq_false_iff_not, Bool.not_eq_true, Bool.not_eq_false, Bool.not_true, Bool.not_false, Bool.not_eq_eq_eq_not, Bool.and_eq_true, Bool.or_eq_true, beq_iff_eq, bne_iff_ne, beq_eq_false_iff_ne, ne_eq, Classical.not_not, not_true_eq_false, not_false_eq_true, forall_const, Bool.false_eq_true, false_implies, eq_self] at hs); (try (exfalso; omega)); (try simp (disch := omega) only [go_sem, hlt, hy, hs])) | (refine z_seqr rfl ?_) | (refine w_seq rfl fun K hK => ?_) | (refine z_reg rfl ?_) | (refine z_cond rfl ?_) | (refine w_skip rfl ?_; ((repeat ((fail_if_success (refine hK _ _ (cl_id ?_))); clear hK)); refine hK _ _ (cl_id ?_); clear hK)) | (refine w_ret rfl ?_; (try dsimp only [anorm, ablock, astay]); refine z_end ?_) | (refine z_end0 ?_) | (refine w_block rfl ?_) | (refine w_scope rfl ?_) | (refine w_label rfl ?_; ((repeat ((fail_if_success (refine hK _ _ (cl_id ?_))); clear hK)); refine hK _ _ (cl_id ?_); clear hK)) | (refine w_exit rfl ?_; (try dsimp only [anorm, ablock, astay]); (try simp only [reduceIte, ↓reduceIte, Nat.reduceEqDiff]); ((repeat ((fail_if_success (refine hK _ _ (cl_id ?_))); clear hK)); refine hK _ _ (cl_id ?_); clear hK)) | (refine jend_go [(8, [4]), (7, [1, 5, 8, 9, 10]), (6, [1, 5, 8, 9, 10]), (5, [1, 5, 7, 8, 9, 10, 17]), (4, [1, 5, 7, 8, 9, 10]), (3, [1, 5, 8, 9, 10, 11]), (2, [1, 5, 8, 9, 10]), (1, [0, 1, 5]), (0, [0, 1])] ?_; simp only [tabAt_cons, sel_nil, sel_cons, put_at, ofl_cons, ofl_nil, T0_at, List.getElem?_cons_zero, List.getElem?_cons_succ, List.getElem?_nil, Option.getD_some, Option.getD_none, reduceIte, ↓reduceIte, Nat.reduceEqDiff]; refine jl_go ?_) | simp (disch := omega) only [go_sem, hlt, hy] | (refine jc_t ?_) | (refine jc_f ?_) | (refine And.intro (by (first | omega | (simp; done) | (simp; omega))) ?_) | (refine mc_b (fun hs => ?_) fun hs => ?_) | (refine mg_st (fun hs => ?_) fun hs => ?_) | (refine mg_sf (fun hs => ?_) fun hs => ?_) | (refine mall_s (fun hs => ?_) fun hs => ?_) | (refine malln_s (fun hs => ?_) fun hs => ?_) | (refine mpk_s (fun hs => ?_) fun hs => ?_) | ((repeat ((fail_if_success (refine hK _ _ (cl_id ?_))); clear hK)); refine hK _ _ (cl_id ?_); clear hK)))
        refine hK2 _ _ (cq_any [0] rfl (by simp [lv]) ?_ ?_)
        · (simp (disch := omega) only [go_sem])
        · (simp (disch := omega) only [go_sem])
          try omega
      | cons w V =>
        unfold hotB at hK2 ⊢
        (repeat' (first | (have hs := Mk.out hs; (try simp only [decide_eq_true_eq, decide_eq_false_iff_not, Bool.not_eq_true, Bool.not_eq_false, Bool.not_true, Bool.not_false, Bool.not_eq_eq_eq_not, Bool.and_eq_true, Bool.or_eq_true, beq_iff_eq, bne_iff_ne, beq_eq_false_iff_ne, ne_eq, Classical.not_not, not_true_eq_false, not_false_eq_true, forall_const, Bool.false_eq_true, false_implies, eq_self] at hs); (try (exfalso; omega)); (try simp (disch := omega) only [go_sem, hlt, hy, hs])) | (refine z_seqr rfl ?_) | (refine w_seq rfl fun K hK => ?_) | (refine z_reg rfl ?_) | (refine z_cond rfl ?_) | (refine w_skip rfl ?_; ((repeat ((fail_if_success (refine hK _ _ (cl_id ?_))); clear hK)); refine hK _ _ (cl_id ?_); clear hK)) | (refine w_ret rfl ?_; (try dsimp only [anorm, ablock, astay]); refine z_end ?_) | (refine z_end0 ?_) | (refine w_block rfl ?_) | (refine w_scope rfl ?_) | (refine w_label rfl ?_; ((repeat ((fail_if_success (refine hK _ _ (cl_id ?_))); clear hK)); refine hK _ _ (cl_id ?_); clear hK)) | (refine w_exit rfl ?_; (try dsimp only [anorm, ablock, astay]); (try simp only [reduceIte, ↓reduceIte, Nat.reduceEqDiff]); ((repeat ((fail_if_success (refine hK _ _ (cl_id ?_))); clear hK)); refine hK _ _ (cl_id ?_); clear hK)) | (refine jend_go [(8, [4]), (7, [1, 5, 8, 9, 10]), (6, [1, 5, 8, 9, 10]), (5, [1, 5, 7, 8, 9, 10, 17]), (4, [1, 5, 7, 8, 9, 10]), (3, [1, 5, 8, 9, 10, 11]), (2, [1, 5, 8, 9, 10]), (1, [0, 1, 5]), (0, [0, 1])] ?_; simp only [tabAt_cons, sel_nil, sel_cons, put_at, ofl_cons, ofl_nil, T0_at, List.getElem?_cons_zero, List.getElem?_cons_succ, List.getElem?_nil, Option.getD_some, Option.getD_none, reduceIte, ↓reduceIte, Nat.reduceEqDiff]; refine jl_go ?_) | simp (disch := omega) only [go_sem, hlt, hy] | (refine jc_t ?_) | (refine jc_f ?_) | (refine And.intro (by (first | omega | (simp; done) | (simp; omega))) ?_) | (refine mc_b (fun hs => ?_) fun hs => ?_) | (refine mg_st (fun hs => ?_) fun hs => ?_) | (refine mg_sf (fun hs => ?_) fun hs => ?_) | (refine mall_s (fun hs => ?_) fun hs => ?_) | (refine malln_s (fun hs => ?_) fun hs => ?_) | (refine mpk_s (fun hs => ?_) fun hs => ?_) | ((repeat ((fail_if_success (refine hK _ _ (cl_id ?_))); clear hK)); refine hK _ _ (cl_id ?_); clear hK)))
        refine hK2 _ _ (cq_any [0, 1] rfl (by simp [lv]) ?_ ?_)
        · (simp (disch := omega) only [go_sem])
        · (simp (disch := omega) only [go_sem])
          try omega
  · obtain rfl : i = ts.length := by omega
    rw [List.take_length, ← hz] at *
    clear hK
    cases z with
    | nil =>
      unfold hotB
      (repeat' (first | (have hs := Mk.out hs; (try simp only [decide_eq_true_eq, decide_eq_false_iff_not, Bool.not_eq_true, Bool.not_eq_false, Bool.not_true, Bool.not_false, Bool.not_eq_eq_eq_not, Bool.and_eq_true, Bool.or_eq_true, beq_iff_eq, bne_iff_ne, beq_eq_false_iff_ne, ne_eq, Classical.not_not, not_true_eq_false, not_false_eq_true, forall_const, Bool.false_eq_true, false_implies, eq_self] at hs); (try (exfalso; omega)); (try simp (disch := omega) only [go_sem, hlt, hs])) | (refine z_seqr rfl ?_) | (refine w_seq rfl fun K hK => ?_) | (refine z_reg rfl ?_) | (refine z_cond rfl ?_) | (refine w_skip rfl ?_; ((repeat ((fail_if_success (refine hK _ _ (cl_id ?_))); clear hK)); refine hK _ _ (cl_id ?_); clear hK)) | (refine w_ret rfl ?_; (try dsimp only [anorm, ablock, astay]); refine z_end ?_) | (refine z_end0 ?_) | (refine w_block rfl ?_) | (refine w_scope rfl ?_) | (refine w_label rfl ?_; ((repeat ((fail_if_success (refine hK _ _ (cl_id ?_))); clear hK)); refine hK _ _ (cl_id ?_); clear hK)) | (refine w_exit rfl ?_; (try dsimp only [anorm, ablock, astay]); (try simp only [reduceIte, ↓reduceIte, Nat.reduceEqDiff]); ((repeat ((fail_if_success (refine hK _ _ (cl_id ?_))); clear hK)); refine hK _ _ (cl_id ?_); clear hK)) | (refine jend_go [(8, [4]), (7, [1, 5, 8, 9, 10]), (6, [1, 5, 8, 9, 10]), (5, [1, 5, 7, 8, 9, 10, 17]), (4, [1, 5, 7, 8, 9, 10]), (3, [1, 5, 8, 9, 10, 11]), (2, [1, 5, 8, 9, 10]), (1, [0, 1, 5]), (0, [0, 1])] ?_; simp only [tabAt_cons, sel_nil, sel_cons, put_at, ofl_cons, ofl_nil, T0_at, List.getElem?_cons_zero, List.getElem?_cons_succ, List.getElem?_nil, Option.getD_some, Option.getD_none, reduceIte, ↓reduceIte, Nat.reduceEqDiff]; refine jl_go ?_) | simp (disch := omega) only [go_sem, hlt] | (refine jc_t ?_) | (refine jc_f ?_) | (refine And.intro (by (first | omega | (simp; done) | (simp; omega))) ?_) | (refine mc_b (fun hs => ?_) fun hs => ?_) | (refine mg_st (fun hs => ?_) fun hs => ?_) | (refine mg_sf (fun hs => ?_) fun hs => ?_) | (refine mall_s (fun hs => ?_) fun hs => ?_) | (refine malln_s (fun hs => ?_) fun hs => ?_) | (refine mpk_s (fun hs => ?_) fun hs => ?_) | ((repeat ((fail_if_success (refine hK _ _ (cl_id ?_))); clear hK)); refine hK _ _ (cl_id ?_); clear hK)))
      refine end_q (L' := [some (.row true 1 [])]) [0] rfl (by decide) (by simp) ?_ ⟨rfl, rfl⟩ ?_
      · (simp (disch := omega) only [go_sem])
      · (simp (disch := omega) only [go_sem])
    | cons w V =>
      unfold hotB
      (repeat' (first | (have hs := Mk.out hs; (try simp only [decide_eq_true_eq, decide_eq_false_iff_not, Bool.not_eq_true, Bool.not_eq_false, Bool.not_true, Bool.not_false, Bool.not_eq_eq_eq_not, Bool.and_eq_true, Bool.or_eq_true, beq_iff_eq, bne_iff_ne, beq_eq_false_iff_ne, ne_eq, Classical.not_not, not_true_eq_false, not_false_eq_true, forall_const, Bool.false_eq_true, false_implies, eq_self] at hs); (try (exfalso; omega)); (try simp (disch := omega) only [go_sem, hlt, hs])) | (refine z_seqr rfl ?_) | (refine w_seq rfl fun K hK => ?_) | (refine z_reg rfl ?_) | (refine z_cond rfl ?_) | (refine w_skip rfl ?_; ((repeat ((fail_if_success (refine hK _ _ (cl_id ?_))); clear hK)); refine hK _ _ (cl_id ?_); clear hK)) | (refine w_ret rfl ?_; (try dsimp only [anorm, ablock, astay]); refine z_end ?_) | (refine z_end0 ?_) | (refine w_block rfl ?_) | (refine w_scope rfl ?_) | (refine w_label rfl ?_; ((repeat ((fail_if_success (refine hK _ _ (cl_id ?_))); clear hK)); refine hK _ _ (cl_id ?_); clear hK)) | (refine w_exit rfl ?_; (try dsimp only [anorm, ablock, astay]); (try simp only [reduceIte, ↓reduceIte, Nat.reduceEqDiff]); ((repeat ((fail_if_success (refine hK _ _ (cl_id ?_))); clear hK)); refine hK _ _ (cl_id ?_); clear hK)) | (refine jend_go [(8, [4]), (7, [1, 5, 8, 9, 10]), (6, [1, 5, 8, 9, 10]), (5, [1, 5, 7, 8, 9, 10, 17]), (4, [1, 5, 7, 8, 9, 10]), (3, [1, 5, 8, 9, 10, 11]), (2, [1, 5, 8, 9, 10]), (1, [0, 1, 5]), (0, [0, 1])] ?_; simp only [tabAt_cons, sel_nil, sel_cons, put_at, ofl_cons, ofl_nil, T0_at, List.getElem?_cons_zero, List.getElem?_cons_succ, List.getElem?_nil, Option.getD_some, Option.getD_none, reduceIte, ↓reduceIte, Nat.reduceEqDiff]; refine jl_go ?_) | simp (disch := omega) only [go_sem, hlt] | (refine jc_t ?_) | (refine jc_f ?_) | (refine And.intro (by (first | omega | (simp; done) | (simp; omega))) ?_) | (refine mc_b (fun hs => ?_) fun hs => ?_) | (refine mg_st (fun hs => ?_) fun hs => ?_) | (refine mg_sf (fun hs => ?_) fun hs => ?_) | (refine mall_s (fun hs => ?_) fun hs => ?_) | (refine malln_s (fun hs => ?_) fun hs => ?_) | (refine mpk_s (fun hs => ?_) fun hs => ?_) | ((repeat ((fail_if_success (refine hK _ _ (cl_id ?_))); clear hK)); refine hK _ _ (cl_id ?_); clear hK)))
      refine end_q (L' := [some (.row true 1 ([.hs 1 1 0 w.length] :: rwb V)), some (.row true 1 ((w).map bcl))]) [0, 1] rfl (by decide) (by simp) ?_ ⟨rfl, rfl⟩ ?_
      · (simp (disch := omega) only [go_sem])
      · (simp (disch := omega) only [go_sem])
theorem find_hot (ts : List Tag) (y : Int) (hts : ts.length ≤ 1000000) (hvs : ∀ i, (ts.getD i tg0).val.length ≤ 1000000) (v : List UInt8) (V : List (List UInt8)) (hv : vals ts y = v :: V) : ACalls E0 35 [.sl 2 (tgs ts), .v (.int .i64 y)] [] fun r H' => r = .tup [.hs 0 1 0 v.length, .v (.bool true)] ∧ H' = [some (.row true 1 ((v).map bcl))] := by
  have ha := all_hot ts y hts hvs
  rw [hv] at ha
  unfold hotB at ha
  have h1 : ¬ ((V.length + 1 : Nat) : Int) = 0 := by omega
  have h2 : (0 : Int) < ((V.length + 1 : Nat) : Int) := by omega
  have h5 : V.length + 1 ≤ 1000000 := by
    have := vals_le ts y
    rw [hv] at this
    simp at this
    omega
  rw [List.length_cons] at ha
  refine calls_q (calls_of Try.func35 rfl (by kernel_rfl) (by kernel_rfl) (by rw [Try.ntmps35]; exact Nat.le_of_ble_eq_true rfl) (fun hH0 hA0 => ?_)); rw [Try.results35]
  (repeat' (first | (have hs := Mk.out hs; (try simp only [decide_eq_true_eq, decide_eq_false_iff_not, Bool.not_eq_true, Bool.not_eq_false, Bool.not_true, Bool.not_false, Bool.not_eq_eq_eq_not, Bool.and_eq_true, Bool.or_eq_true, beq_iff_eq, bne_iff_ne, beq_eq_false_iff_ne, ne_eq, Classical.not_not, not_true_eq_false, not_false_eq_true, forall_const, Bool.false_eq_true, false_implies, eq_self] at hs); (try (exfalso; omega)); (try simp (disch := omega) only [go_sem, h1, h2, hs])) | (refine z_seqr rfl ?_) | (refine w_seq rfl fun K hK => ?_) | (refine z_reg rfl ?_) | (refine z_cond rfl ?_) | (refine w_skip rfl ?_; ((repeat ((fail_if_success (refine hK _ _ (cl_id ?_))); clear hK)); refine hK _ _ (cl_id ?_); clear hK)) | (refine w_ret rfl ?_; (try dsimp only [anorm, ablock, astay]); refine z_end ?_) | (refine z_end0 ?_) | (refine w_block rfl ?_) | (refine w_scope rfl ?_) | (refine w_label rfl ?_; ((repeat ((fail_if_success (refine hK _ _ (cl_id ?_))); clear hK)); refine hK _ _ (cl_id ?_); clear hK)) | (refine w_exit rfl ?_; (try dsimp only [anorm, ablock, astay]); (try simp only [reduceIte, ↓reduceIte, Nat.reduceEqDiff]); ((repeat ((fail_if_success (refine hK _ _ (cl_id ?_))); clear hK)); refine hK _ _ (cl_id ?_); clear hK)) | (refine jend_go [(4, [4, 5]), (3, [4, 5]), (2, [6, 12]), (1, [6]), (0, [0, 1])] ?_; simp only [tabAt_cons, sel_nil, sel_cons, put_at, ofl_cons, ofl_nil, T0_at, List.getElem?_cons_zero, List.getElem?_cons_succ, List.getElem?_nil, Option.getD_some, Option.getD_none, reduceIte, ↓reduceIte, Nat.reduceEqDiff]; refine jl_go ?_) | simp (disch := omega) only [go_sem, h1, h2] | (refine jc_t ?_) | (refine jc_f ?_) | (apply zc (ha) []; (case ok => simp (disch := omega) only [go_sem, cok, sgOk, bcl, h1, h2])) | (refine And.intro (by (first | omega | (simp; done) | (simp; omega))) ?_) | (refine mc_b (fun hs => ?_) fun hs => ?_) | (refine mg_st (fun hs => ?_) fun hs => ?_) | (refine mg_sf (fun hs => ?_) fun hs => ?_) | (refine mall_s (fun hs => ?_) fun hs => ?_) | (refine malln_s (fun hs => ?_) fun hs => ?_) | (refine mpk_s (fun hs => ?_) fun hs => ?_) | ((repeat ((fail_if_success (refine hK _ _ (cl_id ?_))); clear hK)); refine hK _ _ (cl_id ?_); clear hK)))
  refine end_r [1] rfl (by simp [lv]) ?_ ⟨rfl, rfl⟩ ?_
  · (simp (disch := omega) only [go_sem])
  · (simp (disch := omega) only [go_sem])
/-- Find, told in one way: its row is one's own. -/
theorem find_hotU (ts : List Tag) (y : Int) (hts : ts.length ≤ 1000000) (hvs : ∀ i, (ts.getD i tg0).val.length ≤ 1000000) : ACalls E0 35 [.sl 2 (tgs ts), .v (.int .i64 y)] [] fun r H' => r = .tup [.hs 0 1 0 (hdv ts y).length, .v (.bool (hasv ts y))] ∧ H' = [some (.row true 1 (((hdv ts y)).map bcl))] := by
  unfold hdv hasv
  cases hv : vals ts y with
  | nil => exact (find_none ts y hts hvs hv).bareW 1 _ fun M w u hb h => bare_tup hb h
  | cons v V => exact find_hot ts y hts hvs v V hv
/-- Encode, told in one way. -/
theorem penc_hot (c s : Int) (p : List UInt8) : ACalls E0 10 [.agg [.v (.int .i64 c), .v (.int .i64 s), byts p]] [] fun z H' => z = .tup [.hs 0 1 0 (penc c s p).length, .v (.int .i64 (encE c s p.length))] ∧ H' = [some (.row true 1 (((penc c s p)).map bcl))] := by
  unfold penc
  by_cases he : encE c s p.length = 0
  · obtain ⟨h1, h2⟩ := encE_0 he
    rw [if_pos he, he]
    have := pencode_ok c.toNat s.toNat p (by omega) (by omega) h2
    rw [show ((c.toNat : Nat) : Int) = c by omega, show ((s.toNat : Nat) : Int) = s by omega] at this
    exact this
  · rw [if_neg he]
    exact (pencode_no c s p he).bareW 1 _ fun M w u hb h => bare_tup hb h
end Go.Proofs.Ytoeheoihdoaplaa
