/- The package hmac, by the machine. No condition but bounds of lengths. -/
import Derived.Test.YtelenadhhjeoeaaDoorHm
set_option linter.unusedSectionVars false
set_option linter.unusedVariables false
set_option linter.unusedSimpArgs false
set_option linter.deprecated false
namespace Go.Sha
open Go.Am Go.Cx
theorem xor8 (x y : UInt8) : bits .xor .u8 (x.toNat : Int) (y.toNat : Int) = ((x ^^^ y).toNat : Int) := by rw [u8_xor_nat _ _ x.toNat_lt y.toNat_lt, UInt8.toNat_xor]
theorem or8 (x y : UInt8) : bits .or .u8 (x.toNat : Int) (y.toNat : Int) = ((x ||| y).toNat : Int) := by rw [u8_or_nat _ _ x.toNat_lt y.toNat_lt, UInt8.toNat_or]
theorem turn_row {x : UInt8} {b : List UInt8} {i : Nat} (h : i < b.length) : (turn x (b.take i)).map bcl ++ [[.v (.int .u8 ((b.getD i 0 ^^^ x).toNat : Int))]] = (turn x (b.take (i + 1))).map bcl := by
  rw [turn_take x b i h, List.map_append]
  rfl
/-- The bits in which two differ, i bytes looked at. -/
def dif (a b : List UInt8) : Nat → UInt8
  | 0 => 0
  | i + 1 => dif a b i ||| (a.getD i 0 ^^^ b.getD i 0)
theorem or_zero8 (x y : UInt8) : x ||| y = 0 ↔ x = 0 ∧ y = 0 := by
  constructor
  · intro h
    have h2 := congrArg UInt8.toNat h
    rw [UInt8.toNat_or] at h2
    have h3 : x.toNat ||| y.toNat = 0 := h2
    rw [Nat.or_eq_zero_iff] at h3
    exact ⟨UInt8.toNat_inj.1 h3.1, UInt8.toNat_inj.1 h3.2⟩
  · rintro ⟨rfl, rfl⟩
    rfl
theorem xor_zero8 (x y : UInt8) : x ^^^ y = 0 ↔ x = y := by
  constructor
  · intro h
    have h2 : (x ^^^ y) ^^^ y = 0 ^^^ y := by rw [h]
    rw [UInt8.xor_assoc, UInt8.xor_self, UInt8.xor_zero, UInt8.zero_xor] at h2
    exact h2
  · rintro rfl
    exact UInt8.xor_self
theorem dif_zero (a b : List UInt8) : ∀ i, dif a b i = 0 ↔ ∀ j, j < i → a.getD j 0 = b.getD j 0
  | 0 => by simp [dif]
  | i + 1 => by
    unfold dif
    rw [or_zero8, xor_zero8, dif_zero a b i]
    constructor
    · rintro ⟨h1, h2⟩ j hj
      by_cases e : j = i
      · subst e; exact h2
      · exact h1 j (by omega)
    · intro h
      exact ⟨fun j hj => h j (by omega), h i (by omega)⟩
theorem dif_eq {a b : List UInt8} (h : a.length = b.length) : (dif a b a.length).toNat = 0 ↔ a = b := by
  have e : (dif a b a.length).toNat = 0 ↔ dif a b a.length = 0 := ⟨fun h => UInt8.toNat_inj.1 h, fun h => by rw [h]; rfl⟩
  rw [e, dif_zero]
  constructor
  · intro h2
    refine List.ext_getElem h fun j h1 h3 => ?_
    have := h2 j h1
    simpa [List.getD_eq_getElem?_getD, List.getElem?_eq_getElem h1, List.getElem?_eq_getElem h3] using this
  · rintro rfl j _
    rfl
end Go.Sha
namespace Go.Proofs.YtelenadhhjeoeaaDoor
open Go.RowKit Go.Cx Go.Am Go.Sha
set_option maxRecDepth 8000
set_option maxHeartbeats 2000000
attribute [local irreducible] ACalls jcall jex jexg jexh jguard jconv jload jpart jstore jbin jslice jidxA jidx jfield jfieldA jbuild jbuildS jmake jappend jlen jpick jres jcnd jcopy jcap jborn jdraw jops jop jstr jstrc jlive jend
attribute [local go_sem] reduceIte Nat.reduceEqDiff Nat.reduceAdd Nat.reduceMul Nat.reduceLT Nat.reduceLeDiff Nat.reduceSub Int.reduceLT Int.reduceLE Int.reduceToNat Int.reduceNeg Int.reduceAdd Int.reduceSub UInt8.reduceToNat Int.reduceEq reduceCtorEq Int.reducePow Int.reduceMul Nat.reducePow E0
attribute [local go_sem ↓] reduceIte
attribute [local go_sem high] chunks_bvs
attribute [local go_sem] Nat.one_ne_zero Nat.zero_ne_one decide_true decide_false Bool.false_eq_true Bool.true_eq_false Bool.not_true Bool.not_false jops_nil jops_one jops_g jg_tt jg_ff jg_tf jg_ft jg_n jop_move jop_assign jop_pick jop_alloc jop_box jop_build jop_buildSlice jop_load jop_store jop_nilCheck jop_bin jop_not jop_convert jop_makeFunc jop_makeSlice jop_slice jop_fieldAddr jop_field jop_indexAddr jop_index jop_extract jop_len jop_append jop_call jload_m jpart_t jpart_f jpick_t jpick_f jpick_b jidxA_ptr jidxA_cptr jidxA_rp jidxA_sl jidxA_hs jidxA_os jidx_agg jidx_str jfield_m jfieldA_m jbuild_m jlen_str jlen_sl jlen_hs jlen_os jlen_mt jlen_nil jslice_sl jslice3_sl jpart_bcl jstr_map jstr_nil jstr_cons jstrc_cons jstrc_int jstrc_nil jstrc_map jconv_sl jconv_hs jconv_os jconv_mt jconv_nil jconv_str mk_toList str_toList str_size mk_size jbin_eq_nn jbin_ne_nn jbin_eq_pn jbin_ne_pn jbin_eq_bb jbin_ne_bb beq_self_eq_true oc_int oc_bool oc_str oc_slice oc_ptr oc_nilF amaps_bcl jslice_hs jslice_os jslice_mt jslice_nil jslice_str jslice_ptr jbuildS_m jappend_m jmake_m jconv_int jstore_ptr jstore_rp jbin_add jbin_sub jbin_mul jbin_lss jbin_leq jbin_gtr jbin_geq jbin_eql jbin_neq jbin_and jbin_or jbin_xor jbin_andNot jbin_str_eql jbin_str_neq jres_nil jres_tmp jres_cell jdraw_nil jdraw_q jdraw_l jdraw_b jdraw_gg jdraw_e jdraw_w jex_eq jex_all jexg_eq jexh_eq jborn_m jop_copy jcopy_hs jcopy_os jop_cap jcap_mt jcap_nil jbin_eq_sl jbin_ne_sl jbin_eq_hs jbin_ne_hs hget0 hgetk hset0 hsetk List.set_cons_zero List.set_cons_succ put_at ev_tmp ev_const ev_global ev_func aput_some aput_none T0_at ayield place cells1 splice_cs Nat.mul_one Nat.sub_add_cancel Int.cast_ofNat_Int elems source abound afill bfill dest sure one anorm ablock astay cv_int cv_bool cv_str cv_slice cv_ptr cv_nilFunc List.map_cons List.map_nil List.map_toArray List.getElem?_toArray List.getElem?_cons_zero List.getElem?_cons_succ Option.getD_some Option.getD_none Option.map_some Option.map_none Option.bind_some Option.some.injEq Nat.add_zero Nat.zero_add List.drop_zero List.drop_succ_cons List.take_succ_cons List.take_zero List.take_nil List.drop_nil List.length_cons List.length_nil List.length_append List.nil_append List.cons_append List.append_assoc List.append_nil List.append_cancel_left_eq List.cons.injEq if_true if_false true_and and_true or_false false_or ne_eq not_true_eq_false not_false_eq_true Nat.le_refl Int.toNat_natCast List.replicate_succ List.replicate_zero exists_eq List.toList_toArray List.length_map Prod.mk.injEq exists_eq_left exists_eq_left' exists_eq' exists_eq_right' exists_and_left exists_and_right exists_const bvs_len bvs_drop bvs_take bvs_getD splice_bvs splice_row flat_bcl amaps_bvs jpart_bvs List.take_length List.length_drop List.length_take Nat.min_eq_left Nat.min_eq_right amap amaps amapss bmap amapss_bcl back_nil sg_nil back backs sg List.getD_cons_zero List.getD_cons_succ ofl_cons ofl_nil jbin_quo jbin_rem jbin_shl jbin_shr getD_bcl w8_u8 w8_u16 w8_u32 w8_u64 w8_i64 IntWalk.i64_in IntWalk.u64_in IntWalk.u32_in IntWalk.u16_in bits_u8 bits_u16 bits_u32 bits_u64 bits_i64 nbs_bvs gfs_bvs okS okT okL okD wk_rfl wk_any wk_v wk_nil nb_byts nbss_bcl amap_byts frz_v frz_sl frz_byts frz_ptr frz_any frz_mt frzs_bcl nb nbs nbss nbB sh_lt sh_0 sh_at frz Value.int.injEq Value.bool.injEq Value.string.injEq Nat.lt_add_right_iff_pos Nat.lt_irrefl Nat.zero_lt_one gf gfs gfss gfB gfH gfss_bcl byts uvs_len uvs_drop uvs_take uvs_getD splice_uvs nbs_uvs gfs_uvs amaps_uvs jpart_uvs jpart_uvs0 getD_ucl set_ucl b32_xor b32_or b32_and b32_add b32_not b32_shr b32_shl b32_shr3 b32_shr10 jop_cpl sgn_u32 max_u32 flat_ucl zeros8_len zeros32_len okVs_bvs okVs_uvs getI_ucl getI_bcl amapss_ucl w32_in jop_max jop_min jmax_ii jmin_ii uclss_nb uclss_gf nbs_mC gfs_mC amaps_mC jpart_bvs0 sl8 nbs_hC gfs_hC amaps_hC okVs_hC okV okVs okEs okA okAs List.not_mem_nil List.mem_cons List.mem_singleton false_and and_false true_or or_true or_self and_self ty1 ty2 ty3 ty4 ty5 ty6 ty7 st7 ty8 st8 ty9 ty10 ty11 ty12 ty13 st13 ty14 st14 ty15 ty16 ty17 ty18 st18 ty19 st19 ty20 ty21 ty22 sl22 ty23 sl23 ty24 ty25 ty26 ty27 ar27 ty28 ty29 ty30 ty31 ty32 ty33 ty34 ty35 ar35 ty36 ar36 ty37 ty38 st38 ty39 st39 ty40 sl40 ty41 ty42 ty43 ty44 ty45 ty46 ty47 ty48 ty49 ty50 ty51 ty52 ty53 ty54 ty55 ty56 ty57 ty58 ty59 ar59 ty60 ty61 st61 ty62 st62 ty63 ty64 ty65 ty66 ty67 ar67 ty68 ar68 ty69 ty70 ty71 sl71 ty72 ty73 ty74 ty75 st75 ty76 st76 ty77 ar77 ty78 st78 ty79 st79 ty80 ty81 ty82 ty83 ty84 ty85 ty86 st86 ty87 st87 ty88 arn7 arn8 arn13 arn14 arn18 arn19 arn38 arn39 arn61 arn62 arn75 arn76 arn78 arn79 arn86 arn87 stn27 stn35 stn36 stn59 stn67 stn68 stn77 Tryd.underlying0 Tryd.underlying1 Tryd.underlying2 Tryd.underlying3 Tryd.underlying4 Tryd.underlying5 Tryd.underlying6 Tryd.underlying7 Tryd.underlying8 Tryd.underlying9 Tryd.underlying10 Tryd.underlying11 Tryd.underlying12 Tryd.underlying13 Tryd.underlying14 Tryd.underlying15 Tryd.underlying16 Tryd.underlying17 Tryd.underlying18 Tryd.underlying19 Tryd.underlying20 Tryd.underlying21 Tryd.underlying22 Tryd.underlying23 Tryd.underlying24 Tryd.underlying25 Tryd.underlying26 Tryd.underlying27 Tryd.underlying28 Tryd.underlying29 Tryd.underlying30 Tryd.underlying31 Tryd.underlying32 Tryd.underlying33 Tryd.underlying34 Tryd.underlying35 Tryd.underlying36 Tryd.underlying37 Tryd.underlying38 Tryd.underlying39 Tryd.underlying40 Tryd.underlying41 Tryd.underlying42 Tryd.underlying43 Tryd.underlying44 Tryd.underlying45 Tryd.underlying46 Tryd.underlying47 Tryd.underlying48 Tryd.underlying49 Tryd.underlying50 Tryd.underlying51 Tryd.underlying52 Tryd.underlying53 Tryd.underlying54 Tryd.underlying55 Tryd.underlying56 Tryd.underlying57 Tryd.underlying58 Tryd.underlying59 Tryd.underlying60 Tryd.underlying61 Tryd.underlying62 Tryd.underlying63 Tryd.underlying64 Tryd.underlying65 Tryd.underlying66 Tryd.underlying67 Tryd.underlying68 Tryd.underlying69 Tryd.underlying70 Tryd.underlying71 Tryd.underlying72 Tryd.underlying73 Tryd.underlying74 Tryd.underlying75 Tryd.underlying76 Tryd.underlying77 Tryd.underlying78 Tryd.underlying79 Tryd.underlying80 Tryd.underlying81 Tryd.underlying82 Tryd.underlying83 Tryd.underlying84 Tryd.underlying85 Tryd.underlying86 Tryd.underlying87 Tryd.underlying88
attribute [local go_sem ←] List.map_take List.map_drop
theorem of_am (k : List UInt8) (hk : k.length ≤ 1073741824) : ACalls E0 20 [byts k] [] fun r H' => r = .agg (bvs (keyB k)) ∧ H' = [] := by
  have sl := sum_len k
  have kl := keyB_len k sl
  have kt : List.take 64 (keyB k) = keyB k := List.take_of_length_le (by omega)
  have ks : splice 0 (bvs (keyB k)) (bvs (zeros8 64)) = bvs (keyB k) := splice_all rfl (by rw [bvs_len, bvs_len, kl]; rfl)
  by_cases h : 64 < (k.length : Int)
  · have st : List.take 32 (sum k) = sum k := List.take_of_length_le (by omega)
    have sp : splice 0 (bvs (sum k)) (bvs (zeros8 32)) = bvs (sum k) := splice_all rfl (by rw [bvs_len, bvs_len, sl]; rfl)
    have sp2 : splice 0 (bvs (sum k)) (bvs (zeros8 64)) = bvs (keyB k) := by
      rw [splice_row]
      unfold keyB keyS
      rw [if_pos (by omega), sl]
      simp [zeros8]
    revert kl kt ks sp2
    generalize keyB k = B
    intro kl kt ks sp2
    refine calls_q (calls_of Tryd.func20 rfl (by kernel_rfl) (by kernel_rfl) (by rw [Tryd.ntmps20]; exact Nat.le_of_ble_eq_true rfl) (fun hH0 hA0 => ?_)); rw [Tryd.results20]
    (repeat' (first | (have hs := Mk.out hs; (try simp only [decide_eq_true_eq, decide_eq_false_iff_not, Bool.not_eq_true, Bool.not_eq_false, Bool.not_true, Bool.not_false, Bool.not_eq_eq_eq_not, Bool.and_eq_true, Bool.or_eq_true, beq_iff_eq, bne_iff_ne, beq_eq_false_iff_ne, ne_eq, Classical.not_not, not_true_eq_false, not_false_eq_true, forall_const, Bool.false_eq_true, false_implies, eq_self] at hs); (try (exfalso; omega)); (try simp (disch := omega) only [go_sem, h, sl, st, sp, sp2, kl, kt, ks, hs])) | (refine z_seqr rfl ?_) | (refine w_seq rfl fun K hK => ?_) | (refine z_reg rfl ?_) | (refine z_cond rfl ?_) | (refine w_skip rfl ?_; ((repeat ((fail_if_success (refine hK _ _ (cl_id ?_))); clear hK)); refine hK _ _ (cl_id ?_); clear hK)) | (refine w_ret rfl ?_; (try dsimp only [anorm, ablock, astay]); refine z_end ?_) | (refine w_block rfl ?_) | (refine w_scope rfl ?_) | (refine w_label rfl ?_; ((repeat ((fail_if_success (refine hK _ _ (cl_id ?_))); clear hK)); refine hK _ _ (cl_id ?_); clear hK)) | (refine w_exit rfl ?_; (try dsimp only [anorm, ablock, astay]); (try simp only [reduceIte, ↓reduceIte, Nat.reduceEqDiff]); ((repeat ((fail_if_success (refine hK _ _ (cl_id ?_))); clear hK)); refine hK _ _ (cl_id ?_); clear hK)) | (refine jend_go [(6, [2]), (5, [2, 4]), (4, [0, 2, 4]), (3, [0, 2]), (2, [2, 3]), (1, [0, 2, 7]), (0, [0, 2])] ?_; simp only [tabAt_cons, sel_nil, sel_cons, put_at, ofl_cons, ofl_nil, T0_at, List.getElem?_cons_zero, List.getElem?_cons_succ, List.getElem?_nil, Option.getD_some, Option.getD_none, reduceIte, ↓reduceIte, Nat.reduceEqDiff]; refine jl_go ?_) | simp (disch := omega) only [go_sem, h, sl, st, sp, sp2, kl, kt, ks] | (refine jc_t ?_) | (refine jc_f ?_) | (apply zc (sum_am k hk) []; (case ok => simp (disch := omega) only [go_sem, cok, sgOk, bcl, h, sl, st, sp, sp2, kl, kt, ks])) | (refine And.intro (by (first | omega | (simp; done) | (simp; omega))) ?_) | (refine mc_b (fun hs => ?_) fun hs => ?_) | (refine mg_st (fun hs => ?_) fun hs => ?_) | (refine mg_sf (fun hs => ?_) fun hs => ?_) | (refine mall_s (fun hs => ?_) fun hs => ?_) | (refine malln_s (fun hs => ?_) fun hs => ?_) | (refine mpk_s (fun hs => ?_) fun hs => ?_) | ((repeat ((fail_if_success (refine hK _ _ (cl_id ?_))); clear hK)); refine hK _ _ (cl_id ?_); clear hK)))
    exact end_d 0 ⟨rfl, rfl⟩ ⟨of_eq_true (nbs_bvs _), by (simp (disch := omega) only [go_sem])⟩
  · have sp2 : splice 0 (bvs k) (bvs (zeros8 64)) = bvs (keyB k) := by
      rw [splice_row]
      unfold keyB keyS
      rw [if_neg (by omega), List.take_zero, List.nil_append, Nat.zero_add]
      unfold zeros8
      rw [List.drop_replicate]
    have hm : min k.length 64 = k.length := by omega
    have ht : List.take k.length (k.map bcl) = k.map bcl := List.take_of_length_le (by simp)
    revert kl kt ks sp2
    generalize keyB k = B
    intro kl kt ks sp2
    refine calls_q (calls_of Tryd.func20 rfl (by kernel_rfl) (by kernel_rfl) (by rw [Tryd.ntmps20]; exact Nat.le_of_ble_eq_true rfl) (fun hH0 hA0 => ?_)); rw [Tryd.results20]
    (repeat' (first | (have hs := Mk.out hs; (try simp only [decide_eq_true_eq, decide_eq_false_iff_not, Bool.not_eq_true, Bool.not_eq_false, Bool.not_true, Bool.not_false, Bool.not_eq_eq_eq_not, Bool.and_eq_true, Bool.or_eq_true, beq_iff_eq, bne_iff_ne, beq_eq_false_iff_ne, ne_eq, Classical.not_not, not_true_eq_false, not_false_eq_true, forall_const, Bool.false_eq_true, false_implies, eq_self] at hs); (try (exfalso; omega)); (try simp (disch := omega) only [go_sem, h, hm, ht, sp2, kl, kt, ks, hs])) | (refine z_seqr rfl ?_) | (refine w_seq rfl fun K hK => ?_) | (refine z_reg rfl ?_) | (refine z_cond rfl ?_) | (refine w_skip rfl ?_; ((repeat ((fail_if_success (refine hK _ _ (cl_id ?_))); clear hK)); refine hK _ _ (cl_id ?_); clear hK)) | (refine w_ret rfl ?_; (try dsimp only [anorm, ablock, astay]); refine z_end ?_) | (refine w_block rfl ?_) | (refine w_scope rfl ?_) | (refine w_label rfl ?_; ((repeat ((fail_if_success (refine hK _ _ (cl_id ?_))); clear hK)); refine hK _ _ (cl_id ?_); clear hK)) | (refine w_exit rfl ?_; (try dsimp only [anorm, ablock, astay]); (try simp only [reduceIte, ↓reduceIte, Nat.reduceEqDiff]); ((repeat ((fail_if_success (refine hK _ _ (cl_id ?_))); clear hK)); refine hK _ _ (cl_id ?_); clear hK)) | (refine jend_go [(6, [2]), (5, [2, 4]), (4, [0, 2, 4]), (3, [0, 2]), (2, [2, 3]), (1, [0, 2, 7]), (0, [0, 2])] ?_; simp only [tabAt_cons, sel_nil, sel_cons, put_at, ofl_cons, ofl_nil, T0_at, List.getElem?_cons_zero, List.getElem?_cons_succ, List.getElem?_nil, Option.getD_some, Option.getD_none, reduceIte, ↓reduceIte, Nat.reduceEqDiff]; refine jl_go ?_) | simp (disch := omega) only [go_sem, h, hm, ht, sp2, kl, kt, ks] | (refine jc_t ?_) | (refine jc_f ?_) | (refine And.intro (by (first | omega | (simp; done) | (simp; omega))) ?_) | (refine mc_b (fun hs => ?_) fun hs => ?_) | (refine mg_st (fun hs => ?_) fun hs => ?_) | (refine mg_sf (fun hs => ?_) fun hs => ?_) | (refine mall_s (fun hs => ?_) fun hs => ?_) | (refine malln_s (fun hs => ?_) fun hs => ?_) | (refine mpk_s (fun hs => ?_) fun hs => ?_) | ((repeat ((fail_if_success (refine hK _ _ (cl_id ?_))); clear hK)); refine hK _ _ (cl_id ?_); clear hK)))
    exact end_d 0 ⟨rfl, rfl⟩ ⟨of_eq_true (nbs_bvs _), by (simp (disch := omega) only [go_sem])⟩
theorem turn1_am (x y : UInt8) : ACalls E0 36 [.v (.int .u8 (x.toNat : Int)), .ptr 0 0] [some (.obj [.v (.int .u8 (y.toNat : Int))])] fun r H' => r = .v (.int .u8 ((x ^^^ y).toNat : Int)) ∧ H' = [some (.obj [.v (.int .u8 (y.toNat : Int))])] := by
  refine calls_q (calls_of Tryd.func36 rfl (by kernel_rfl) (by kernel_rfl) (by rw [Tryd.ntmps36]; exact Nat.le_of_ble_eq_true rfl) (fun hH0 hA0 => ?_)); rw [Tryd.results36]
  (repeat' (first | (have hs := Mk.out hs; (try simp only [decide_eq_true_eq, decide_eq_false_iff_not, Bool.not_eq_true, Bool.not_eq_false, Bool.not_true, Bool.not_false, Bool.not_eq_eq_eq_not, Bool.and_eq_true, Bool.or_eq_true, beq_iff_eq, bne_iff_ne, beq_eq_false_iff_ne, ne_eq, Classical.not_not, not_true_eq_false, not_false_eq_true, forall_const, Bool.false_eq_true, false_implies, eq_self] at hs); (try (exfalso; omega)); (try simp (disch := omega) only [go_sem, xor8, hs])) | (refine z_seqr rfl ?_) | (refine w_seq rfl fun K hK => ?_) | (refine z_reg rfl ?_) | (refine z_cond rfl ?_) | (refine w_skip rfl ?_; ((repeat ((fail_if_success (refine hK _ _ (cl_id ?_))); clear hK)); refine hK _ _ (cl_id ?_); clear hK)) | (refine w_ret rfl ?_; (try dsimp only [anorm, ablock, astay]); refine z_end ?_) | (refine w_block rfl ?_) | (refine w_scope rfl ?_) | (refine w_label rfl ?_; ((repeat ((fail_if_success (refine hK _ _ (cl_id ?_))); clear hK)); refine hK _ _ (cl_id ?_); clear hK)) | (refine w_exit rfl ?_; (try dsimp only [anorm, ablock, astay]); (try simp only [reduceIte, ↓reduceIte, Nat.reduceEqDiff]); ((repeat ((fail_if_success (refine hK _ _ (cl_id ?_))); clear hK)); refine hK _ _ (cl_id ?_); clear hK)) | (refine jend_go [(1, [3]), (0, [0, 1])] ?_; simp only [tabAt_cons, sel_nil, sel_cons, put_at, ofl_cons, ofl_nil, T0_at, List.getElem?_cons_zero, List.getElem?_cons_succ, List.getElem?_nil, Option.getD_some, Option.getD_none, reduceIte, ↓reduceIte, Nat.reduceEqDiff]; refine jl_go ?_) | simp (disch := omega) only [go_sem, xor8] | (refine jc_t ?_) | (refine jc_f ?_) | (refine And.intro (by (first | omega | (simp; done) | (simp; omega))) ?_) | (refine mc_b (fun hs => ?_) fun hs => ?_) | (refine mg_st (fun hs => ?_) fun hs => ?_) | (refine mg_sf (fun hs => ?_) fun hs => ?_) | (refine mall_s (fun hs => ?_) fun hs => ?_) | (refine malln_s (fun hs => ?_) fun hs => ?_) | (refine mpk_s (fun hs => ?_) fun hs => ?_) | ((repeat ((fail_if_success (refine hK _ _ (cl_id ?_))); clear hK)); refine hK _ _ (cl_id ?_); clear hK)))
  refine end_q [0] rfl (by decide) (by simp) ?_ ⟨rfl, rfl⟩ ?_
  · (simp (disch := omega) only [go_sem])
  · (simp (disch := omega) only [go_sem])
theorem kturned_am (b : List UInt8) (hb : b.length = 64) (x : UInt8) : ACalls E0 23 [.agg (bvs b), .v (.int .u8 (x.toNat : Int))] [] fun r H' => r = .hs 0 1 0 64 ∧ H' = [some (.row true 1 ((turn x b).map bcl))] := by
  have ht : List.take 64 b = b := List.take_of_length_le (by omega)
  refine calls_q (calls_of Tryd.func23 rfl (by kernel_rfl) (by kernel_rfl) (by rw [Tryd.ntmps23]; exact Nat.le_of_ble_eq_true rfl) (fun hH0 hA0 => ?_)); rw [Tryd.results23]
  (repeat' (first | (have hs := Mk.out hs; (try simp only [decide_eq_true_eq, decide_eq_false_iff_not, Bool.not_eq_true, Bool.not_eq_false, Bool.not_true, Bool.not_false, Bool.not_eq_eq_eq_not, Bool.and_eq_true, Bool.or_eq_true, beq_iff_eq, bne_iff_ne, beq_eq_false_iff_ne, ne_eq, Classical.not_not, not_true_eq_false, not_false_eq_true, forall_const, Bool.false_eq_true, false_implies, eq_self] at hs); (try (exfalso; omega)); (try simp (disch := omega) only [go_sem, hb, ht, hs])) | (refine z_seqr rfl ?_) | (refine w_seq rfl fun K hK => ?_) | (refine z_reg rfl ?_) | (refine z_cond rfl ?_) | (refine w_skip rfl ?_; ((repeat ((fail_if_success (refine hK _ _ (cl_id ?_))); clear hK)); refine hK _ _ (cl_id ?_); clear hK)) | (refine w_ret rfl ?_; (try dsimp only [anorm, ablock, astay]); refine z_end ?_) | (refine w_block rfl ?_) | (refine w_scope rfl ?_) | (refine w_label rfl ?_; ((repeat ((fail_if_success (refine hK _ _ (cl_id ?_))); clear hK)); refine hK _ _ (cl_id ?_); clear hK)) | (refine w_exit rfl ?_; (try dsimp only [anorm, ablock, astay]); (try simp only [reduceIte, ↓reduceIte, Nat.reduceEqDiff]); ((repeat ((fail_if_success (refine hK _ _ (cl_id ?_))); clear hK)); refine hK _ _ (cl_id ?_); clear hK)) | (refine jend_go [(8, [4]), (7, [5, 6, 11, 12]), (6, [5, 6, 11, 12]), (5, [5, 6, 8, 11, 12]), (4, [5, 6, 11, 12, 13]), (3, [5, 6, 11, 12]), (2, [2, 5, 6]), (1, [2, 5]), (0, [2, 3])] ?_; simp only [tabAt_cons, sel_nil, sel_cons, put_at, ofl_cons, ofl_nil, T0_at, List.getElem?_cons_zero, List.getElem?_cons_succ, List.getElem?_nil, Option.getD_some, Option.getD_none, reduceIte, ↓reduceIte, Nat.reduceEqDiff]; refine jl_go ?_) | simp (disch := omega) only [go_sem, hb, ht] | (refine jc_t ?_) | (refine jc_f ?_) | (refine And.intro (by (first | omega | (simp; done) | (simp; omega))) ?_) | (refine mc_b (fun hs => ?_) fun hs => ?_) | (refine mg_st (fun hs => ?_) fun hs => ?_) | (refine mg_sf (fun hs => ?_) fun hs => ?_) | (refine mall_s (fun hs => ?_) fun hs => ?_) | (refine malln_s (fun hs => ?_) fun hs => ?_) | (refine mpk_s (fun hs => ?_) fun hs => ?_) | ((repeat ((fail_if_success (refine hK _ _ (cl_id ?_))); clear hK)); refine hK _ _ (cl_id ?_); clear hK)))
  refine z_loop rfl (fun i => i ≤ 64) (fun i => 64 - i) (fun i => [(5, .fn 36 [] [.ptr 0 0]), (6, .hs 1 1 0 i), (11, .agg (bvs b)), (12, .v (.int .i64 (i : Int)))]) (fun i => [some (.obj [.v (.int .u8 (x.toNat : Int))]), some (.row true 1 ((turn x (b.take i)).map bcl))]) 0 (by omega) ?_ ?_
  · have t0 : turn x (b.take 0) = [] := rfl
    rw [t0]
    refine cq_all [1, 2] rfl (by decide) (by simp) ?_ ?_
    · (simp (disch := omega) only [go_sem])
    · (simp (disch := omega) only [go_sem])
  intro i hi K hK
  have hl : (turn x (b.take i)).length = i := by rw [turn_len]; simp; omega
  have e3 : List.take i ((turn x (b.take i)).map bcl) = (turn x (b.take i)).map bcl := List.take_of_length_le (by simp [hl])
  by_cases hlt : (i : Int) < 64
  · have hr := turn_row (x := x) (b := b) (i := i) (by omega)
    (repeat' (first | (have hs := Mk.out hs; (try simp only [decide_eq_true_eq, decide_eq_false_iff_not, Bool.not_eq_true, Bool.not_eq_false, Bool.not_true, Bool.not_false, Bool.not_eq_eq_eq_not, Bool.and_eq_true, Bool.or_eq_true, beq_iff_eq, bne_iff_ne, beq_eq_false_iff_ne, ne_eq, Classical.not_not, not_true_eq_false, not_false_eq_true, forall_const, Bool.false_eq_true, false_implies, eq_self] at hs); (try (exfalso; omega)); (try simp (disch := omega) only [go_sem, hlt, hl, hb, e3, hr, hs])) | (refine z_seqr rfl ?_) | (refine w_seq rfl fun K hK => ?_) | (refine z_reg rfl ?_) | (refine z_cond rfl ?_) | (refine w_skip rfl ?_; ((repeat ((fail_if_success (refine hK _ _ (cl_id ?_))); clear hK)); refine hK _ _ (cl_id ?_); clear hK)) | (refine w_ret rfl ?_; (try dsimp only [anorm, ablock, astay]); refine z_end ?_) | (refine w_block rfl ?_) | (refine w_scope rfl ?_) | (refine w_label rfl ?_; ((repeat ((fail_if_success (refine hK _ _ (cl_id ?_))); clear hK)); refine hK _ _ (cl_id ?_); clear hK)) | (refine w_exit rfl ?_; (try dsimp only [anorm, ablock, astay]); (try simp only [reduceIte, ↓reduceIte, Nat.reduceEqDiff]); ((repeat ((fail_if_success (refine hK _ _ (cl_id ?_))); clear hK)); refine hK _ _ (cl_id ?_); clear hK)) | (refine jend_go [(8, [4]), (7, [5, 6, 11, 12]), (6, [5, 6, 11, 12]), (5, [5, 6, 8, 11, 12]), (4, [5, 6, 11, 12, 13]), (3, [5, 6, 11, 12]), (2, [2, 5, 6]), (1, [2, 5]), (0, [2, 3])] ?_; simp only [tabAt_cons, sel_nil, sel_cons, put_at, ofl_cons, ofl_nil, T0_at, List.getElem?_cons_zero, List.getElem?_cons_succ, List.getElem?_nil, Option.getD_some, Option.getD_none, reduceIte, ↓reduceIte, Nat.reduceEqDiff]; refine jl_go ?_) | simp (disch := omega) only [go_sem, hlt, hl, hb, e3, hr] | (refine jc_t ?_) | (refine jc_f ?_) | (apply zc (turn1_am (b.getD i 0) x) [0]; (case ok => simp (disch := omega) only [go_sem, cok, sgOk, bcl, hlt, hl, hb, e3, hr])) | (refine And.intro (by (first | omega | (simp; done) | (simp; omega))) ?_) | (refine mc_b (fun hs => ?_) fun hs => ?_) | (refine mg_st (fun hs => ?_) fun hs => ?_) | (refine mg_sf (fun hs => ?_) fun hs => ?_) | (refine mall_s (fun hs => ?_) fun hs => ?_) | (refine malln_s (fun hs => ?_) fun hs => ?_) | (refine mpk_s (fun hs => ?_) fun hs => ?_) | ((repeat ((fail_if_success (refine hK _ _ (cl_id ?_))); clear hK)); refine hK _ _ (cl_id ?_); clear hK)))
    refine hK _ _ (i + 1) (by omega) (by omega) ?_
    refine cq_all [0, 3] rfl (by decide) (by simp) ?_ ?_
    · (simp (disch := omega) only [go_sem])
    · (simp (disch := omega) only [go_sem])
      omega
  obtain rfl : i = 64 := by omega
  rw [ht]
  (repeat' (first | (have hs := Mk.out hs; (try simp only [decide_eq_true_eq, decide_eq_false_iff_not, Bool.not_eq_true, Bool.not_eq_false, Bool.not_true, Bool.not_false, Bool.not_eq_eq_eq_not, Bool.and_eq_true, Bool.or_eq_true, beq_iff_eq, bne_iff_ne, beq_eq_false_iff_ne, ne_eq, Classical.not_not, not_true_eq_false, not_false_eq_true, forall_const, Bool.false_eq_true, false_implies, eq_self] at hs); (try (exfalso; omega)); (try simp (disch := omega) only [go_sem, hlt, hs])) | (refine z_seqr rfl ?_) | (refine w_seq rfl fun K hK => ?_) | (refine z_reg rfl ?_) | (refine z_cond rfl ?_) | (refine w_skip rfl ?_; ((repeat ((fail_if_success (refine hK _ _ (cl_id ?_))); clear hK)); refine hK _ _ (cl_id ?_); clear hK)) | (refine w_ret rfl ?_; (try dsimp only [anorm, ablock, astay]); refine z_end ?_) | (refine w_block rfl ?_) | (refine w_scope rfl ?_) | (refine w_label rfl ?_; ((repeat ((fail_if_success (refine hK _ _ (cl_id ?_))); clear hK)); refine hK _ _ (cl_id ?_); clear hK)) | (refine w_exit rfl ?_; (try dsimp only [anorm, ablock, astay]); (try simp only [reduceIte, ↓reduceIte, Nat.reduceEqDiff]); ((repeat ((fail_if_success (refine hK _ _ (cl_id ?_))); clear hK)); refine hK _ _ (cl_id ?_); clear hK)) | (refine jend_go [(8, [4]), (7, [5, 6, 11, 12]), (6, [5, 6, 11, 12]), (5, [5, 6, 8, 11, 12]), (4, [5, 6, 11, 12, 13]), (3, [5, 6, 11, 12]), (2, [2, 5, 6]), (1, [2, 5]), (0, [2, 3])] ?_; simp only [tabAt_cons, sel_nil, sel_cons, put_at, ofl_cons, ofl_nil, T0_at, List.getElem?_cons_zero, List.getElem?_cons_succ, List.getElem?_nil, Option.getD_some, Option.getD_none, reduceIte, ↓reduceIte, Nat.reduceEqDiff]; refine jl_go ?_) | simp (disch := omega) only [go_sem, hlt] | (refine jc_t ?_) | (refine jc_f ?_) | (refine And.intro (by (first | omega | (simp; done) | (simp; omega))) ?_) | (refine mc_b (fun hs => ?_) fun hs => ?_) | (refine mg_st (fun hs => ?_) fun hs => ?_) | (refine mg_sf (fun hs => ?_) fun hs => ?_) | (refine mall_s (fun hs => ?_) fun hs => ?_) | (refine malln_s (fun hs => ?_) fun hs => ?_) | (refine mpk_s (fun hs => ?_) fun hs => ?_) | ((repeat ((fail_if_success (refine hK _ _ (cl_id ?_))); clear hK)); refine hK _ _ (cl_id ?_); clear hK)))
  refine end_q [1] rfl (by decide) (by simp) ?_ ⟨rfl, rfl⟩ ?_
  · (simp (disch := omega) only [go_sem])
  · (simp (disch := omega) only [go_sem])
theorem kturned_cold (b : List UInt8) (hb : b.length = 64) (x : UInt8) : ACalls E0 23 [.agg (bvs b), .v (.int .u8 (x.toNat : Int))] [] fun r H' => r = byts (turn x b) ∧ H' = [] :=
  (kturned_am b hb x).cold 1 _ ⟨of_eq_true (nb_byts _), by rw [frz_row (by rw [turn_len, hb])]; exact Wk.refl _⟩
end Go.Proofs.YtelenadhhjeoeaaDoor
