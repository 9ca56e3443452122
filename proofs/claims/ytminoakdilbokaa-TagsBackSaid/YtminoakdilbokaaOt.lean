/- The package octet: what its functions answer. No condition but bounds of lengths. -/
import Derived.Test.YtminoakdilbokaaGn
import Derived.Test.YtminoakdilbokaaFx
set_option linter.unusedSectionVars false
set_option linter.unusedVariables false
set_option linter.unusedSimpArgs false
set_option linter.deprecated false
namespace Go.Proofs.Ytminoakdilbokaa
open Go.RowKit Go.Cx Go.Am

/-- The number that bytes are, the highest first. -/
def beN (l : List UInt8) : Nat := l.foldl (fun a b => a * 256 + b.toNat) 0
theorem beN_snoc (l : List UInt8) (b : UInt8) : beN (l ++ [b]) = beN l * 256 + b.toNat := by simp [beN]
theorem beN_lt (l : List UInt8) : beN l < 256 ^ l.length := by
  have key : ∀ (l : List UInt8) (a : Nat), l.foldl (fun a b => a * 256 + b.toNat) a < (a + 1) * 256 ^ l.length := by
    intro l
    induction l with
    | nil => intro a; simp
    | cons b l ih =>
      intro a
      simp only [List.foldl_cons, List.length_cons]
      refine Nat.lt_of_lt_of_le (ih _) ?_
      rw [Nat.pow_succ, Nat.mul_comm (256 ^ l.length), ← Nat.mul_assoc]
      have := b.toNat_lt
      exact Nat.mul_le_mul_right _ (by omega)
  have := key l 0
  rw [Nat.zero_add, Nat.one_mul] at this
  exact this

theorem or_u64 (x : Nat) (y : UInt8) (h : x * 256 < 18446744073709551616) : bits .or .u64 ((x : Int) * 256) (y.toNat : Int) = ((x * 256 + y.toNat : Nat) : Int) := by
  have hy := y.toNat_lt
  rw [bits_join .u64 64 (by decide) (fun n h1 h2 => IntWalk.u64_in n (by omega)) 8 _ _ (by omega) (by omega) (by omega) (by omega) (by omega) (by omega)]
  omega
theorem take_snoc {l : List UInt8} {i : Nat} (h : i < l.length) : l.take (i + 1) = l.take i ++ [l.getD i 0] := by
  rw [List.take_succ, List.getD_eq_getElem?_getD, List.getElem?_eq_getElem h]
  rfl

set_option maxRecDepth 8000
set_option maxHeartbeats 2000000
attribute [local irreducible] ACalls jcall jsame jex jexg jexh jguard jconv jload jpart jstore jbin jslice jidxA jidx jfield jfieldA jbuild jbuildS jmake jappend jlen jpick jres jcnd jcopy jcap jborn jdraw jops jop jstr jstrc jlive jend
attribute [local go_sem] reduceIte Nat.reduceEqDiff Nat.reduceAdd Nat.reduceMul Nat.reduceLT Nat.reduceLeDiff Nat.reduceSub Int.reduceLT Int.reduceLE Int.reduceToNat Int.reduceNeg Int.reduceAdd Int.reduceSub UInt8.reduceToNat Int.reduceEq reduceCtorEq Int.reducePow Int.reduceMul Nat.reducePow E0
attribute [local go_sem ↓] reduceIte
attribute [local go_sem high] chunks_bvs
attribute [local go_sem] Nat.one_ne_zero Nat.zero_ne_one decide_true decide_false Bool.false_eq_true Bool.true_eq_false Bool.not_true Bool.not_false jops_nil jops_one jops_g jg_tt jg_ff jg_tf jg_ft jg_n jop_move jop_assign jop_pick jop_alloc jop_box jop_build jop_buildSlice jop_load jop_store jop_nilCheck jop_bin jop_not jop_convert jop_makeFunc jop_makeSlice jop_slice jop_fieldAddr jop_field jop_indexAddr jop_index jop_extract jop_len jop_append jop_call jload_m jpart_t jpart_f jpick_t jpick_f jpick_b jidxA_ptr jidxA_cptr jidxA_rp jidxA_sl jidxA_hs jidxA_os jidx_agg jidx_str jfield_m jfieldA_m jbuild_m jlen_str jlen_sl jlen_hs jlen_os jlen_mt jlen_nil jslice_sl jslice3_sl jpart_bcl jstr_map jstr_nil jstr_cons jstrc_cons jstrc_int jstrc_nil jstrc_map jconv_sl jconv_hs jconv_os jconv_mt jconv_nil jconv_str mk_toList str_toList str_size mk_size jbin_eq_nn jbin_ne_nn jbin_eq_pn jbin_ne_pn jbin_eq_bb jbin_ne_bb beq_self_eq_true oc_int oc_bool oc_str oc_slice oc_ptr oc_nilF amaps_bcl jslice_hs jslice_os jslice_mt jslice_nil jslice_str jslice_ptr jbuildS_m jappend_m jmake_m jconv_int jstore_ptr jstore_rp jbin_add jbin_sub jbin_mul jbin_lss jbin_leq jbin_gtr jbin_geq jbin_eql jbin_neq jbin_and jbin_or jbin_xor jbin_andNot jbin_str_eql jbin_str_neq jres_nil jres_tmp jres_cell jdraw_nil jdraw_q jdraw_l jdraw_b jdraw_gg jdraw_e jdraw_m jdraw_mc jdraw_f jdraw_p jdraw_c jwhen_t bcN_eq convT_m locOf_cptr locCv_int jkeep_nil jkeep_cons jsame_rfl locOf_ptr locOf_rp jdraw_w jex_eq jex_all jexg_eq jexh_eq jborn_m jop_copy jcopy_hs jcopy_os jop_cap jcap_mt jcap_nil jbin_eq_sl jbin_ne_sl jbin_eq_hs jbin_ne_hs hget0 hgetk hset0 hsetk List.set_cons_zero List.set_cons_succ put_at ev_tmp ev_const ev_global ev_func aput_some aput_none T0_at ayield place cells1 splice_cs Nat.mul_one Nat.sub_add_cancel Int.cast_ofNat_Int elems source abound afill bfill dest sure one anorm ablock astay cv_int cv_bool cv_str cv_slice cv_ptr cv_nilFunc List.map_cons List.map_nil List.map_toArray List.getElem?_toArray List.getElem?_cons_zero List.getElem?_cons_succ List.getElem?_nil Option.getD_some Option.getD_none Option.map_some Option.map_none Option.bind_some Option.some.injEq Nat.add_zero Nat.zero_add List.drop_zero List.drop_succ_cons List.take_succ_cons List.take_zero List.take_nil List.drop_nil List.length_cons List.length_nil List.length_append List.nil_append List.cons_append List.append_assoc List.append_nil List.append_cancel_left_eq List.cons.injEq if_true if_false true_and and_true or_false false_or ne_eq not_true_eq_false not_false_eq_true Nat.le_refl Int.toNat_natCast List.replicate_succ List.replicate_zero exists_eq List.toList_toArray List.length_map Prod.mk.injEq exists_eq_left exists_eq_left' exists_eq' exists_eq_right' exists_and_left exists_and_right exists_const bvs_len bvs_drop bvs_take bvs_getD splice_bvs splice_row flat_bcl amaps_bvs jpart_bvs List.take_length List.length_drop List.length_take Nat.min_eq_left Nat.min_eq_right amap amaps amapss bmap amapss_bcl back_nil sg_nil back backs sg List.getD_cons_zero List.getD_cons_succ ofl_cons ofl_nil jbin_quo jbin_rem jbin_shl jbin_shr getD_bcl w8_u8 w8_u16 w8_u32 w8_u64 w8_i64 IntWalk.i64_in IntWalk.u64_in IntWalk.u32_in IntWalk.u16_in bits_u8 bits_u16 bits_u32 bits_u64 bits_i64 nbs_bvs gfs_bvs okS okT okL okD wk_rfl wk_any wk_v wk_nil nb_byts nbss_bcl amap_byts frz_v frz_sl frz_byts frz_ptr frz_any frz_mt frzs_bcl nb nbs nbss nbB sh_lt sh_0 sh_at frz Value.int.injEq Value.bool.injEq Value.string.injEq Nat.lt_add_right_iff_pos Nat.lt_irrefl Nat.zero_lt_one gf gfs gfss gfB gfH gfss_bcl byts uvs_len uvs_drop uvs_take uvs_getD splice_uvs nbs_uvs gfs_uvs amaps_uvs jpart_uvs jpart_uvs0 getD_ucl set_ucl b32_xor b32_or b32_and b32_add b32_not b32_shr b32_shl b32_shr3 b32_shr10 jop_cpl sgn_u32 max_u32 flat_ucl zeros8_len zeros32_len okVs_bvs okVs_uvs getI_ucl getI_bcl amapss_ucl w32_in jop_max jop_min jmax_ii jmin_ii uclss_nb uclss_gf chunks1_c chunks1_0 cl1_iii Int.sub_zero undef amapss_set cels_nil cels_len cels_take cels_drop cels_app cels_getD cels_getI cels_nbss cels_gfss cels_amapss cl1_int cl1_bool cl1_ii cl1_ib cl1_iib snoc_int snoc_bool snoc_ii snoc_ib snoc_iib set_int set_bool rep_bool rep_int eqAV scEq Bool.and_true pr_eta okV okVs okEs okA okAs List.not_mem_nil List.mem_cons List.mem_singleton false_and and_false true_or or_true or_self and_self ty1 ty2 ty3 ty4 ty5 ty6 ty7 st7 jeq7 jne7 ty8 st8 jeq8 jne8 ty9 ty10 ty11 ty12 ty13 st13 ty14 st14 ty15 ty16 ty17 ty18 st18 ty19 st19 ty20 ty21 ty22 sl22 ty23 ty24 sl24 ty25 ty27 ty29 ty30 ty31 ty32 ty33 st33 ty34 st34 ty35 ty36 ty38 ty40 ty41 ty42 ty43 ty44 ty45 sl45 ty46 ty48 ty49 ty50 ty51 ty52 ty53 ty54 ty55 ty56 ty57 ar57 ty58 ty59 ty60 st60 ty61 st61 ty62 ar62 ty63 st63 ty64 st64 ty65 ty66 ty67 ty68 ty69 ty70 ty71 ty72 ty73 st73 ty74 st74 ty75 arn7 arn8 arn13 arn14 arn18 arn19 arn33 arn34 arn60 arn61 arn63 arn64 arn73 arn74 stn57 stn62 Try.underlying0 Try.underlying1 Try.underlying2 Try.underlying3 Try.underlying4 Try.underlying5 Try.underlying6 Try.underlying7 Try.underlying8 Try.underlying9 Try.underlying10 Try.underlying11 Try.underlying12 Try.underlying13 Try.underlying14 Try.underlying15 Try.underlying16 Try.underlying17 Try.underlying18 Try.underlying19 Try.underlying20 Try.underlying21 Try.underlying22 Try.underlying23 Try.underlying24 Try.underlying25 Try.underlying26 Try.underlying27 Try.underlying28 Try.underlying29 Try.underlying30 Try.underlying31 Try.underlying32 Try.underlying33 Try.underlying34 Try.underlying35 Try.underlying36 Try.underlying37 Try.underlying38 Try.underlying39 Try.underlying40 Try.underlying41 Try.underlying42 Try.underlying43 Try.underlying44 Try.underlying45 Try.underlying46 Try.underlying47 Try.underlying48 Try.underlying49 Try.underlying50 Try.underlying51 Try.underlying52 Try.underlying53 Try.underlying54 Try.underlying55 Try.underlying56 Try.underlying57 Try.underlying58 Try.underlying59 Try.underlying60 Try.underlying61 Try.underlying62 Try.underlying63 Try.underlying64 Try.underlying65 Try.underlying66 Try.underlying67 Try.underlying68 Try.underlying69 Try.underlying70 Try.underlying71 Try.underlying72 Try.underlying73 Try.underlying74 Try.underlying75
attribute [local go_sem ←] List.map_take List.map_drop

theorem sized_am (n : Int) : ACalls E0 29 [.v (.int .i64 n)] [] fun r H' => r = .v (.bool (decide (1 ≤ n ∧ n ≤ 8))) ∧ H' = [] := by
  refine calls_q (calls_of Try.func29 rfl (by kernel_rfl) (by kernel_rfl) (by rw [Try.ntmps29]; exact Nat.le_of_ble_eq_true rfl) (fun hH0 hA0 => ?_)); rw [Try.results29]
  by_cases h1 : 1 ≤ n
  · (repeat (first | (refine z_seqr rfl ?_) | (refine w_seq rfl fun K hK => ?_) | (refine z_reg rfl ?_) | (refine z_cond rfl ?_) | (refine w_skip rfl ?_; ((repeat ((fail_if_success (refine hK _ _ (cl_id ?_))); clear hK)); refine hK _ _ (cl_id ?_); clear hK)) | (refine w_ret rfl ?_; (try dsimp only [anorm, ablock, astay]); refine z_end ?_) | (refine z_end0 ?_) | (refine w_block rfl ?_) | (refine w_scope rfl ?_) | (refine w_label rfl ?_; ((repeat ((fail_if_success (refine hK _ _ (cl_id ?_))); clear hK)); refine hK _ _ (cl_id ?_); clear hK)) | (refine w_exit rfl ?_; (try dsimp only [anorm, ablock, astay]); (try simp only [reduceIte, ↓reduceIte, Nat.reduceEqDiff]); ((repeat ((fail_if_success (refine hK _ _ (cl_id ?_))); clear hK)); refine hK _ _ (cl_id ?_); clear hK)) | (refine jend_go [(1, [2]), (0, [0])] ?_; simp only [tabAt_cons, sel_nil, sel_cons, put_at, ofl_cons, ofl_nil, T0_at, List.getElem?_cons_zero, List.getElem?_cons_succ, List.getElem?_nil, Option.getD_some, Option.getD_none, reduceIte, ↓reduceIte, Nat.reduceEqDiff]; refine jl_go ?_) | simp (disch := omega) only [go_sem, h1] | (refine jc_t ?_) | (refine jc_f ?_) | (refine And.intro (by (first | omega | (simp; done) | (simp; omega))) ?_) | ((repeat ((fail_if_success (refine hK _ _ (cl_id ?_))); clear hK)); refine hK _ _ (cl_id ?_); clear hK)))
    exact end_d 0 ⟨rfl, rfl⟩ ⟨trivial, by simp [h1, frz]; exact Wk.refl _⟩
  · (repeat (first | (refine z_seqr rfl ?_) | (refine w_seq rfl fun K hK => ?_) | (refine z_reg rfl ?_) | (refine z_cond rfl ?_) | (refine w_skip rfl ?_; ((repeat ((fail_if_success (refine hK _ _ (cl_id ?_))); clear hK)); refine hK _ _ (cl_id ?_); clear hK)) | (refine w_ret rfl ?_; (try dsimp only [anorm, ablock, astay]); refine z_end ?_) | (refine z_end0 ?_) | (refine w_block rfl ?_) | (refine w_scope rfl ?_) | (refine w_label rfl ?_; ((repeat ((fail_if_success (refine hK _ _ (cl_id ?_))); clear hK)); refine hK _ _ (cl_id ?_); clear hK)) | (refine w_exit rfl ?_; (try dsimp only [anorm, ablock, astay]); (try simp only [reduceIte, ↓reduceIte, Nat.reduceEqDiff]); ((repeat ((fail_if_success (refine hK _ _ (cl_id ?_))); clear hK)); refine hK _ _ (cl_id ?_); clear hK)) | (refine jend_go [(1, [2]), (0, [0])] ?_; simp only [tabAt_cons, sel_nil, sel_cons, put_at, ofl_cons, ofl_nil, T0_at, List.getElem?_cons_zero, List.getElem?_cons_succ, List.getElem?_nil, Option.getD_some, Option.getD_none, reduceIte, ↓reduceIte, Nat.reduceEqDiff]; refine jl_go ?_) | simp (disch := omega) only [go_sem, h1] | (refine jc_t ?_) | (refine jc_f ?_) | (refine And.intro (by (first | omega | (simp; done) | (simp; omega))) ?_) | ((repeat ((fail_if_success (refine hK _ _ (cl_id ?_))); clear hK)); refine hK _ _ (cl_id ?_); clear hK)))
    exact end_d 0 ⟨rfl, rfl⟩ ⟨trivial, by simp [h1, frz]; exact Wk.refl _⟩

/-- The array that Put fills, i of its bytes told. -/
def aL (n i : Nat) : List UInt8 := (List.range 8).map fun p => if 7 - p < i then UInt8.ofNat (n / 256 ^ (7 - p)) else 0
theorem aL_len (n i : Nat) : (aL n i).length = 8 := by simp [aL]
theorem aL_set (n i : Nat) (h : i < 8) : (aL n i).set (7 - i) (UInt8.ofNat (n / 256 ^ i)) = aL n (i + 1) := by
  refine List.ext_getElem? fun p => ?_
  rw [List.getElem?_set]
  unfold aL
  simp only [List.getElem?_map, List.length_map, List.length_range]
  by_cases hp : p < 8
  · rw [List.getElem?_range hp]
    split
    · next e =>
      rw [if_pos (by omega)]
      simp only [Option.map_some]
      rw [if_pos (by omega), show 7 - p = i by omega]
    · next e =>
      simp only [Option.map_some]
      by_cases h2 : 7 - p < i
      · rw [if_pos h2, if_pos (by omega)]
      · rw [if_neg h2, if_neg (by omega)]
  · rw [if_neg (by omega), List.getElem?_eq_none (by simp; omega)]
    rfl
theorem aL_8 (n : Nat) : aL n 8 = be 8 n := by
  unfold aL be
  refine List.map_congr_left fun p hp => ?_
  have := List.mem_range.1 hp
  rw [if_pos (by omega)]
theorem be_drop (n k : Nat) (h : k ≤ 8) : (be 8 n).drop (8 - k) = be k n := by
  refine List.ext_getElem? fun p => ?_
  unfold be
  rw [List.getElem?_drop, List.getElem?_map, List.getElem?_map]
  by_cases hp : p < k
  · rw [List.getElem?_range hp, List.getElem?_range (by omega)]
    simp only [Option.map_some]
    congr 4
    omega
  · rw [List.getElem?_eq_none (by simp; omega), List.getElem?_eq_none (by simp; omega)]
    rfl
theorem put_byte (n i : Nat) (h : i < 8) : IntKind.u8.wrap ((n : Int).fdiv (2 ^ (8 * i))) = ((UInt8.ofNat (n / 256 ^ i)).toNat : Int) := by
  have e : ((2 : Int) ^ (8 * i)) = ((256 ^ i : Nat) : Int) := by
    rw [Int.pow_mul]
    simp
  rw [e, Int.fdiv_eq_ediv_of_nonneg _ (Int.natCast_nonneg _), ← Int.natCast_ediv, wrap_u8_nat]

theorem put_ok (n k : Nat) (h : 1 ≤ k ∧ k ≤ 8) (hn : n < 18446744073709551616) : ACalls E0 24 [.v (.int .u64 n), .v (.int .i64 k)] [] fun r H' =>
    r = .hs 0 1 0 k ∧ H' = [some (.row true 1 ((be k n).map bcl))] := by
  refine calls_q (calls_of Try.func24 rfl (by kernel_rfl) (by kernel_rfl) (by rw [Try.ntmps24]; exact Nat.le_of_ble_eq_true rfl) (fun hH0 hA0 => ?_)); rw [Try.results24]
  have h1 : 1 ≤ (k : Int) ∧ (k : Int) ≤ 8 := by omega
  (repeat (first | (refine z_seqr rfl ?_) | (refine w_seq rfl fun K hK => ?_) | (refine z_reg rfl ?_) | (refine z_cond rfl ?_) | (refine w_skip rfl ?_; ((repeat ((fail_if_success (refine hK _ _ (cl_id ?_))); clear hK)); refine hK _ _ (cl_id ?_); clear hK)) | (refine w_ret rfl ?_; (try dsimp only [anorm, ablock, astay]); refine z_end ?_) | (refine z_end0 ?_) | (refine w_block rfl ?_) | (refine w_scope rfl ?_) | (refine w_label rfl ?_; ((repeat ((fail_if_success (refine hK _ _ (cl_id ?_))); clear hK)); refine hK _ _ (cl_id ?_); clear hK)) | (refine w_exit rfl ?_; (try dsimp only [anorm, ablock, astay]); (try simp only [reduceIte, ↓reduceIte, Nat.reduceEqDiff]); ((repeat ((fail_if_success (refine hK _ _ (cl_id ?_))); clear hK)); refine hK _ _ (cl_id ?_); clear hK)) | (refine jend_go [(9, [4]), (8, [0, 1, 5, 10]), (7, [0, 1, 5, 10]), (6, [0, 1, 5, 6, 10]), (5, [0, 1, 5, 10, 11]), (4, [0, 1, 5, 10]), (3, [0, 1, 5]), (2, [4]), (1, [0, 1, 9]), (0, [0, 1])] ?_; simp only [tabAt_cons, sel_nil, sel_cons, put_at, ofl_cons, ofl_nil, T0_at, List.getElem?_cons_zero, List.getElem?_cons_succ, List.getElem?_nil, Option.getD_some, Option.getD_none, reduceIte, ↓reduceIte, Nat.reduceEqDiff]; refine jl_go ?_) | simp (disch := omega) only [go_sem, h1] | (refine jc_t ?_) | (refine jc_f ?_) | (apply zc (sized_am (k : Int)) []; (case ok => simp (disch := omega) only [go_sem, cok, sgOk, bcl, h1])) | (refine And.intro (by (first | omega | (simp; done) | (simp; omega))) ?_) | ((repeat ((fail_if_success (refine hK _ _ (cl_id ?_))); clear hK)); refine hK _ _ (cl_id ?_); clear hK)))
  refine z_loop rfl (fun i => i ≤ 8) (fun i => 8 - i) (fun i => [(0, .v (.int .u64 n)), (1, .v (.int .i64 k)), (5, .ptr 0 0), (10, .v (.int .i64 i))]) (fun i => [some (.obj (bvs (aL n i)))]) 0 (by omega) (cq_s ?_) ?_
  · (simp (disch := omega) only [go_sem])
  · intro i hi K hK
    by_cases hlt : (i : Int) < 8
    · have e1 : (8 * (i : Int)).toNat = 8 * i := by omega
      have e2 : ((7 : Int) - i).toNat = 7 - i := by omega
      have e3 := put_byte n i (by omega)
      have e4 := aL_len n i
      (repeat (first | (refine z_seqr rfl ?_) | (refine w_seq rfl fun K hK => ?_) | (refine z_reg rfl ?_) | (refine z_cond rfl ?_) | (refine w_skip rfl ?_; ((repeat ((fail_if_success (refine hK _ _ (cl_id ?_))); clear hK)); refine hK _ _ (cl_id ?_); clear hK)) | (refine w_ret rfl ?_; (try dsimp only [anorm, ablock, astay]); refine z_end ?_) | (refine z_end0 ?_) | (refine w_block rfl ?_) | (refine w_scope rfl ?_) | (refine w_label rfl ?_; ((repeat ((fail_if_success (refine hK _ _ (cl_id ?_))); clear hK)); refine hK _ _ (cl_id ?_); clear hK)) | (refine w_exit rfl ?_; (try dsimp only [anorm, ablock, astay]); (try simp only [reduceIte, ↓reduceIte, Nat.reduceEqDiff]); ((repeat ((fail_if_success (refine hK _ _ (cl_id ?_))); clear hK)); refine hK _ _ (cl_id ?_); clear hK)) | (refine jend_go [(9, [4]), (8, [0, 1, 5, 10]), (7, [0, 1, 5, 10]), (6, [0, 1, 5, 6, 10]), (5, [0, 1, 5, 10, 11]), (4, [0, 1, 5, 10]), (3, [0, 1, 5]), (2, [4]), (1, [0, 1, 9]), (0, [0, 1])] ?_; simp only [tabAt_cons, sel_nil, sel_cons, put_at, ofl_cons, ofl_nil, T0_at, List.getElem?_cons_zero, List.getElem?_cons_succ, List.getElem?_nil, Option.getD_some, Option.getD_none, reduceIte, ↓reduceIte, Nat.reduceEqDiff]; refine jl_go ?_) | simp (disch := omega) only [go_sem, hlt, aL_len, e1, e2, e3, aL_set] | (refine jc_t ?_) | (refine jc_f ?_) | (refine And.intro (by (first | omega | (simp; done) | (simp; omega))) ?_) | ((repeat ((fail_if_success (refine hK _ _ (cl_id ?_))); clear hK)); refine hK _ _ (cl_id ?_); clear hK)))
      refine hK _ _ (i + 1) (by omega) (by omega) ?_
      refine cq_s ?_
      (simp (disch := omega) only [go_sem])
      omega
    · obtain rfl : i = 8 := by omega
      have e1 : (8 - (k : Int)).toNat = 8 - k := by omega
      have e2 : ((8 : Int) - (8 - k)).toNat = k := by omega
      have e3 : (be 8 n).length = 8 := by simp [be]
      have e4 : (be k n).length = k := by simp [be]
      have e5 : (be k n).take k = be k n := List.take_of_length_le (by omega)
      (repeat (first | (refine z_seqr rfl ?_) | (refine w_seq rfl fun K hK => ?_) | (refine z_reg rfl ?_) | (refine z_cond rfl ?_) | (refine w_skip rfl ?_; ((repeat ((fail_if_success (refine hK _ _ (cl_id ?_))); clear hK)); refine hK _ _ (cl_id ?_); clear hK)) | (refine w_ret rfl ?_; (try dsimp only [anorm, ablock, astay]); refine z_end ?_) | (refine z_end0 ?_) | (refine w_block rfl ?_) | (refine w_scope rfl ?_) | (refine w_label rfl ?_; ((repeat ((fail_if_success (refine hK _ _ (cl_id ?_))); clear hK)); refine hK _ _ (cl_id ?_); clear hK)) | (refine w_exit rfl ?_; (try dsimp only [anorm, ablock, astay]); (try simp only [reduceIte, ↓reduceIte, Nat.reduceEqDiff]); ((repeat ((fail_if_success (refine hK _ _ (cl_id ?_))); clear hK)); refine hK _ _ (cl_id ?_); clear hK)) | (refine jend_go [(9, [4]), (8, [0, 1, 5, 10]), (7, [0, 1, 5, 10]), (6, [0, 1, 5, 6, 10]), (5, [0, 1, 5, 10, 11]), (4, [0, 1, 5, 10]), (3, [0, 1, 5]), (2, [4]), (1, [0, 1, 9]), (0, [0, 1])] ?_; simp only [tabAt_cons, sel_nil, sel_cons, put_at, ofl_cons, ofl_nil, T0_at, List.getElem?_cons_zero, List.getElem?_cons_succ, List.getElem?_nil, Option.getD_some, Option.getD_none, reduceIte, ↓reduceIte, Nat.reduceEqDiff]; refine jl_go ?_) | simp (disch := omega) only [go_sem, hlt, aL_8, e1, e2, e3, e4, e5, be_drop] | (refine jc_t ?_) | (refine jc_f ?_) | (refine And.intro (by (first | omega | (simp; done) | (simp; omega))) ?_) | ((repeat ((fail_if_success (refine hK _ _ (cl_id ?_))); clear hK)); refine hK _ _ (cl_id ?_); clear hK)))
      refine end_q [2] rfl (by decide) (by simp) ?_ ⟨rfl, rfl⟩ ?_
      · (simp (disch := omega) only [go_sem])
      · (simp (disch := omega) only [go_sem])
theorem put_cold (n k : Nat) (h : 1 ≤ k ∧ k ≤ 8) (hn : n < 18446744073709551616) : ACalls E0 24 [.v (.int .u64 n), .v (.int .i64 k)] [] fun r H' => r = byts (be k n) ∧ H' = [] :=
  (put_ok n k h hn).cold 1 _ ⟨of_eq_true (nb_byts _), by rw [frz_row (by simp [be])]; exact Wk.refl _⟩
end Go.Proofs.Ytminoakdilbokaa
