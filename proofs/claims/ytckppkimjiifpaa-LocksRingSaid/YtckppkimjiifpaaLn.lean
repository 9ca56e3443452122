/- Locks: New, by the machine. No condition. -/
import Derived.Test.YtckppkimjiifpaaLd
set_option linter.unusedSectionVars false
set_option linter.unusedVariables false
set_option linter.unusedSimpArgs false
set_option linter.deprecated false
namespace Go.Am
open Go.RowKit Go.Cx
/-- Cells said with less. -/
theorem cq_wkO {E : Env} {n : Nat} {T : Nat → AV} {H : Heap} (r : Nat) {cs cs' : List AV} (hr : H[r]? = some (some (.obj cs))) (hw : wks cs cs') : Cq E n T H T (H.set r (some (.obj cs'))) :=
  cq_mblk r hr rfl fun M w h => by
    obtain ⟨b, cur, t, fr, h1, h2, h3, h4, h5⟩ := h
    exact ⟨⟨b, h1⟩, b, cur, t, fr, h1, h2, h3, h4, VRs.wks hw h5⟩
end Go.Am
namespace Go.Proofs.Ytckppkimjiifpaa
open Go.RowKit Go.Cx Go.Am
set_option maxRecDepth 8000
set_option maxHeartbeats 2000000
attribute [local irreducible] ACalls jcall jsame jex jexg jexh jguard jconv jload jpart jstore jbin jslice jidxA jidx jfield jfieldA jbuild jbuildS jmake jappend jlen jpick jres jcnd jcopy jcap jborn jdraw jops jop jstr jstrc jlive jend jlenM jmmake jlook jmput jmdel jrange jnext jentry jlk jmp2 jmd2 jlm jrg jnx jny jen jeo
attribute [local go_sem] reduceIte Nat.reduceEqDiff Nat.reduceAdd Nat.reduceMul Nat.reduceLT Nat.reduceLeDiff Nat.reduceSub Int.reduceLT Int.reduceLE Int.reduceToNat Int.reduceNeg Int.reduceAdd Int.reduceSub UInt8.reduceToNat Int.reduceEq reduceCtorEq Int.reducePow Int.reduceMul Nat.reducePow E0
attribute [local go_sem ↓] reduceIte
attribute [local go_sem high] chunks_bvs
attribute [local go_sem] Nat.one_ne_zero Nat.zero_ne_one decide_true decide_false Bool.false_eq_true Bool.true_eq_false Bool.not_true Bool.not_false jops_nil jops_one jops_g jg_tt jg_ff jg_tf jg_ft jg_n jop_move jop_assign jop_pick jop_alloc jop_box jop_build jop_buildSlice jop_load jop_store jop_nilCheck jop_bin jop_not jop_convert jop_makeFunc jop_makeSlice jop_slice jop_fieldAddr jop_field jop_indexAddr jop_index jop_extract jop_len jop_append jop_call jload_m jpart_t jpart_f jpick_t jpick_f jpick_b jidxA_ptr jidxA_cptr jidxA_rp jidxA_sl jidxA_hs jidxA_os jidx_agg jidx_str jfield_m jfieldA_m jbuild_m jlen_str jlen_sl jlen_hs jlen_os jlen_mt jlen_nil jslice_sl jslice3_sl jpart_bcl jstr_map jstr_nil jstr_cons jstrc_cons jstrc_int jstrc_nil jstrc_map jconv_sl jconv_hs jconv_os jconv_mt jconv_nil jconv_str mk_toList str_toList str_size mk_size jbin_eq_nn jbin_ne_nn jbin_eq_pn jbin_ne_pn jbin_eq_bb jbin_ne_bb beq_self_eq_true oc_int oc_bool oc_str oc_slice oc_ptr oc_nilF amaps_bcl jslice_hs jslice_os jslice_mt jslice_nil jslice_str jslice_ptr jbuildS_m jappend_m jmake_m jconv_int jstore_ptr jstore_rp jbin_add jbin_sub jbin_mul jbin_lss jbin_leq jbin_gtr jbin_geq jbin_eql jbin_neq jbin_and jbin_or jbin_xor jbin_andNot jbin_str_eql jbin_str_neq jres_nil jres_tmp jres_cell jdraw_nil jdraw_q jdraw_l jdraw_b jdraw_gg jdraw_e jdraw_m jdraw_mc jdraw_f jdraw_p jdraw_c jwhen_t bcN_eq convT_m locOf_cptr locCv_int jkeep_nil jkeep_cons jsame_rfl locOf_ptr locOf_rp jdraw_w jex_eq jex_all jexg_eq jexh_eq jborn_m jop_copy jcopy_hs jcopy_os jop_cap jcap_mt jcap_nil jbin_eq_sl jbin_ne_sl jbin_eq_hs jbin_ne_hs hget0 hgetk hset0 hsetk List.set_cons_zero List.set_cons_succ put_at ev_tmp ev_const ev_global ev_func aput_some aput_none T0_at ayield place cells1 splice_cs Nat.mul_one Nat.sub_add_cancel Int.cast_ofNat_Int elems source abound afill bfill dest sure one anorm ablock astay cv_int cv_bool cv_str cv_slice cv_ptr cv_nilFunc List.map_cons List.map_nil List.map_toArray List.getElem?_toArray List.getElem?_cons_zero List.getElem?_cons_succ List.getElem?_nil Option.getD_some Option.getD_none Option.map_some Option.map_none Option.bind_some Option.some.injEq Nat.add_zero Nat.zero_add List.drop_zero List.drop_succ_cons List.take_succ_cons List.take_zero List.take_nil List.drop_nil List.length_cons List.length_nil List.length_append List.nil_append List.cons_append List.append_assoc List.append_nil List.append_cancel_left_eq List.cons.injEq if_true if_false true_and and_true or_false false_or ne_eq not_true_eq_false not_false_eq_true Nat.le_refl Int.toNat_natCast List.replicate_succ List.replicate_zero exists_eq List.toList_toArray List.length_map Prod.mk.injEq exists_eq_left exists_eq_left' exists_eq' exists_eq_right' exists_and_left exists_and_right exists_const bvs_len bvs_drop bvs_take bvs_getD splice_bvs splice_row flat_bcl amaps_bvs jpart_bvs List.take_length List.length_drop List.length_take Nat.min_eq_left Nat.min_eq_right amap amaps amapss amapss_bcl back_nil sg_nil back backs sg List.getD_cons_zero List.getD_cons_succ ofl_cons ofl_nil jbin_quo jbin_rem jbin_shl jbin_shr getD_bcl w8_u8 w8_u16 w8_u32 w8_u64 w8_i64 IntWalk.i64_in IntWalk.u64_in IntWalk.u32_in IntWalk.u16_in bits_u8 bits_u16 bits_u32 bits_u64 bits_i64 nbs_bvs gfs_bvs okS okT okL okD wk_rfl wk_any wk_v wk_nil nb_byts nbss_bcl amap_byts frz_v frz_sl frz_byts frz_ptr frz_any frz_mt frzs_bcl nb nbs nbss sh_lt sh_0 sh_at frz Value.int.injEq Value.bool.injEq Value.string.injEq Nat.lt_add_right_iff_pos Nat.lt_irrefl Nat.zero_lt_one gf gfs gfss gfH gfss_bcl byts uvs_len uvs_drop uvs_take uvs_getD splice_uvs nbs_uvs gfs_uvs amaps_uvs jpart_uvs jpart_uvs0 getD_ucl set_ucl b32_xor b32_or b32_and b32_add b32_not b32_shr b32_shl b32_shr3 b32_shr10 jop_cpl sgn_u32 max_u32 flat_ucl zeros8_len zeros32_len okVs_bvs okVs_uvs getI_ucl getI_bcl amapss_ucl w32_in jop_max jop_min jmax_ii jmin_ii uclss_nb uclss_gf chunks1_c chunks1_0 cl1_iii Int.sub_zero undef amapss_set cels_nil cels_len cels_take cels_drop cels_app cels_getD cels_getI cels_nbss cels_gfss cels_amapss cl1_int cl1_bool cl1_ii cl1_ib cl1_iib snoc_int snoc_bool snoc_ii snoc_ib snoc_iib set_int set_bool rep_bool rep_int eqAV scEq Bool.and_true pr_eta tgs_nil tgs_len tgs_take tgs_drop tgs_app tgs_snoc tgs_getD tgs_getI tgs_nbss tgs_amapss nbss_app amapss_app tagC_eq rwb_nil rwb_len rwb_take rwb_snoc rwb_getD rwb_getI rwb_nbss rwb_amapss jop_makeMap jop_lookup jop_mapUpdate jop_delete jop_range jop_next jop_entry jmmake_m jlook_m jlk_mI jmput_m jmp2_mI jmdel_m jmd2_mB jlenM_m jlm_mB jrange_m jnext_m jnx_m jentry_m jen_m jeo_mS nbB_mI nbB_mSI bmap_mI bmap_mSI gfB_mI mB_nil vI nbB_o nbB_r nbB_i bmap_o bmap_r bmap_i gfB_o gfB_r gfB_i okV okVs okEs okA okAs List.not_mem_nil List.mem_cons List.mem_singleton false_and and_false true_or or_true or_self and_self ty1 ty2 ty3 zv3 ty4 ty5 ty6 ty7 st7 jeq7 jne7 ty8 st8 jeq8 jne8 ty9 ty10 ty11 ty12 ty13 st13 ty14 st14 ty15 ty16 ty17 ty18 st18 ty19 st19 ty20 ty21 ty22 sl22 ty23 ty24 ty26 ty27 ty28 ty29 st29 jeq29 jne29 ty30 st30 jeq30 jne30 ty31 ty32 sl32 ty33 ty34 st34 jeq34 jne34 ty35 st35 jeq35 jne35 ty37 ty38 sl38 ty39 ty41 ty42 ty43 ty44 ty46 ty47 ty48 st48 ty49 st49 ty50 ty51 ty52 sl52 ty53 st53 ty54 st54 ty55 sl55 ty57 ty58 ty59 ty60 ty61 mp61 ty62 sl62 ty63 st63 ty64 st64 ty65 ty66 st66 jeq66 jne66 ty67 st67 jeq67 jne67 ty68 ty69 ty70 ty71 ty72 ty73 sl73 ty74 st74 ty75 st75 ty77 ty79 ty80 ty81 ty82 ty83 ty84 ty85 ty86 ty87 ty88 ty89 ty90 st90 jeq90 jne90 ty91 st91 jeq91 jne91 ty92 ty93 ty94 ty96 ty97 ty98 ty100 ty101 ty102 ty103 ty104 ty105 ty106 ty107 ty108 ty109 ty110 ty111 ty113 ty114 ty115 st115 ty116 st116 ty117 ar117 ty118 st118 ty119 st119 ty120 ty121 ty122 ty123 ty124 ty125 ty126 st126 ty127 st127 ty128 arn7 arn8 arn13 arn14 arn18 arn19 arn29 arn30 arn34 arn35 arn48 arn49 arn53 arn54 arn63 arn64 arn66 arn67 arn74 arn75 arn90 arn91 arn115 arn116 arn118 arn119 arn126 arn127 stn117 Try.underlying0 Try.underlying1 Try.underlying2 Try.underlying3 Try.underlying4 Try.underlying5 Try.underlying6 Try.underlying7 Try.underlying8 Try.underlying9 Try.underlying10 Try.underlying11 Try.underlying12 Try.underlying13 Try.underlying14 Try.underlying15 Try.underlying16 Try.underlying17 Try.underlying18 Try.underlying19 Try.underlying20 Try.underlying21 Try.underlying22 Try.underlying23 Try.underlying24 Try.underlying25 Try.underlying26 Try.underlying27 Try.underlying28 Try.underlying29 Try.underlying30 Try.underlying31 Try.underlying32 Try.underlying33 Try.underlying34 Try.underlying35 Try.underlying36 Try.underlying37 Try.underlying38 Try.underlying39 Try.underlying40 Try.underlying41 Try.underlying42 Try.underlying43 Try.underlying44 Try.underlying45 Try.underlying46 Try.underlying47 Try.underlying48 Try.underlying49 Try.underlying50 Try.underlying51 Try.underlying52 Try.underlying53 Try.underlying54 Try.underlying55 Try.underlying56 Try.underlying57 Try.underlying58 Try.underlying59 Try.underlying60 Try.underlying61 Try.underlying62 Try.underlying63 Try.underlying64 Try.underlying65 Try.underlying66 Try.underlying67 Try.underlying68 Try.underlying69 Try.underlying70 Try.underlying71 Try.underlying72 Try.underlying73 Try.underlying74 Try.underlying75 Try.underlying76 Try.underlying77 Try.underlying78 Try.underlying79 Try.underlying80 Try.underlying81 Try.underlying82 Try.underlying83 Try.underlying84 Try.underlying85 Try.underlying86 Try.underlying87 Try.underlying88 Try.underlying89 Try.underlying90 Try.underlying91 Try.underlying92 Try.underlying93 Try.underlying94 Try.underlying95 Try.underlying96 Try.underlying97 Try.underlying98 Try.underlying99 Try.underlying100 Try.underlying101 Try.underlying102 Try.underlying103 Try.underlying104 Try.underlying105 Try.underlying106 Try.underlying107 Try.underlying108 Try.underlying109 Try.underlying110 Try.underlying111 Try.underlying112 Try.underlying113 Try.underlying114 Try.underlying115 Try.underlying116 Try.underlying117 Try.underlying118 Try.underlying119 Try.underlying120 Try.underlying121 Try.underlying122 Try.underlying123 Try.underlying124 Try.underlying125 Try.underlying126 Try.underlying127 Try.underlying128
attribute [local go_sem ←] List.map_take List.map_drop

/-- i locks that are being made. -/
def NH (i : Nat) : Heap := some (.obj [.hs (2 * i + 1) 1 0 i]) :: (lkV 0 (List.replicate i lk0) ++ [some (.row true 1 (lps i))])
def reps (i : Nat) : List Lk := List.replicate i lk0
theorem NH_len (i : Nat) : (NH i).length = 2 * i + 2 := by simp [NH, lkV_len]
theorem NH_0 (i : Nat) : (NH i)[0]? = some (some (.obj [.hs (2 * i + 1) 1 0 i])) := rfl
theorem NH_o (i : Nat) {j : Nat} (hj : j < i) : (NH i)[2 * j + 1]? = some (some (.obj [.mp (2 * j + 2), .sl 2 (cels ([] : List (Int × Bool)))])) ∧ (NH i)[2 * j + 2]? = some (some (mB vI [])) := by
  have h := lkV_o 0 (List.replicate i lk0) j (by simpa using hj)
  have e : lk (List.replicate i lk0) j = lk0 := by simp [lk, List.getD_eq_getElem?_getD, hj]
  rw [e, Nat.zero_add] at h
  have hl := lkV_len 0 (List.replicate i lk0)
  rw [List.length_replicate] at hl
  constructor
  · show (lkV 0 (List.replicate i lk0) ++ _)[2 * j]? = _
    rw [List.getElem?_append_left (by omega)]
    exact h.1
  · show (lkV 0 (List.replicate i lk0) ++ _)[2 * j + 1]? = _
    rw [List.getElem?_append_left (by omega)]
    exact h.2
theorem NH_r (i : Nat) : (NH i)[2 * i + 1]? = some (some (.row true 1 (lps i))) := by
  have hl := lkV_len 0 (List.replicate i lk0)
  rw [List.length_replicate] at hl
  show (lkV 0 (List.replicate i lk0) ++ _)[2 * i]? = _
  rw [List.getElem?_append_right (by omega), hl]
  simp
theorem lps_succ (i : Nat) : lps (i + 1) = lps i ++ [[.ptr (2 * i + 1) 0]] := by simp [lps, List.range_succ]
/-- What a round makes of it. -/
def NF (i : Nat) : Heap := ((NH i).set (2 * i + 1) none).set 0 (some (.obj [.hs (2 * i + 2 + 3) 1 0 (i + 1)])) ++ [some (mB vI []), some (.obj [.mp (2 * i + 2), .sl 2 (cels ([] : List (Int × Bool)))]), some (.row true 1 [[.ptr (2 * i + 2 + 1) 0]]), some (.row true 1 (lps i ++ [[.ptr (2 * i + 2 + 1) 0]]))]
def nf (i r : Nat) : Nat := if r < 2 * i + 1 then r else if r = 2 * i + 1 then 2 * i + 3 else if r = 2 * i + 2 then 2 * i + 2 else 2 * i + 5
theorem NF_len (i : Nat) : (NF i).length = 2 * i + 6 := by simp [NF, NH_len]
theorem NF_old (i : Nat) {r : Nat} (h : 0 < r) (h2 : r < 2 * i + 1) : (NF i)[r]? = (NH i)[r]? := by
  unfold NF
  rw [List.getElem?_append_left (by simp [NH_len]; omega), List.getElem?_set_ne (by omega), List.getElem?_set_ne (by omega)]
theorem NF_new (i k : Nat) : (NF i)[2 * i + 2 + k]? = [some (mB vI []), some (.obj [.mp (2 * i + 2), .sl 2 (cels ([] : List (Int × Bool)))]), some (.row true 1 [[.ptr (2 * i + 2 + 1) 0]]), some (.row true 1 (lps i ++ [[.ptr (2 * i + 2 + 1) 0]]))][k]? := by
  unfold NF
  rw [List.getElem?_append_right (by simp [NH_len]), List.length_set, List.length_set, NH_len]
  congr 1
  omega
theorem cq_new {n : Nat} {T : Nat → AV} {tl : List (Nat × AV)} (i : Nat) (hn : n = 0) (hT : okT (NH (i + 1)).length (nf i) T tl) : Cq E0 n T (NF i) (ofl tl) (NH (i + 1)) := by
  have f1 : ∀ r, r < 2 * i + 1 → nf i r = r := fun r h => by unfold nf; rw [if_pos h]
  have f2 : nf i (2 * i + 1) = 2 * i + 3 := by unfold nf; rw [if_neg (by omega), if_pos rfl]
  have f3 : nf i (2 * i + 2) = 2 * i + 2 := by unfold nf; rw [if_neg (by omega), if_neg (by omega), if_pos rfl]
  have f4 : nf i (2 * i + 3) = 2 * i + 5 := by unfold nf; rw [if_neg (by omega), if_neg (by omega), if_neg (by omega)]
  have hlen := NH_len (i + 1)
  refine Cq.ren (nf i) (fun _ => by omega) (fun r hr => by omega) (fun r B hr => ?_) (fun r r' B B' hr hr' e => ?_) (fun j => ?_)
  · have hrl := (List.getElem?_eq_some_iff.1 hr).1
    rw [hlen] at hrl ⊢
    rcases Nat.eq_zero_or_pos r with rfl | hp
    · rw [NH_0] at hr
      cases hr
      refine ⟨⟨by unfold nb; omega, trivial⟩, ?_⟩
      rw [f1 0 (by omega)]
      show some (some (Blk.obj [.hs (2 * i + 2 + 3) 1 0 (i + 1)])) = some (some (.obj [.hs (nf i (2 * i + 3)) 1 0 (i + 1)]))
      rw [f4]
    · rcases Nat.lt_or_ge r (2 * i + 1) with hlt | hge
      · rw [f1 r hlt, NF_old i hp hlt]
        obtain ⟨j, h | h⟩ : ∃ j, r = 2 * j + 1 ∨ r = 2 * j + 2 := ⟨(r - 1) / 2, by omega⟩
        · subst h
          rw [(NH_o (i + 1) (by omega)).1] at hr
          cases hr
          rw [(NH_o i (by omega)).1]
          refine ⟨⟨by unfold nb; omega, trivial, trivial⟩, ?_⟩
          show _ = some (some (Blk.obj [.mp (nf i (2 * j + 2)), .sl 2 (cels ([] : List (Int × Bool)))]))
          rw [f1 _ (by omega)]
        · subst h
          rw [(NH_o (i + 1) (by omega)).2] at hr
          cases hr
          rw [(NH_o i (by omega)).2]
          exact ⟨of_eq_true nbB_mI, by rw [bmap_mI]⟩
      · obtain h | h | h : r = 2 * i + 1 ∨ r = 2 * i + 2 ∨ r = 2 * i + 3 := by omega
        · subst h
          rw [(NH_o (i + 1) (by omega)).1] at hr
          cases hr
          rw [f2, show 2 * i + 3 = 2 * i + 2 + 1 by omega, NF_new]
          refine ⟨⟨by unfold nb; omega, trivial, trivial⟩, ?_⟩
          show _ = some (some (Blk.obj [.mp (nf i (2 * i + 2)), .sl 2 (cels ([] : List (Int × Bool)))]))
          rw [f3]
          rfl
        · subst h
          rw [(NH_o (i + 1) (by omega)).2] at hr
          cases hr
          rw [f3, show 2 * i + 2 = 2 * i + 2 + 0 by omega, NF_new]
          exact ⟨of_eq_true nbB_mI, by rw [bmap_mI]; rfl⟩
        · subst h
          have hr2 := NH_r (i + 1)
          rw [show 2 * (i + 1) + 1 = 2 * i + 3 by omega] at hr2
          rw [hr2] at hr
          cases hr
          rw [f4, show 2 * i + 5 = 2 * i + 2 + 3 by omega, NF_new]
          refine ⟨lps_nb (by omega), ?_⟩
          show _ = some (some (Blk.row true 1 (amapss (nf i) (lps (i + 1)))))
          have e : amapss (nf i) (lps (i + 1)) = lps i ++ [[.ptr (2 * i + 2 + 1) 0]] := by
            rw [lps_succ]
            have h5 : ∀ a b : List (List AV), amapss (nf i) (a ++ b) = amapss (nf i) a ++ amapss (nf i) b := fun a b => by
              induction a with
              | nil => rfl
              | cons x a ih => show amaps (nf i) x :: amapss (nf i) (a ++ b) = amaps (nf i) x :: amapss (nf i) a ++ amapss (nf i) b; rw [ih]; rfl
            rw [h5, amapss_id (n := 2 * i + 1) (fun r h => f1 r h) (lps_nb (by omega))]
            show lps i ++ [[.ptr (nf i (2 * i + 1)) 0]] = _
            rw [f2]
          rw [e]
          rfl
  · have h1 := (List.getElem?_eq_some_iff.1 hr).1
    have h2 := (List.getElem?_eq_some_iff.1 hr').1
    rw [hlen] at h1 h2
    unfold nf at e
    split at e <;> split at e <;> (try split at e) <;> (try split at e) <;> (try split at e) <;> (try split at e) <;> omega
  · exact ofl_all (p := fun j x => nb (NH (i + 1)).length x ∧ Wk (T j) (amap (nf i) x)) ⟨trivial, Wk.any _⟩ fun x hx => okT_all hT x hx
theorem cq_done {T : Nat → AV} {tl : List (Nat × AV)} (n : Nat) (hT : ∀ x ∈ tl, T x.1 = x.2) (hb : okD (LH (reps n)).length 0 [none] (ofl tl) tl) : Cq E0 0 T (NH n) (ofl tl) (LH (reps n)) := by
  have hl : (reps n).length = n := by simp [reps]
  have h1 : Cq E0 0 T (NH n) (ofl tl) (LH (reps n) ++ [none]) := by
    refine cq_ice (2 * n + 1) (NH_r n) (by rw [List.length_append, LH_len, hl, NH_len]; rfl) (fun q B' hq => ?_) (fun x hx => .inl (hT x hx))
    have hql := (List.getElem?_eq_some_iff.1 hq).1
    rw [List.length_append, LH_len, hl] at hql
    have hql2 : q < 2 * n + 2 := hql
    by_cases hq1 : q = 2 * n + 1
    · subst hq1
      rw [List.getElem?_append_right (by rw [LH_len, hl]; exact Nat.le_refl _), LH_len, hl, Nat.sub_self] at hq
      cases hq
    · rw [List.getElem?_append_left (by rw [LH_len, hl]; omega)] at hq
      refine ⟨hq1, ?_⟩
      rcases Nat.eq_zero_or_pos q with rfl | hp
      · rw [LH_0] at hq
        cases hq
        rw [hl]
        exact ⟨_, NH_0 n, .inr ⟨0, n, rfl, by rw [lps_len]; omega, by rw [List.drop_zero, List.take_of_length_le (by rw [lps_len]; omega)]⟩, trivial⟩
      · obtain ⟨q, rfl⟩ : ∃ q', q = q' + 1 := ⟨q - 1, by omega⟩
        refine ⟨B', ?_, rlB_refl B'⟩
        rw [← hq]
        show (lkV 0 (List.replicate n lk0) ++ [some (.row true 1 (lps n))] : Heap)[q]? = (lkV 0 (reps n))[q]?
        rw [List.getElem?_append_left (by rw [lkV_len, List.length_replicate]; omega)]
        rfl
  exact h1.trans (cq_drop 0 (Nat.zero_le _) (LH_nbs _) hb)
theorem lnew0_am (n : Int) (h : ¬ (1 ≤ n ∧ n ≤ 67)) : ACalls E0 8 [.v (.int .i64 n)] [] fun r H' => r = .tup [.v (.pointer none), .v (.int .i64 1)] ∧ H' = [] := by
  by_cases h1 : n < 1
  · refine calls_q (calls_of Try.func8 rfl (by kernel_rfl) (by kernel_rfl) (by rw [Try.ntmps8]; exact Nat.le_of_ble_eq_true rfl) (fun hH0 hA0 => ?_)); rw [Try.results8]
    (repeat' (first | (have hs := Mk.out hs; (try simp only [decide_eq_true_eq, decide_eq_false_iff_not, Bool.not_eq_true, Bool.not_eq_false, Bool.not_true, Bool.not_false, Bool.not_eq_eq_eq_not, Bool.and_eq_true, Bool.or_eq_true, beq_iff_eq, bne_iff_ne, beq_eq_false_iff_ne, ne_eq, Classical.not_not, not_true_eq_false, not_false_eq_true, forall_const, Bool.false_eq_true, false_implies, eq_self] at hs); (try (exfalso; omega)); (try simp (disch := omega) only [go_sem, h1, hs])) | (refine z_seqr rfl ?_) | (refine w_seq rfl fun K hK => ?_) | (refine z_reg rfl ?_) | (refine z_cond rfl ?_) | (refine w_skip rfl ?_; ((repeat ((fail_if_success (refine hK _ _ (cl_id ?_))); clear hK)); refine hK _ _ (cl_id ?_); clear hK)) | (refine w_ret rfl ?_; (try dsimp only [anorm, ablock, astay]); refine z_end ?_) | (refine z_end0 ?_) | (refine w_block rfl ?_) | (refine w_scope rfl ?_) | (refine w_label rfl ?_; ((repeat ((fail_if_success (refine hK _ _ (cl_id ?_))); clear hK)); refine hK _ _ (cl_id ?_); clear hK)) | (refine w_exit rfl ?_; (try dsimp only [anorm, ablock, astay]); (try simp only [reduceIte, ↓reduceIte, Nat.reduceEqDiff]); ((repeat ((fail_if_success (refine hK _ _ (cl_id ?_))); clear hK)); refine hK _ _ (cl_id ?_); clear hK)) | (refine jend_go [(8, [2, 3]), (7, [4, 13, 14]), (6, [4, 13, 14]), (5, [4, 13, 14, 15]), (4, [4, 13, 14]), (3, [0, 4]), (2, [2, 3]), (1, [0, 10]), (0, [0])] ?_; simp only [tabAt_cons, sel_nil, sel_cons, put_at, ofl_cons, ofl_nil, T0_at, List.getElem?_cons_zero, List.getElem?_cons_succ, List.getElem?_nil, Option.getD_some, Option.getD_none, reduceIte, ↓reduceIte, Nat.reduceEqDiff]; refine jl_go ?_) | simp (disch := omega) only [go_sem, h1] | (refine jc_t ?_) | (refine jc_f ?_) | (refine And.intro (by (first | omega | (simp; done) | (simp; omega))) ?_) | (refine mc_b (fun hs => ?_) fun hs => ?_) | (refine mg_st (fun hs => ?_) fun hs => ?_) | (refine mg_sf (fun hs => ?_) fun hs => ?_) | (refine mall_s (fun hs => ?_) fun hs => ?_) | (refine malln_s (fun hs => ?_) fun hs => ?_) | (refine mpk_s (fun hs => ?_) fun hs => ?_) | ((repeat ((fail_if_success (refine hK _ _ (cl_id ?_))); clear hK)); refine hK _ _ (cl_id ?_); clear hK)))
    exact cl_id ⟨rfl, rfl⟩
  · have h2 : 67 < n := by omega
    refine calls_q (calls_of Try.func8 rfl (by kernel_rfl) (by kernel_rfl) (by rw [Try.ntmps8]; exact Nat.le_of_ble_eq_true rfl) (fun hH0 hA0 => ?_)); rw [Try.results8]
    (repeat' (first | (have hs := Mk.out hs; (try simp only [decide_eq_true_eq, decide_eq_false_iff_not, Bool.not_eq_true, Bool.not_eq_false, Bool.not_true, Bool.not_false, Bool.not_eq_eq_eq_not, Bool.and_eq_true, Bool.or_eq_true, beq_iff_eq, bne_iff_ne, beq_eq_false_iff_ne, ne_eq, Classical.not_not, not_true_eq_false, not_false_eq_true, forall_const, Bool.false_eq_true, false_implies, eq_self] at hs); (try (exfalso; omega)); (try simp (disch := omega) only [go_sem, h1, h2, hs])) | (refine z_seqr rfl ?_) | (refine w_seq rfl fun K hK => ?_) | (refine z_reg rfl ?_) | (refine z_cond rfl ?_) | (refine w_skip rfl ?_; ((repeat ((fail_if_success (refine hK _ _ (cl_id ?_))); clear hK)); refine hK _ _ (cl_id ?_); clear hK)) | (refine w_ret rfl ?_; (try dsimp only [anorm, ablock, astay]); refine z_end ?_) | (refine z_end0 ?_) | (refine w_block rfl ?_) | (refine w_scope rfl ?_) | (refine w_label rfl ?_; ((repeat ((fail_if_success (refine hK _ _ (cl_id ?_))); clear hK)); refine hK _ _ (cl_id ?_); clear hK)) | (refine w_exit rfl ?_; (try dsimp only [anorm, ablock, astay]); (try simp only [reduceIte, ↓reduceIte, Nat.reduceEqDiff]); ((repeat ((fail_if_success (refine hK _ _ (cl_id ?_))); clear hK)); refine hK _ _ (cl_id ?_); clear hK)) | (refine jend_go [(8, [2, 3]), (7, [4, 13, 14]), (6, [4, 13, 14]), (5, [4, 13, 14, 15]), (4, [4, 13, 14]), (3, [0, 4]), (2, [2, 3]), (1, [0, 10]), (0, [0])] ?_; simp only [tabAt_cons, sel_nil, sel_cons, put_at, ofl_cons, ofl_nil, T0_at, List.getElem?_cons_zero, List.getElem?_cons_succ, List.getElem?_nil, Option.getD_some, Option.getD_none, reduceIte, ↓reduceIte, Nat.reduceEqDiff]; refine jl_go ?_) | simp (disch := omega) only [go_sem, h1, h2] | (refine jc_t ?_) | (refine jc_f ?_) | (refine And.intro (by (first | omega | (simp; done) | (simp; omega))) ?_) | (refine mc_b (fun hs => ?_) fun hs => ?_) | (refine mg_st (fun hs => ?_) fun hs => ?_) | (refine mg_sf (fun hs => ?_) fun hs => ?_) | (refine mall_s (fun hs => ?_) fun hs => ?_) | (refine malln_s (fun hs => ?_) fun hs => ?_) | (refine mpk_s (fun hs => ?_) fun hs => ?_) | ((repeat ((fail_if_success (refine hK _ _ (cl_id ?_))); clear hK)); refine hK _ _ (cl_id ?_); clear hK)))
    exact cl_id ⟨rfl, rfl⟩
theorem lnew_am (n : Nat) (h : 1 ≤ n ∧ n ≤ 67) : ACalls E0 8 [.v (.int .i64 (n : Int))] [] fun r H' => r = .tup [.ptr 0 0, .v (.int .i64 0)] ∧ H' = LH (reps n) := by
  have h1 : ¬ (n : Int) < 1 := by omega
  have h2 : ¬ 67 < (n : Int) := by omega
  refine calls_q (calls_of Try.func8 rfl (by kernel_rfl) (by kernel_rfl) (by rw [Try.ntmps8]; exact Nat.le_of_ble_eq_true rfl) (fun hH0 hA0 => ?_)); rw [Try.results8]
  (repeat' (first | (have hs := Mk.out hs; (try simp only [decide_eq_true_eq, decide_eq_false_iff_not, Bool.not_eq_true, Bool.not_eq_false, Bool.not_true, Bool.not_false, Bool.not_eq_eq_eq_not, Bool.and_eq_true, Bool.or_eq_true, beq_iff_eq, bne_iff_ne, beq_eq_false_iff_ne, ne_eq, Classical.not_not, not_true_eq_false, not_false_eq_true, forall_const, Bool.false_eq_true, false_implies, eq_self] at hs); (try (exfalso; omega)); (try simp (disch := omega) only [go_sem, h1, h2, hs])) | (refine z_seqr rfl ?_) | (refine w_seq rfl fun K hK => ?_) | (refine z_reg rfl ?_) | (refine z_cond rfl ?_) | (refine w_skip rfl ?_; ((repeat ((fail_if_success (refine hK _ _ (cl_id ?_))); clear hK)); refine hK _ _ (cl_id ?_); clear hK)) | (refine w_ret rfl ?_; (try dsimp only [anorm, ablock, astay]); refine z_end ?_) | (refine z_end0 ?_) | (refine w_block rfl ?_) | (refine w_scope rfl ?_) | (refine w_label rfl ?_; ((repeat ((fail_if_success (refine hK _ _ (cl_id ?_))); clear hK)); refine hK _ _ (cl_id ?_); clear hK)) | (refine w_exit rfl ?_; (try dsimp only [anorm, ablock, astay]); (try simp only [reduceIte, ↓reduceIte, Nat.reduceEqDiff]); ((repeat ((fail_if_success (refine hK _ _ (cl_id ?_))); clear hK)); refine hK _ _ (cl_id ?_); clear hK)) | (refine jend_go [(8, [2, 3]), (7, [4, 13, 14]), (6, [4, 13, 14]), (5, [4, 13, 14, 15]), (4, [4, 13, 14]), (3, [0, 4]), (2, [2, 3]), (1, [0, 10]), (0, [0])] ?_; simp only [tabAt_cons, sel_nil, sel_cons, put_at, ofl_cons, ofl_nil, T0_at, List.getElem?_cons_zero, List.getElem?_cons_succ, List.getElem?_nil, Option.getD_some, Option.getD_none, reduceIte, ↓reduceIte, Nat.reduceEqDiff]; refine jl_go ?_) | simp (disch := omega) only [go_sem, h1, h2] | (refine jc_t ?_) | (refine jc_f ?_) | (refine And.intro (by (first | omega | (simp; done) | (simp; omega))) ?_) | (refine mc_b (fun hs => ?_) fun hs => ?_) | (refine mg_st (fun hs => ?_) fun hs => ?_) | (refine mg_sf (fun hs => ?_) fun hs => ?_) | (refine mall_s (fun hs => ?_) fun hs => ?_) | (refine malln_s (fun hs => ?_) fun hs => ?_) | (refine mpk_s (fun hs => ?_) fun hs => ?_) | ((repeat ((fail_if_success (refine hK _ _ (cl_id ?_))); clear hK)); refine hK _ _ (cl_id ?_); clear hK)))
  refine z_loop rfl (fun i => i ≤ n) (fun i => n - i) (fun i => [(4, .ptr 0 0), (13, .v (.int .i64 (n : Int))), (14, .v (.int .i64 (i : Int)))]) (fun i => NH i) 0 (Nat.zero_le _) ?_ ?_
  · refine Cq.trans (T' := ofl [(4, .ptr 0 0), (13, .v (.int .i64 (n : Int))), (14, .v (.int .i64 0))]) (H' := NH 0) (cq_bareC (cs := [.v (.slice none 0 0)]) 1 0 0 rfl rfl) (cq_s ?_)
    (simp (disch := omega) only [go_sem])
  intro i hi K hK
  have l0 := NH_len i
  have n0 := NH_0 i
  have n0L := at_app n0
  have nr := at_app (NH_r i)
  have ll := lps_len i
  by_cases hlt : (i : Int) < n
  · obtain ⟨G, hG⟩ : ∃ G, G = (NH i).set (2 * i + 1) none := ⟨_, rfl⟩
    have ns : ∀ L : Heap, (NH i ++ L).set (2 * i + 1) none = G ++ L := fun L => by rw [hG, List.set_append_left _ _ (by omega)]
    have lG : G.length = 2 * i + 2 := by rw [hG, List.length_set, l0]
    have gs : ∀ (L : Heap) (x : Option Blk), (G ++ L).set 0 x = G.set 0 x ++ L := fun L x => List.set_append_left _ _ (by omega)
    have g0 : ∀ L : Heap, (G ++ L)[0]? = some (some (.obj [.hs (2 * i + 1) 1 0 i])) := fun L => by
      refine at_app ?_ L
      rw [hG, List.getElem?_set_ne (by omega)]
      exact n0
    have q5 : ∀ A B C : Option Blk, (NH i ++ [A, B, C])[2 * i + 2 + 2]? = some C := fun A B C => by rw [List.getElem?_append_right (by omega), l0]; simp
    have tk : List.take i (lps i) = lps i := List.take_of_length_le (by omega)
    have hK2 := fun T' H' => hK T' H' (i + 1) (by omega) (by omega)
    have hF : NF i = G.set 0 (some (.obj [.hs (2 * i + 2 + 3) 1 0 (i + 1)])) ++ [some (mB vI []), some (.obj [.mp (2 * i + 2), .sl 2 (cels ([] : List (Int × Bool)))]), some (.row true 1 [[.ptr (2 * i + 2 + 1) 0]]), some (.row true 1 (lps i ++ [[.ptr (2 * i + 2 + 1) 0]]))] := by rw [hG]; rfl
    clear hK hG
    generalize NH i = H at *
    generalize lps i = ps at *
    (repeat' (first | (have hs := Mk.out hs; (try simp only [decide_eq_true_eq, decide_eq_false_iff_not, Bool.not_eq_true, Bool.not_eq_false, Bool.not_true, Bool.not_false, Bool.not_eq_eq_eq_not, Bool.and_eq_true, Bool.or_eq_true, beq_iff_eq, bne_iff_ne, beq_eq_false_iff_ne, ne_eq, Classical.not_not, not_true_eq_false, not_false_eq_true, forall_const, Bool.false_eq_true, false_implies, eq_self] at hs); (try (exfalso; omega)); (try simp (disch := omega) only [go_sem, l0, n0, n0L, nr, ns, lG, gs, g0, q5, tk, hlt, ll, hs])) | (refine z_seqr rfl ?_) | (refine w_seq rfl fun K hK => ?_) | (refine z_reg rfl ?_) | (refine z_cond rfl ?_) | (refine w_skip rfl ?_; ((repeat ((fail_if_success (refine hK _ _ (cl_id ?_))); clear hK)); refine hK _ _ (cl_id ?_); clear hK)) | (refine w_ret rfl ?_; (try dsimp only [anorm, ablock, astay]); refine z_end ?_) | (refine z_end0 ?_) | (refine w_block rfl ?_) | (refine w_scope rfl ?_) | (refine w_label rfl ?_; ((repeat ((fail_if_success (refine hK _ _ (cl_id ?_))); clear hK)); refine hK _ _ (cl_id ?_); clear hK)) | (refine w_exit rfl ?_; (try dsimp only [anorm, ablock, astay]); (try simp only [reduceIte, ↓reduceIte, Nat.reduceEqDiff]); ((repeat ((fail_if_success (refine hK _ _ (cl_id ?_))); clear hK)); refine hK _ _ (cl_id ?_); clear hK)) | (refine jend_go [(8, [2, 3]), (7, [4, 13, 14]), (6, [4, 13, 14]), (5, [4, 13, 14, 15]), (4, [4, 13, 14]), (3, [0, 4]), (2, [2, 3]), (1, [0, 10]), (0, [0])] ?_; simp only [tabAt_cons, sel_nil, sel_cons, put_at, ofl_cons, ofl_nil, T0_at, List.getElem?_cons_zero, List.getElem?_cons_succ, List.getElem?_nil, Option.getD_some, Option.getD_none, reduceIte, ↓reduceIte, Nat.reduceEqDiff]; refine jl_go ?_) | simp (disch := omega) only [go_sem, l0, n0, n0L, nr, ns, lG, gs, g0, q5, tk, hlt, ll] | (refine jc_t ?_) | (refine jc_f ?_) | (refine And.intro (by (first | omega | (simp; done) | (simp; omega))) ?_) | (refine mc_b (fun hs => ?_) fun hs => ?_) | (refine mg_st (fun hs => ?_) fun hs => ?_) | (refine mg_sf (fun hs => ?_) fun hs => ?_) | (refine mall_s (fun hs => ?_) fun hs => ?_) | (refine malln_s (fun hs => ?_) fun hs => ?_) | (refine mpk_s (fun hs => ?_) fun hs => ?_) | ((repeat ((fail_if_success (refine hK _ _ (cl_id ?_))); clear hK)); refine hK _ _ (cl_id ?_); clear hK)))
    have hr : (G.set 0 (some (Blk.obj [.hs (2 * i + 2 + 3) 1 0 (i + 1)])) ++ [some (mB vI []), some (Blk.obj [.mp (2 * i + 2), .v (Value.slice none 0 0)]), some (Blk.row true 1 [[.ptr (2 * i + 2 + 1) 0]]), some (Blk.row true 1 (ps ++ [[.ptr (2 * i + 2 + 1) 0]]))] : Heap)[2 * i + 2 + 1]? = some (some (Blk.obj [.mp (2 * i + 2), .v (Value.slice none 0 0)])) := by
      rw [List.getElem?_append_right (by rw [List.length_set, lG]; omega), List.length_set, lG, show 2 * i + 2 + 1 - (2 * i + 2) = 1 by omega]
      rfl
    have hs : (G.set 0 (some (Blk.obj [.hs (2 * i + 2 + 3) 1 0 (i + 1)])) ++ [some (mB vI []), some (Blk.obj [.mp (2 * i + 2), .v (Value.slice none 0 0)]), some (Blk.row true 1 [[.ptr (2 * i + 2 + 1) 0]]), some (Blk.row true 1 (ps ++ [[.ptr (2 * i + 2 + 1) 0]]))] : Heap).set (2 * i + 2 + 1) (some (Blk.obj [.mp (2 * i + 2), .sl 2 (cels ([] : List (Int × Bool)))])) = NF i := by
      rw [hF, List.set_append_right _ _ (by rw [List.length_set, lG]; omega), List.length_set, lG, show 2 * i + 2 + 1 - (2 * i + 2) = 1 by omega]
      rfl
    have hw := fun T => cq_wkO (E := E0) (n := 0) (T := T) (2 * i + 2 + 1) hr (cs' := [.mp (2 * i + 2), .sl 2 (cels ([] : List (Int × Bool)))]) ⟨Wk.refl _, Wk.nil 2, trivial⟩
    rw [hs] at hw
    have nf0 : nf i 0 = 0 := by unfold nf; rw [if_pos (by omega)]
    have hl2 := NH_len (i + 1)
    have hl3 : 0 < (NH (i + 1)).length := by omega
    refine hK2 _ _ ((hw _).trans (cq_new i rfl ?_))
    (simp (disch := omega) only [go_sem, nf0, hl3])
    omega
  · obtain rfl : i = n := by omega
    clear hK
    (repeat' (first | (have hs := Mk.out hs; (try simp only [decide_eq_true_eq, decide_eq_false_iff_not, Bool.not_eq_true, Bool.not_eq_false, Bool.not_true, Bool.not_false, Bool.not_eq_eq_eq_not, Bool.and_eq_true, Bool.or_eq_true, beq_iff_eq, bne_iff_ne, beq_eq_false_iff_ne, ne_eq, Classical.not_not, not_true_eq_false, not_false_eq_true, forall_const, Bool.false_eq_true, false_implies, eq_self] at hs); (try (exfalso; omega)); (try simp (disch := omega) only [go_sem, n0, hlt, hs])) | (refine z_seqr rfl ?_) | (refine w_seq rfl fun K hK => ?_) | (refine z_reg rfl ?_) | (refine z_cond rfl ?_) | (refine w_skip rfl ?_; ((repeat ((fail_if_success (refine hK _ _ (cl_id ?_))); clear hK)); refine hK _ _ (cl_id ?_); clear hK)) | (refine w_ret rfl ?_; (try dsimp only [anorm, ablock, astay]); refine z_end ?_) | (refine z_end0 ?_) | (refine w_block rfl ?_) | (refine w_scope rfl ?_) | (refine w_label rfl ?_; ((repeat ((fail_if_success (refine hK _ _ (cl_id ?_))); clear hK)); refine hK _ _ (cl_id ?_); clear hK)) | (refine w_exit rfl ?_; (try dsimp only [anorm, ablock, astay]); (try simp only [reduceIte, ↓reduceIte, Nat.reduceEqDiff]); ((repeat ((fail_if_success (refine hK _ _ (cl_id ?_))); clear hK)); refine hK _ _ (cl_id ?_); clear hK)) | (refine jend_go [(8, [2, 3]), (7, [4, 13, 14]), (6, [4, 13, 14]), (5, [4, 13, 14, 15]), (4, [4, 13, 14]), (3, [0, 4]), (2, [2, 3]), (1, [0, 10]), (0, [0])] ?_; simp only [tabAt_cons, sel_nil, sel_cons, put_at, ofl_cons, ofl_nil, T0_at, List.getElem?_cons_zero, List.getElem?_cons_succ, List.getElem?_nil, Option.getD_some, Option.getD_none, reduceIte, ↓reduceIte, Nat.reduceEqDiff]; refine jl_go ?_) | simp (disch := omega) only [go_sem, n0, hlt] | (refine jc_t ?_) | (refine jc_f ?_) | (refine And.intro (by (first | omega | (simp; done) | (simp; omega))) ?_) | (refine mc_b (fun hs => ?_) fun hs => ?_) | (refine mg_st (fun hs => ?_) fun hs => ?_) | (refine mg_sf (fun hs => ?_) fun hs => ?_) | (refine mall_s (fun hs => ?_) fun hs => ?_) | (refine malln_s (fun hs => ?_) fun hs => ?_) | (refine mpk_s (fun hs => ?_) fun hs => ?_) | ((repeat ((fail_if_success (refine hK _ _ (cl_id ?_))); clear hK)); refine hK _ _ (cl_id ?_); clear hK)))
    exact ⟨_, _, cq_done i (tl := [(0, .tup [.ptr 0 0, .v (.int .i64 0)])]) (fun x hx => by rw [List.mem_singleton.1 hx]; rfl) ⟨⟨⟨by unfold nb; rw [LH_len]; omega, trivial, trivial⟩, Wk.refl _⟩, trivial⟩, rfl, rfl⟩
end Go.Proofs.Ytckppkimjiifpaa
