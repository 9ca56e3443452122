/- Law 21's Both: a call of both, by the machine. No condition but bounds of lengths. -/
import Derived.Test.YtckppkimjiifpaaQNj
import Derived.Test.YtckppkimjiifpaaQb1
set_option linter.unusedSectionVars false
set_option linter.unusedVariables false
set_option linter.unusedSimpArgs false
set_option linter.deprecated false
namespace Go.Proofs.Ytckppkimjiifpaa
open Go.RowKit Go.Cx Go.Am
set_option maxRecDepth 8000
set_option maxHeartbeats 2000000
attribute [local irreducible] ACalls jcall jsame jex jexg jexh jguard jconv jload jpart jstore jbin jslice jidxA jidx jfield jfieldA jbuild jbuildS jmake jappend jlen jpick jres jcnd jcopy jcap jborn jdraw jops jop jstr jstrc jlive jend jlenM jmmake jlook jmput jmdel jrange jnext jentry jlk jmp2 jmd2 jlm jrg jnx jny jen jeo
attribute [local go_sem] reduceIte Nat.reduceEqDiff Nat.reduceAdd Nat.reduceMul Nat.reduceLT Nat.reduceLeDiff Nat.reduceSub Int.reduceLT Int.reduceLE Int.reduceToNat Int.reduceNeg Int.reduceAdd Int.reduceSub UInt8.reduceToNat Int.reduceEq reduceCtorEq Int.reducePow Int.reduceMul Nat.reducePow E0
attribute [local go_sem ↓] reduceIte
attribute [local go_sem high] chunks_bvs
attribute [local go_sem] Nat.one_ne_zero Nat.zero_ne_one decide_true decide_false Bool.false_eq_true Bool.true_eq_false Bool.not_true Bool.not_false jops_nil jops_one jops_g jg_tt jg_ff jg_tf jg_ft jg_n jop_move jop_assign jop_pick jop_alloc jop_box jop_build jop_buildSlice jop_load jop_store jop_nilCheck jop_bin jop_not jop_convert jop_makeFunc jop_makeSlice jop_slice jop_fieldAddr jop_field jop_indexAddr jop_index jop_extract jop_len jop_append jop_call jload_m jpart_t jpart_f jpick_t jpick_f jpick_b jidxA_ptr jidxA_sl jidxA_hs jidxA_os jidx_str jfield_m jfieldA_m jbuild_m jlen_str jlen_sl jslice_sl jslice3_sl jstr_map jstrc_cons jstrc_nil jstrc_map jconv_sl jconv_hs jconv_os jconv_mt jconv_nil jconv_str str_toList jbin_eq_nn jbin_ne_nn jbin_eq_pn jbin_ne_pn jbin_eq_bb jbin_ne_bb beq_self_eq_true oc_int oc_bool oc_str oc_slice oc_ptr oc_nilF jbuildS_m jappend_m jconv_int jstore_ptr jbin_add jbin_lss jbin_gtr jbin_geq jbin_eql jbin_neq jres_nil jres_tmp jres_cell jdraw_nil jdraw_q jdraw_l jdraw_b jdraw_gg jdraw_e jdraw_m jdraw_mc jdraw_f jdraw_p jdraw_c bcN_eq convT_m locOf_cptr locCv_int jkeep_nil jkeep_cons jsame_rfl locOf_ptr locOf_rp jdraw_w jex_eq jex_all jexg_eq jexh_eq jborn_m jop_copy jcopy_hs jop_cap jcap_mt jcap_nil jbin_eq_sl hget0 hgetk hset0 hsetk List.set_cons_zero List.set_cons_succ put_at ev_tmp ev_const ev_global ev_func aput_some aput_none T0_at ayield place cells1 splice_cs Nat.mul_one Nat.sub_add_cancel Int.cast_ofNat_Int elems source abound afill bfill dest sure one anorm ablock astay cv_int cv_bool cv_str cv_slice cv_ptr cv_nilFunc List.map_cons List.map_nil List.map_toArray List.getElem?_toArray List.getElem?_cons_zero List.getElem?_cons_succ List.getElem?_nil Option.getD_some Option.getD_none Option.map_some Option.map_none Option.bind_some Option.some.injEq Nat.add_zero Nat.zero_add List.drop_zero List.drop_succ_cons List.take_succ_cons List.take_zero List.take_nil List.drop_nil List.length_cons List.length_nil List.length_append List.nil_append List.cons_append List.append_assoc List.append_nil List.append_cancel_left_eq List.cons.injEq if_true if_false true_and and_true or_false false_or ne_eq not_true_eq_false not_false_eq_true Nat.le_refl Int.toNat_natCast List.replicate_succ List.replicate_zero exists_eq List.toList_toArray List.length_map Prod.mk.injEq exists_eq_left exists_eq_left' exists_eq' exists_eq_right' exists_and_left exists_and_right exists_const flat_bcl List.take_length List.length_drop List.length_take Nat.min_eq_left Nat.min_eq_right amap amaps amapss back_nil back backs sg List.getD_cons_zero List.getD_cons_succ ofl_cons ofl_nil getD_bcl IntWalk.i64_in IntWalk.u64_in IntWalk.u32_in IntWalk.u16_in bits_u8 bits_u16 bits_u32 bits_u64 bits_i64 nbs_bvs okS okT okL okD wk_rfl wk_v frz_v frz_sl frz_ptr frz_any frz_mt nb nbs nbss sh_lt sh_0 sh_at frz Value.int.injEq Value.bool.injEq Value.string.injEq Nat.lt_add_right_iff_pos Nat.lt_irrefl Nat.zero_lt_one gf gfs gfss byts nbs_uvs set_ucl b32_xor b32_not jop_cpl sgn_u32 max_u32 flat_ucl okVs_bvs okVs_uvs getI_ucl getI_bcl jop_max jop_min chunks1_c chunks1_0 cl1_iii Int.sub_zero undef amapss_set cels_nil cels_len cels_take cels_drop cels_app cels_getD cels_nbss cels_amapss cl1_int cl1_bool cl1_ii cl1_ib cl1_iib snoc_int snoc_ib snoc_iib eqAV scEq Bool.and_true pr_eta tgs_nil tgs_snoc tagC_eq rwb_nil jop_makeMap jop_lookup jop_mapUpdate jop_delete jop_range jop_next jop_entry jmmake_m jlook_m jlk_mI jmput_m jmp2_mI jmdel_m jmd2_mB jlenM_m jlm_mB jrange_m jnext_m jnx_m jentry_m jen_m jeo_mS nbB_mI nbB_mSI bmap_mI bmap_mSI mB_nil vI nbB_o nbB_r nbB_i bmap_o bmap_r bmap_i gfB_o gfB_r gfB_i cl1_iiib okV okVs okEs okA okAs List.not_mem_nil List.mem_cons List.mem_singleton false_and and_false true_or or_true or_self and_self ty3 zv3 ty4 jeq7 sl22 ty23 ty30 st30 sl32 ty35 st35 jne35 sl38 ty44 ty49 st49 ty52 sl52 ty54 st54 ty60 ty61 mp61 ty62 sl62 ty64 st64 ty67 st67 ty73 sl73 ty75 st75 ty91 st91 arn35 arn49 arn54 arn64 arn67 arn75 arn91 Try.underlying0 Try.underlying1 Try.underlying2 Try.underlying3 Try.underlying4 Try.underlying5 Try.underlying6 Try.underlying7 Try.underlying8 Try.underlying9 Try.underlying10 Try.underlying11 Try.underlying12 Try.underlying13 Try.underlying14 Try.underlying15 Try.underlying16 Try.underlying17 Try.underlying18 Try.underlying19 Try.underlying20 Try.underlying21 Try.underlying22 Try.underlying23 Try.underlying24 Try.underlying25 Try.underlying26 Try.underlying27 Try.underlying28 Try.underlying29 Try.underlying30 Try.underlying31 Try.underlying32 Try.underlying33 Try.underlying34 Try.underlying35 Try.underlying36 Try.underlying37 Try.underlying38 Try.underlying39 Try.underlying40 Try.underlying41 Try.underlying42 Try.underlying43 Try.underlying44 Try.underlying45 Try.underlying46 Try.underlying47 Try.underlying48 Try.underlying49 Try.underlying50 Try.underlying51 Try.underlying52 Try.underlying53 Try.underlying54 Try.underlying55 Try.underlying56 Try.underlying57 Try.underlying58 Try.underlying59 Try.underlying60 Try.underlying61 Try.underlying62 Try.underlying63 Try.underlying64 Try.underlying65 Try.underlying66 Try.underlying67 Try.underlying68 Try.underlying69 Try.underlying70 Try.underlying71 Try.underlying72 Try.underlying73 Try.underlying74 Try.underlying75 Try.underlying76 Try.underlying77 Try.underlying78 Try.underlying79 Try.underlying80 Try.underlying81 Try.underlying82 Try.underlying83 Try.underlying84 Try.underlying85 Try.underlying86 Try.underlying87 Try.underlying88 Try.underlying89 Try.underlying90 Try.underlying91 Try.underlying92 Try.underlying93 Try.underlying94 Try.underlying95 Try.underlying96 Try.underlying97 Try.underlying98 Try.underlying99 Try.underlying100 Try.underlying101 Try.underlying102 Try.underlying103 Try.underlying104 Try.underlying105 Try.underlying106 Try.underlying107 Try.underlying108 Try.underlying109 Try.underlying110 Try.underlying111 Try.underlying112 Try.underlying113 Try.underlying114 Try.underlying115 Try.underlying116 Try.underlying117 Try.underlying118 Try.underlying119 Try.underlying120 Try.underlying121 Try.underlying122 Try.underlying123 Try.underlying124 Try.underlying125 Try.underlying126 Try.underlying127 Try.underlying128
attribute [local go_sem ←] List.map_take List.map_drop

def CG (b c n : Nat) (st : List Lk) (h r : List One) : Heap := some (.obj [.ptr b 0, .ptr c 0]) :: some (.obj [.v (.int .i64 (n : Int)), .sl 3 (cels h), .sl 3 (cels r)]) :: LHb 2 st
section
variable {b c n : Nat} {st st' : List Lk} {h h' r r' : List One}
theorem CG_len (hst : st.length = n) : (CG b c n st h r).length = 2 * n + 3 := by
  unfold CG
  rw [List.length_cons, List.length_cons, LHb_len]
  omega
theorem CG_0 (L : Heap) : (CG b c n st h r ++ L)[0]? = some (some (.obj [.ptr b 0, .ptr c 0])) := rfl
theorem CG_1 (L : Heap) : (CG b c n st h r ++ L)[1]? = some (some (.obj [.v (.int .i64 (n : Int)), .sl 3 (cels h), .sl 3 (cels r)])) := rfl
theorem CG_s0 (b' c' : Nat) (L : Heap) : (CG b c n st h r ++ L).set 0 (some (.obj [.ptr b' 0, .ptr c' 0])) = CG b' c' n st h r ++ L := rfl
theorem chL (hst : st.length = n) {g : FuncId} {rest : List AV} {r0 : AV} (k : ACalls E0 g (.ptr 0 0 :: rest) (LH st) fun x H' => x = r0 ∧ H' = LH st') (hl : st'.length = n) (hrest : nbs 0 rest) (hr : nb 0 r0) (Y : Heap) : ACalls E0 g (.ptr 2 0 :: rest) (CG b c n st h r ++ Y) fun x H' => x = r0 ∧ H' = CG b c n st' h r ++ Y := by
  have l1 := LH_len st
  have l2 := LHb_len 2 st
  have l3 := LHb_len 2 st'
  have e1 : ∀ (st : List Lk) (k : Nat), (CG b c n st h r ++ Y)[2 + k]? = (LHb 2 st ++ Y)[k]? := fun st k => by rw [Nat.add_comm]; rfl
  have h2 := embL (H := CG b c n st h r ++ Y) (b := 2) (by rw [List.length_append, CG_len hst]; omega) (fun k hk => by rw [e1, List.getElem?_append_left (by omega)]) k (by omega) hrest hr
  unfold ACalls at h2 ⊢
  refine ⟨h2.1, fun w M vs hG hv => (h2.2 w M vs hG hv).mono ?_⟩
  rintro e w' ⟨x, H', v, M', rfl, ⟨rfl, q1, q2, q3⟩, rest⟩
  refine ⟨_, _, v, M', rfl, ⟨rfl, ?_⟩, rest⟩
  rw [List.length_append, CG_len hst] at q1
  apply List.ext_getElem?
  intro q
  by_cases hq : q < 2 * n + 3 + Y.length
  · by_cases h1 : q < 2
    · rw [q3 q (by rw [List.length_append, CG_len hst]; exact hq) (.inl h1)]
      match q, h1 with
      | 0, _ => rfl
      | 1, _ => rfl
    · obtain ⟨k, rfl⟩ : ∃ k, q = 2 + k := ⟨q - 2, by omega⟩
      by_cases h3 : k < (LH st).length
      · rw [q2 k h3, e1, List.getElem?_append_left (by omega)]
      · rw [q3 _ (by rw [List.length_append, CG_len hst]; exact hq) (.inr (by omega)), e1, e1, List.getElem?_append_right (by omega), List.getElem?_append_right (by omega), l2, l3, hst, hl]
  · rw [List.getElem?_eq_none (by omega), List.getElem?_eq_none (by rw [List.length_append, CG_len hl]; omega)]
theorem chR {g : FuncId} {rest : List AV} {r0 : AV} (k : ACalls E0 g (.ptr 0 0 :: rest) [some (.obj [.v (.int .i64 (n : Int)), .sl 3 (cels h), .sl 3 (cels r)])] fun x H' => x = r0 ∧ H' = [some (.obj [.v (.int .i64 (n : Int)), .sl 3 (cels h'), .sl 3 (cels r')])]) (hrest : nbs 0 rest) (hr : nb 0 r0) (Y : Heap) : ACalls E0 g (.ptr 1 0 :: rest) (CG b c n st h r ++ Y) fun x H' => x = r0 ∧ H' = CG b c n st h' r' ++ Y :=
  embR0 (CG_1 Y) nbB_ro nbB_ro hr k hrest
theorem chFork (hst : st.length = n) (k : ACalls E0 24 [.ptr 0 0] (LH st) fun x H' => x = .ptr (LH st).length 0 ∧ H' = LH st ++ LHb (LH st).length st) (Y : Heap) : ACalls E0 24 [.ptr 2 0] (CG b c n st h r ++ Y) fun x H' => x = .ptr (CG b c n st h r ++ Y).length 0 ∧ H' = CG b c n st h r ++ (Y ++ LHb (CG b c n st h r ++ Y).length st) := by
  have l1 := LH_len st
  have l2 := LHb_len 2 st
  obtain ⟨H, hH⟩ : ∃ H, H = CG b c n st h r ++ Y := ⟨_, rfl⟩
  have lH : H.length = 2 * n + 3 + Y.length := by rw [hH, List.length_append, CG_len hst]
  have e1 : ∀ k, H[2 + k]? = (LHb 2 st ++ Y)[k]? := fun k => by rw [hH, Nat.add_comm]; rfl
  have h2 := ACalls.emb (H := H) (Hs' := LH st) (Ns := LHb (LH st).length st) (fun x => 2 + x) (fun r r' _ _ e => by omega) (fun r hr => by omega) k rfl ⟨by unfold nb; omega, trivial⟩ (LH_nbs st) (fun k B hk => by
    have hkl := (List.getElem?_eq_some_iff.1 hk).1
    rw [e1, List.getElem?_append_left (by omega), LHb_get, hk]
    rfl)
  rw [← List.append_assoc, ← hH]
  have e2 : amaps (fun x => 2 + x) [.ptr 0 0] = [.ptr 2 0] := rfl
  rw [e2] at h2
  unfold ACalls at h2 ⊢
  refine ⟨h2.1, fun w M vs hG hv => (h2.2 w M vs hG hv).mono ?_⟩
  rintro e w' ⟨x, H', v, M', rfl, ⟨rfl, q1, q2, q3, q4⟩, rest⟩
  have hp : ∀ x, psi (LH st).length H.length (fun x => 2 + x) ((LH st).length + x) = H.length + x := fun x => by
    unfold psi
    rw [if_neg (by omega), Nat.add_sub_cancel_left]
  refine ⟨_, _, v, M', rfl, ⟨?_, ?_⟩, rest⟩
  · have := hp 0
    rw [Nat.add_zero, Nat.add_zero] at this
    show AV.ptr (psi _ _ _ (LH st).length) 0 = _
    rw [this]
  · apply List.ext_getElem?
    intro q
    by_cases hq : q < H.length
    · rw [List.getElem?_append_left hq]
      by_cases h1 : q < 2
      · exact q3 q hq fun k hk => by omega
      · obtain ⟨k, rfl⟩ : ∃ k, q = 2 + k := ⟨q - 2, by omega⟩
        by_cases h3 : k < (LH st).length
        · rw [q2 k _ (List.getElem?_eq_getElem h3), e1, List.getElem?_append_left (by omega), LHb_get, List.getElem?_eq_getElem h3, Option.map_some]
          congr 1
          cases hB : (LH st)[k] with
          | none => rfl
          | some B =>
            have hnb := LH_nbs st k B (by rw [List.getElem?_eq_getElem h3, hB])
            rw [Option.map_some, Option.map_some, bmap_cong (n := (LH st).length) (fun r hr => psi_lo hr) hnb]
        · exact q3 _ hq fun j hj => by omega
    · obtain ⟨k, rfl⟩ : ∃ k, q = H.length + k := ⟨q - H.length, by omega⟩
      rw [q4, List.getElem?_append_right (by omega), Nat.add_sub_cancel_left, LHb_get, LHb_get, Option.map_map]
      cases hB : (LH st)[k]? with
      | none => rfl
      | some x =>
        cases x with
        | none => rfl
        | some B =>
          have hnb := LH_nbs st k B hB
          show some (some (bmap _ (bmap _ B))) = some (some (bmap _ B))
          rw [bmap_comp, bmap_cong (n := (LH st).length) (fun r _ => hp r) hnb]
theorem chForkR (Y : Heap) (hh : h.length ≤ 1000) (hr : r.length ≤ 1000) : ACalls E0 34 [.ptr 1 0] (CG b c n st h r ++ Y) fun x H' => x = .ptr (CG b c n st h r ++ Y).length 0 ∧ H' = CG b c n st h r ++ (Y ++ [some (.obj [.v (.int .i64 (n : Int)), .sl 3 (cels h), .sl 3 (cels r)])]) := by
  have h2 := embR (H := CG b c n st h r ++ Y) (B' := .obj [.v (.int .i64 (n : Int)), .sl 3 (cels h), .sl 3 (cels r)]) (Ns := [some (.obj [.v (.int .i64 (n : Int)), .sl 3 (cels h), .sl 3 (cels r)])]) (CG_1 Y) nbB_ro (ffork_am n h r hh hr) trivial
  unfold ACalls at h2 ⊢
  refine ⟨h2.1, fun w M vs hG hv => (h2.2 w M vs hG hv).mono ?_⟩
  rintro e w' ⟨x, H', v, M', rfl, ⟨rfl, q1, q2, q3, q4⟩, rest⟩
  have hid : ∀ f, bmap f (.obj [.v (.int .i64 (n : Int)), .sl 3 (cels h), .sl 3 (cels r)]) = .obj [.v (.int .i64 (n : Int)), .sl 3 (cels h), .sl 3 (cels r)] := fun f => bmap_id (n := 0) (fun r hr => absurd hr (Nat.not_lt_zero r)) nbB_ro
  rw [hid] at q2
  refine ⟨_, _, v, M', rfl, ⟨rfl, ?_⟩, rest⟩
  rw [← List.append_assoc]
  apply List.ext_getElem?
  intro q
  by_cases hq : q < (CG b c n st h r ++ Y).length
  · rw [List.getElem?_append_left hq]
    by_cases h1 : q = 1
    · subst h1
      rw [q2]
      rfl
    · exact q3 q hq h1
  · obtain ⟨k, rfl⟩ : ∃ k, q = (CG b c n st h r ++ Y).length + k := ⟨q - (CG b c n st h r ++ Y).length, by omega⟩
    rw [q4, List.getElem?_append_right (by omega), Nat.add_sub_cancel_left]
    cases k with
    | zero => simp only [List.getElem?_cons_zero, Option.map_some, hid]
    | succ k => simp
end
end Go.Proofs.Ytckppkimjiifpaa
