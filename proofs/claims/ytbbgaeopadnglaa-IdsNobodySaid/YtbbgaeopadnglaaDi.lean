/- The numbers, told by one state: Take, Give, Free, Fork of both, by the machine. No condition but the state's own. -/
import Derived.Test.YtbbgaeopadnglaaDh
import Derived.Test.YtbbgaeopadnglaaDp
set_option linter.unusedSectionVars false
set_option linter.unusedVariables false
set_option linter.unusedSimpArgs false
set_option linter.deprecated false
namespace Go.Am
/-- A contract, its blocks named anew. -/
theorem ACalls.ren {E : Env} {f : FuncId} {al : List AV} {H0 L L2 : Heap} {r0 : AV} (h : ACalls E f al H0 fun r H' => r = r0 ∧ H' = L) (σ : List Nat) (r2 : AV) (hn : σ.take H0.length = List.range H0.length) (hσ : (lv L2 σ).Nodup)
    (hL : okL L2.length (fun r => σ.getD r 0) L L2 σ) (hr : nb L2.length r2 ∧ Wk r0 (amap (fun r => σ.getD r 0) r2)) : ACalls E f al H0 fun r H' => r = r2 ∧ H' = L2 := by
  refine calls_q ⟨h.1, fun w M vs hG hv => (h.2 w M vs hG hv).mono ?_⟩
  rintro e w' ⟨r, H', v, M', rfl, ⟨rfl, rfl⟩, q⟩
  exact ⟨_, _, v, M', rfl, ⟨ofl [(0, r2)], L2, cq_any (tl := [(0, r2)]) σ hn hσ hL ⟨⟨hr.1, hr.2⟩, trivial⟩, rfl, rfl⟩, q⟩
end Go.Am
namespace Go.Ids
open Go.Am
/-- There is such a tick. -/
def tk? (now : Int) : Prop := 0 ≤ now ∧ now ≤ 1099511627776
instance (now : Int) : Decidable (tk? now) := inferInstanceAs (Decidable (_ ∧ _))
def Al.takeS (S : Al) (now : Int) : Al := if tk? now then (match (S.rouse now).free with
    | [] => S.rouse now
    | x :: _ => (S.rouse now).pop (x - S.low).toNat) else S
def Al.takeI (S : Al) (now : Int) : Int := if tk? now then (S.rouse now).free.headD 0 else 0
def Al.takeE (S : Al) (now : Int) : Int := if tk? now then (if (S.rouse now).free = [] then 111 else 0) else 1
def Al.giveS (S : Al) (id now : Int) : Al := if tk? now then (if has S.tk S.low id = true then S.push (id - S.low).toNat now else S) else S
def Al.giveE (S : Al) (id now : Int) : Int := if tk? now then (if has S.tk S.low id = true then 0 else 112) else 1
def Al.freeN (S : Al) (now : Int) : Nat := if tk? now then (S.rouse now).free.length else 0
theorem Al.takeS_ok {S : Al} (h : S.Ok) (now : Int) : (S.takeS now).Ok := by
  unfold Al.takeS
  split
  · split
    · exact h.rouse now
    · next x r e =>
      obtain ⟨k, hk, hx, hg⟩ := (h.rouse now).head e
      have hl : (S.rouse now).low = S.low := rfl
      rw [hl] at hx
      have e2 : (x - S.low).toNat = k := by omega
      rw [e2]
      refine (h.rouse now).pop (r := r) ?_
      rw [e, hl, hx]
  · exact h
theorem has_out {tk : List Bool} {lo id : Int} (h : has tk lo id = true) : ∃ k : Nat, k < tk.length ∧ gt tk k = true ∧ id = lo + (k : Int) ∧ (id - lo).toNat = k := by
  obtain ⟨j, h1, h2, rfl⟩ := mem_tkn.1 (has_iff.1 h)
  exact ⟨j, h1, h2, rfl, by omega⟩
theorem Al.giveS_ok {S : Al} (h : S.Ok) (id now : Int) : (S.giveS id now).Ok := by
  unfold Al.giveS
  split
  · split
    · next h2 =>
      obtain ⟨k, h3, h4, _, h5⟩ := has_out h2
      rw [h5]
      exact h.push h3 h4 now
    · exact h
  · exact h
theorem Al.Ok.lens5 {S : Al} (h : S.Ok) : S.fl.length ≤ 200000 ∧ S.rs.length ≤ 65534 ∧ S.fr ≤ S.fl.length ∧ S.tk.length ≤ 65534 ∧ S.free.length ≤ 65534 := by
  have h1 := h.sum
  have h2 := h.fr
  have h3 := h.lo
  have h4 : S.free.length = S.fl.length - S.fr := by simp [Al.free]
  omega
theorem Al.takeS_tk {S : Al} (now : Int) : (S.takeS now).tk.length = S.tk.length ∧ (S.takeS now).low = S.low ∧ (S.takeS now).quiet = S.quiet := by
  unfold Al.takeS
  split
  · split
    · exact ⟨rfl, rfl, rfl⟩
    · exact ⟨by simp [Al.pop, Al.rouse], rfl, rfl⟩
  · exact ⟨rfl, rfl, rfl⟩
theorem Al.giveS_tk {S : Al} (id now : Int) : (S.giveS id now).tk.length = S.tk.length ∧ (S.giveS id now).low = S.low ∧ (S.giveS id now).quiet = S.quiet := by
  unfold Al.giveS
  split
  · split
    · exact ⟨by simp [Al.push], rfl, rfl⟩
    · exact ⟨rfl, rfl, rfl⟩
  · exact ⟨rfl, rfl, rfl⟩
end Go.Ids
namespace Go.Proofs.Ytbbgaeopadnglaa
open Go.RowKit Go.Cx Go.Am Go.Ids
set_option maxRecDepth 8000
set_option maxHeartbeats 2000000
attribute [local irreducible] ACalls jcall jsame jex jexg jexh jguard jconv jload jpart jstore jbin jslice jidxA jidx jfield jfieldA jbuild jbuildS jmake jappend jlen jpick jres jcnd jcopy jcap jborn jdraw jops jop jstr jstrc jlive jend
attribute [local go_sem] reduceIte Nat.reduceEqDiff Nat.reduceAdd Nat.reduceMul Nat.reduceLT Nat.reduceLeDiff Nat.reduceSub Int.reduceLT Int.reduceLE Int.reduceToNat Int.reduceNeg Int.reduceAdd Int.reduceSub UInt8.reduceToNat Int.reduceEq reduceCtorEq Int.reducePow Int.reduceMul Nat.reducePow E0
attribute [local go_sem ↓] reduceIte
attribute [local go_sem high] chunks_bvs
attribute [local go_sem] Nat.one_ne_zero Nat.zero_ne_one decide_true decide_false Bool.false_eq_true Bool.true_eq_false Bool.not_true Bool.not_false jops_nil jops_one jops_g jg_tt jg_ff jg_tf jg_ft jg_n jop_move jop_assign jop_pick jop_alloc jop_box jop_build jop_buildSlice jop_load jop_store jop_nilCheck jop_bin jop_not jop_convert jop_makeFunc jop_makeSlice jop_slice jop_fieldAddr jop_field jop_indexAddr jop_index jop_extract jop_len jop_append jop_call jload_m jpart_t jpart_f jpick_t jpick_f jpick_b jidxA_ptr jidxA_cptr jidxA_rp jidxA_sl jidxA_hs jidxA_os jidx_agg jidx_str jfield_m jfieldA_m jbuild_m jlen_str jlen_sl jlen_hs jlen_os jlen_mt jlen_nil jslice_sl jslice3_sl jpart_bcl jstr_map jstr_nil jstr_cons jstrc_cons jstrc_int jstrc_nil jstrc_map jconv_sl jconv_hs jconv_os jconv_mt jconv_nil jconv_str mk_toList str_toList str_size mk_size jbin_eq_nn jbin_ne_nn jbin_eq_pn jbin_ne_pn jbin_eq_bb jbin_ne_bb beq_self_eq_true oc_int oc_bool oc_str oc_slice oc_ptr oc_nilF amaps_bcl jslice_hs jslice_os jslice_mt jslice_nil jslice_str jslice_ptr jbuildS_m jappend_m jmake_m jconv_int jstore_ptr jstore_rp jbin_add jbin_sub jbin_mul jbin_lss jbin_leq jbin_gtr jbin_geq jbin_eql jbin_neq jbin_and jbin_or jbin_xor jbin_andNot jbin_str_eql jbin_str_neq jres_nil jres_tmp jres_cell jdraw_nil jdraw_q jdraw_l jdraw_b jdraw_gg jdraw_e jdraw_m jdraw_f jkeep_nil jkeep_cons jsame_rfl locOf_ptr locOf_rp jdraw_w jex_eq jex_all jexg_eq jexh_eq jborn_m jop_copy jcopy_hs jcopy_os jop_cap jcap_mt jcap_nil jbin_eq_sl jbin_ne_sl jbin_eq_hs jbin_ne_hs hget0 hgetk hset0 hsetk List.set_cons_zero List.set_cons_succ put_at ev_tmp ev_const ev_global ev_func aput_some aput_none T0_at ayield place cells1 splice_cs Nat.mul_one Nat.sub_add_cancel Int.cast_ofNat_Int elems source abound afill bfill dest sure one anorm ablock astay cv_int cv_bool cv_str cv_slice cv_ptr cv_nilFunc List.map_cons List.map_nil List.map_toArray List.getElem?_toArray List.getElem?_cons_zero List.getElem?_cons_succ Option.getD_some Option.getD_none Option.map_some Option.map_none Option.bind_some Option.some.injEq Nat.add_zero Nat.zero_add List.drop_zero List.drop_succ_cons List.take_succ_cons List.take_zero List.take_nil List.drop_nil List.length_cons List.length_nil List.length_append List.nil_append List.cons_append List.append_assoc List.append_nil List.append_cancel_left_eq List.cons.injEq if_true if_false true_and and_true or_false false_or ne_eq not_true_eq_false not_false_eq_true Nat.le_refl Int.toNat_natCast List.replicate_succ List.replicate_zero exists_eq List.toList_toArray List.length_map Prod.mk.injEq exists_eq_left exists_eq_left' exists_eq' exists_eq_right' exists_and_left exists_and_right exists_const bvs_len bvs_drop bvs_take bvs_getD splice_bvs splice_row flat_bcl amaps_bvs jpart_bvs List.take_length List.length_drop List.length_take Nat.min_eq_left Nat.min_eq_right amap amaps amapss bmap amapss_bcl back_nil sg_nil back backs sg List.getD_cons_zero List.getD_cons_succ ofl_cons ofl_nil jbin_quo jbin_rem jbin_shl jbin_shr getD_bcl w8_u8 w8_u16 w8_u32 w8_u64 w8_i64 IntWalk.i64_in IntWalk.u64_in IntWalk.u32_in IntWalk.u16_in bits_u8 bits_u16 bits_u32 bits_u64 bits_i64 nbs_bvs gfs_bvs okS okT okL okD wk_rfl wk_any wk_v wk_nil nb_byts nbss_bcl amap_byts frz_v frz_sl frz_byts frz_ptr frz_any frz_mt frzs_bcl nb nbs nbss nbB sh_lt sh_0 sh_at frz Value.int.injEq Value.bool.injEq Value.string.injEq Nat.lt_add_right_iff_pos Nat.lt_irrefl Nat.zero_lt_one gf gfs gfss gfB gfH gfss_bcl byts uvs_len uvs_drop uvs_take uvs_getD splice_uvs nbs_uvs gfs_uvs amaps_uvs jpart_uvs jpart_uvs0 getD_ucl set_ucl b32_xor b32_or b32_and b32_add b32_not b32_shr b32_shl b32_shr3 b32_shr10 jop_cpl sgn_u32 max_u32 flat_ucl zeros8_len zeros32_len okVs_bvs okVs_uvs getI_ucl getI_bcl amapss_ucl w32_in jop_max jop_min jmax_ii jmin_ii uclss_nb uclss_gf chunks1_c chunks1_0 cl1_iii Int.sub_zero undef amapss_set cels_nil cels_len cels_take cels_drop cels_app cels_getD cels_getI cels_nbss cels_gfss cels_amapss cl1_int cl1_bool cl1_ii cl1_ib cl1_iib snoc_int snoc_bool snoc_ii snoc_ib snoc_iib set_int set_bool rep_bool rep_int eqAV scEq Bool.and_true pr_eta okV okVs okEs okA okAs List.not_mem_nil List.mem_cons List.mem_singleton false_and and_false true_or or_true or_self and_self ty1 ty2 ty3 ty4 ty5 ty6 ty7 st7 jeq7 jne7 ty8 st8 jeq8 jne8 ty9 ty10 ty11 ty12 ty13 st13 ty14 st14 ty15 ty16 ty17 ty18 st18 ty19 st19 ty20 ty21 ty22 sl22 ty23 ty24 ty25 ty27 ty28 sl28 ty29 sl29 ty30 ty31 st31 jeq31 jne31 ty32 st32 jeq32 jne32 ty34 ty35 ty36 ty37 ty38 sl38 ty39 ty40 ty41 ty42 ty43 ty44 ty46 ty47 ty48 st48 ty49 st49 ty50 ty51 sl51 ty52 ty53 st53 jeq53 jne53 ty54 st54 jeq54 jne54 ty55 ty56 ty57 ty58 st58 ty59 st59 ty60 st60 ty61 st61 ty62 st62 ty63 st63 ty64 sl64 ty65 ty66 ty67 ty69 ty70 ty72 ty73 ty74 ty75 ty76 ty77 st77 ty78 st78 ty79 ty80 ty81 ty82 ty83 ty84 ty85 ty86 ty87 ty88 ty89 st89 ty90 st90 ty91 ar91 ty92 st92 ty93 st93 ty94 ty95 ty96 ty97 ty98 ty99 ty100 ty101 st101 ty102 st102 ty103 ty104 arn7 arn8 arn13 arn14 arn18 arn19 arn31 arn32 arn48 arn49 arn53 arn54 arn58 arn59 arn60 arn61 arn62 arn63 arn77 arn78 arn89 arn90 arn92 arn93 arn101 arn102 stn91 Try.underlying0 Try.underlying1 Try.underlying2 Try.underlying3 Try.underlying4 Try.underlying5 Try.underlying6 Try.underlying7 Try.underlying8 Try.underlying9 Try.underlying10 Try.underlying11 Try.underlying12 Try.underlying13 Try.underlying14 Try.underlying15 Try.underlying16 Try.underlying17 Try.underlying18 Try.underlying19 Try.underlying20 Try.underlying21 Try.underlying22 Try.underlying23 Try.underlying24 Try.underlying25 Try.underlying26 Try.underlying27 Try.underlying28 Try.underlying29 Try.underlying30 Try.underlying31 Try.underlying32 Try.underlying33 Try.underlying34 Try.underlying35 Try.underlying36 Try.underlying37 Try.underlying38 Try.underlying39 Try.underlying40 Try.underlying41 Try.underlying42 Try.underlying43 Try.underlying44 Try.underlying45 Try.underlying46 Try.underlying47 Try.underlying48 Try.underlying49 Try.underlying50 Try.underlying51 Try.underlying52 Try.underlying53 Try.underlying54 Try.underlying55 Try.underlying56 Try.underlying57 Try.underlying58 Try.underlying59 Try.underlying60 Try.underlying61 Try.underlying62 Try.underlying63 Try.underlying64 Try.underlying65 Try.underlying66 Try.underlying67 Try.underlying68 Try.underlying69 Try.underlying70 Try.underlying71 Try.underlying72 Try.underlying73 Try.underlying74 Try.underlying75 Try.underlying76 Try.underlying77 Try.underlying78 Try.underlying79 Try.underlying80 Try.underlying81 Try.underlying82 Try.underlying83 Try.underlying84 Try.underlying85 Try.underlying86 Try.underlying87 Try.underlying88 Try.underlying89 Try.underlying90 Try.underlying91 Try.underlying92 Try.underlying93 Try.underlying94 Try.underlying95 Try.underlying96 Try.underlying97 Try.underlying98 Try.underlying99 Try.underlying100 Try.underlying101 Try.underlying102 Try.underlying103 Try.underlying104
attribute [local go_sem ←] List.map_take List.map_drop

section
variable (S : Al) (h : S.Ok)
include h
theorem take_u (now : Int) : ACalls E0 12 [.ptr 0 0, .v (.int .i64 now)] [some (.obj [.v (.int .i64 S.low), .v (.int .i64 S.quiet), .hs 1 1 0 S.tk.length, .hs 2 1 0 S.fl.length, .v (.int .i64 (S.fr : Int)), .hs 3 2 0 S.rs.length, .v (.int .i64 0)]), some (.row true 1 (cels S.tk)), some (.row true 1 (cels S.fl)), some (.row true 2 (cels S.rs))] fun r H' => r = .tup [.v (.int .i64 (S.takeI now)), .v (.int .i64 (S.takeE now))] ∧ H' = [some (.obj [.v (.int .i64 (S.takeS now).low), .v (.int .i64 (S.takeS now).quiet), .hs 4 1 0 (S.takeS now).tk.length, .hs 5 1 0 (S.takeS now).fl.length, .v (.int .i64 ((S.takeS now).fr : Int)), .hs 6 2 0 (S.takeS now).rs.length, .v (.int .i64 0)]), none, none, none, some (.row true 1 (cels (S.takeS now).tk)), some (.row true 1 (cels (S.takeS now).fl)), some (.row true 2 (cels (S.takeS now).rs))] := by
  obtain ⟨b1, b2, b3, b4, b5⟩ := h.lens5
  by_cases hn : tk? now
  · cases hf : (S.rouse now).free with
    | nil =>
      have e1 : S.takeI now = 0 := by simp [Al.takeI, hn, hf]
      have e2 : S.takeE now = 111 := by simp [Al.takeE, hn, hf]
      have e3 : S.takeS now = S.rouse now := by simp [Al.takeS, hn, hf]
      rw [e1, e2, e3]
      refine take_none _ _ _ _ _ _ _ h.ne (by omega) (by omega) hn ?_
      have h1 := (h.rouse now).lens5.2.2.1
      have h2 : (S.rouse now).fl.length ≤ (S.rouse now).fr := by
        unfold Al.free at hf
        exact List.drop_eq_nil_iff.1 hf
      exact Nat.le_antisymm h1 h2
    | cons x r =>
      obtain ⟨k, hk, hx, hg⟩ := (h.rouse now).head hf
      have hl : (S.rouse now).low = S.low := rfl
      have ht : (S.rouse now).tk = S.tk := rfl
      rw [hl] at hx
      rw [ht] at hk
      have e1 : S.takeI now = S.low + (k : Int) := by simp [Al.takeI, hn, hf, hx]
      have e2 : S.takeE now = 0 := by simp [Al.takeE, hn, hf]
      have e3 : S.takeS now = (S.rouse now).pop k := by
        have : (x - S.low).toNat = k := by omega
        simp [Al.takeS, hn, hf, this]
      rw [e1, e2, e3]
      have h1 : (S.rouse now).fr < (S.rouse now).fl.length := by
        have := congrArg List.length hf
        simp only [Al.free, List.length_drop, List.length_cons] at this
        omega
      have h3 := h.lo
      have e4 := take_ok S.low S.quiet S.tk S.fl S.fr S.rs now ⟨by omega, by omega⟩ (by omega) (by omega) hn (S.rouse now).fl rfl h1 k hk (by
        have := gt_drop (l := (S.rouse now).fl) (k := (S.rouse now).fr) (i := 0)
        unfold Al.free at hf
        rw [hf, Nat.add_zero] at this
        rw [← hx]
        exact this.symm)
      rw [List.length_set] at e4
      have e5 : ((S.rouse now).pop k).tk.length = S.tk.length := by simp [Al.pop, Al.rouse]
      have e6 : (((S.rouse now).pop k).fr : Int) = if (S.rouse now).fl.length < 2 * (S.fr + 1) then 0 else (S.fr : Int) + 1 := by
        have : ((S.rouse now).pop k).fr = if (S.rouse now).fl.length < 2 * (S.fr + 1) then 0 else S.fr + 1 := rfl
        rw [this]
        split <;> simp
      rw [e5, e6]
      exact e4
  · have e1 : S.takeI now = 0 := by simp [Al.takeI, hn]
    have e2 : S.takeE now = 1 := by simp [Al.takeE, hn]
    have e3 : S.takeS now = S := by simp [Al.takeS, hn]
    rw [e1, e2, e3]
    have := take_tick S.low S.quiet S.tk S.fl S.fr S.rs now h.ne hn
    (refine ACalls.ren ‹_› [0, 1, 2, 3, 1, 2, 3] _ rfl (by simp [lv]) (by (simp (disch := omega) only [go_sem])) ⟨by (simp (disch := omega) only [go_sem]), by (simp (disch := omega) only [go_sem])⟩)
theorem give_u (id now : Int) (hid : id ≤ 9223372036854775807) : ACalls E0 13 [.ptr 0 0, .v (.int .i64 id), .v (.int .i64 now)] [some (.obj [.v (.int .i64 S.low), .v (.int .i64 S.quiet), .hs 1 1 0 S.tk.length, .hs 2 1 0 S.fl.length, .v (.int .i64 (S.fr : Int)), .hs 3 2 0 S.rs.length, .v (.int .i64 0)]), some (.row true 1 (cels S.tk)), some (.row true 1 (cels S.fl)), some (.row true 2 (cels S.rs))] fun r H' => r = .v (.int .i64 (S.giveE id now)) ∧ H' = [some (.obj [.v (.int .i64 (S.giveS id now).low), .v (.int .i64 (S.giveS id now).quiet), .hs 4 1 0 (S.giveS id now).tk.length, .hs 5 1 0 (S.giveS id now).fl.length, .v (.int .i64 ((S.giveS id now).fr : Int)), .hs 6 2 0 (S.giveS id now).rs.length, .v (.int .i64 0)]), none, none, none, some (.row true 1 (cels (S.giveS id now).tk)), some (.row true 1 (cels (S.giveS id now).fl)), some (.row true 2 (cels (S.giveS id now).rs))] := by
  obtain ⟨b1, b2, b3, b4, b5⟩ := h.lens5
  have h3 := h.lo
  by_cases hn : tk? now
  · by_cases hh : has S.tk S.low id = true
    · obtain ⟨k, h5, h4, rfl, h6⟩ := has_out hh
      have e2 : S.giveE (S.low + (k : Int)) now = 0 := by simp [Al.giveE, hn, hh]
      have e3 : S.giveS (S.low + (k : Int)) now = S.push k now := by simp [Al.giveS, hn, hh, h6]
      rw [e2, e3]
      have e4 := give_ok S.low S.quiet S.tk S.fl S.fr S.rs now ⟨by omega, by omega⟩ h.qu (by omega) k h5 h4 hn
      rw [List.length_set] at e4
      have e5 : (S.push k now).tk.length = S.tk.length := by simp [Al.push]
      rw [e5]
      exact e4
    · have e2 : S.giveE id now = 112 := by simp [Al.giveE, hn, hh]
      have e3 : S.giveS id now = S := by simp [Al.giveS, hn, hh]
      rw [e2, e3]
      have := give_no S.low S.quiet S.tk S.fl S.fr S.rs now h.ne h3.1 id hid hn (by simpa using hh)
      (refine ACalls.ren ‹_› [0, 1, 2, 3, 1, 2, 3] _ rfl (by simp [lv]) (by (simp (disch := omega) only [go_sem])) ⟨by (simp (disch := omega) only [go_sem]), by (simp (disch := omega) only [go_sem])⟩)
  · have e2 : S.giveE id now = 1 := by simp [Al.giveE, hn]
    have e3 : S.giveS id now = S := by simp [Al.giveS, hn]
    rw [e2, e3]
    have := give_tick S.low S.quiet S.tk S.fl S.fr S.rs now h.ne id hn
    (refine ACalls.ren ‹_› [0, 1, 2, 3, 1, 2, 3] _ rfl (by simp [lv]) (by (simp (disch := omega) only [go_sem])) ⟨by (simp (disch := omega) only [go_sem]), by (simp (disch := omega) only [go_sem])⟩)
theorem free_u (now : Int) : ACalls E0 15 [.ptr 0 0, .v (.int .i64 now)] [some (.obj [.v (.int .i64 S.low), .v (.int .i64 S.quiet), .hs 1 1 0 S.tk.length, .hs 2 1 0 S.fl.length, .v (.int .i64 (S.fr : Int)), .hs 3 2 0 S.rs.length, .v (.int .i64 0)]), some (.row true 1 (cels S.tk)), some (.row true 1 (cels S.fl)), some (.row true 2 (cels S.rs))] fun r H' => r = .v (.int .i64 (S.freeN now : Int)) ∧ H' = [some (.obj [.v (.int .i64 S.low), .v (.int .i64 S.quiet), .hs 1 1 0 S.tk.length, .hs 2 1 0 S.fl.length, .v (.int .i64 (S.fr : Int)), .hs 3 2 0 S.rs.length, .v (.int .i64 0)]), some (.row true 1 (cels S.tk)), some (.row true 1 (cels S.fl)), some (.row true 2 (cels S.rs))] := by
  obtain ⟨b1, b2, b3, b4, b5⟩ := h.lens5
  by_cases hn : tk? now
  · have e : S.freeN now = S.fl.length - S.fr + (rdF now S.rs).length := by
      rw [Al.freeN, if_pos hn, Al.rouse_free h, List.length_append, Al.free, List.length_drop]
    rw [e]
    exact free_am S.low S.quiet S.tk S.fl S.fr S.rs now h.ne b3 (by omega) (by omega) hn
  · have e : S.freeN now = 0 := by simp [Al.freeN, hn]
    rw [e]
    exact free_no S.low S.quiet S.tk S.fl S.fr S.rs now h.ne hn
theorem fork_u : ACalls E0 22 [.ptr 0 0] [some (.obj [.v (.int .i64 S.low), .v (.int .i64 S.quiet), .hs 1 1 0 S.tk.length, .hs 2 1 0 S.fl.length, .v (.int .i64 (S.fr : Int)), .hs 3 2 0 S.rs.length, .v (.int .i64 0)]), some (.row true 1 (cels S.tk)), some (.row true 1 (cels S.fl)), some (.row true 2 (cels S.rs))] fun r H' => r = .ptr 4 0 ∧ H' = [some (.obj [.v (.int .i64 S.low), .v (.int .i64 S.quiet), .hs 1 1 0 S.tk.length, .hs 2 1 0 S.fl.length, .v (.int .i64 (S.fr : Int)), .hs 3 2 0 S.rs.length, .v (.int .i64 0)]), some (.row true 1 (cels S.tk)), some (.row true 1 (cels S.fl)), some (.row true 2 (cels S.rs)), some (.obj [.v (.int .i64 S.fork.low), .v (.int .i64 S.fork.quiet), .hs 5 1 0 S.fork.tk.length, .hs 6 1 0 S.fork.fl.length, .v (.int .i64 (S.fork.fr : Int)), .hs 7 2 0 S.fork.rs.length, .v (.int .i64 0)]), some (.row true 1 (cels S.fork.tk)), some (.row true 1 (cels S.fork.fl)), some (.row true 2 (cels S.fork.rs))] := by
  obtain ⟨b1, b2, b3, b4, b5⟩ := h.lens5
  exact fork_am S.low S.quiet S.tk S.fl S.fr S.rs h.ne b3 (by omega) (by omega) (by omega)
end
section
variable (S : Al) (h : S.Ok) (used : List Int) (hu : used.Perm (tkn S.low S.tk S.tk.length))
include h hu
theorem rtake_u (now : Int) : ∃ used2 : List Int, used2.Perm (tkn (S.takeS now).low (S.takeS now).tk (S.takeS now).tk.length) ∧ ACalls E0 33 [.ptr 0 0, .v (.int .i64 now)] [some (.obj [.v (.int .i64 S.low), .v (.int .i64 (S.low + (S.tk.length : Int) - 1)), .v (.int .i64 S.quiet), .sl 1 (cels S.free), .sl 1 (cels used), .sl 2 (cels S.rs)])] fun r H' => r = .tup [.v (.int .i64 (S.takeI now)), .v (.int .i64 (S.takeE now))] ∧ H' = [some (.obj [.v (.int .i64 (S.takeS now).low), .v (.int .i64 ((S.takeS now).low + ((S.takeS now).tk.length : Int) - 1)), .v (.int .i64 (S.takeS now).quiet), .sl 1 (cels (S.takeS now).free), .sl 1 (cels used2), .sl 2 (cels (S.takeS now).rs)])] := by
  obtain ⟨b1, b2, b3, b4, b5⟩ := h.lens5
  have hul : used.length ≤ 65534 := by
    have h1 := hu.length_eq
    have h2 := tkn_len S.low S.tk S.tk.length
    omega
  by_cases hn : tk? now
  · have er := Al.rouse_free h now
    cases hf : (S.rouse now).free with
    | nil =>
      have e1 : S.takeI now = 0 := by simp [Al.takeI, hn, hf]
      have e2 : S.takeE now = 111 := by simp [Al.takeE, hn, hf]
      have e3 : S.takeS now = S.rouse now := by simp [Al.takeS, hn, hf]
      rw [hf] at er
      refine ⟨used, by rw [e3]; exact hu, ?_⟩
      rw [e1, e2, e3, hf]
      exact rtake_none S.low _ S.quiet S.free used S.rs now (by omega) (by omega) hn er.symm
    | cons x r =>
      obtain ⟨k, hk, hx, hg⟩ := (h.rouse now).head hf
      have hl : (S.rouse now).low = S.low := rfl
      have ht : (S.rouse now).tk = S.tk := rfl
      have hf2 := hf
      rw [hf] at er
      rw [hl] at hx
      rw [hx] at hf2
      have e1 : S.takeI now = x := by simp [Al.takeI, hn, hf]
      have e2 : S.takeE now = 0 := by simp [Al.takeE, hn, hf]
      have e3 : S.takeS now = (S.rouse now).pop k := by
        have : (x - S.low).toNat = k := by omega
        simp [Al.takeS, hn, hf, this]
      refine ⟨used ++ [x], ?_, ?_⟩
      · rw [e3, hx]
        exact (h.rouse now).takef (k := k) hf2 hu
      · rw [e1, e2, e3]
        have e4 := rtake_ok S.low (S.low + (S.tk.length : Int) - 1) S.quiet S.free used S.rs now (by omega) (by omega) (by omega) hn x r er.symm
        have e5 : ((S.rouse now).pop k).tk.length = S.tk.length := by simp [Al.pop, Al.rouse]
        rw [e5, Al.pop_free, hf]
        exact e4
  · have e1 : S.takeI now = 0 := by simp [Al.takeI, hn]
    have e2 : S.takeE now = 1 := by simp [Al.takeE, hn]
    have e3 : S.takeS now = S := by simp [Al.takeS, hn]
    refine ⟨used, by rw [e3]; exact hu, ?_⟩
    rw [e1, e2, e3]
    exact rtake_tick S.low _ S.quiet S.free used S.rs now hn
theorem has_used (id : Int) : decide (id ∈ used) = has S.tk S.low id := by
  have : id ∈ used ↔ has S.tk S.low id = true := by rw [hu.mem_iff, has_iff]
  cases hh : has S.tk S.low id
  · rw [hh] at this
    simpa using this
  · rw [hh] at this
    simpa using this
theorem rgive_u (id now : Int) : ∃ used2 : List Int, used2.Perm (tkn (S.giveS id now).low (S.giveS id now).tk (S.giveS id now).tk.length) ∧ ACalls E0 35 [.ptr 0 0, .v (.int .i64 id), .v (.int .i64 now)] [some (.obj [.v (.int .i64 S.low), .v (.int .i64 (S.low + (S.tk.length : Int) - 1)), .v (.int .i64 S.quiet), .sl 1 (cels S.free), .sl 1 (cels used), .sl 2 (cels S.rs)])] fun r H' => r = .v (.int .i64 (S.giveE id now)) ∧ H' = [some (.obj [.v (.int .i64 (S.giveS id now).low), .v (.int .i64 ((S.giveS id now).low + ((S.giveS id now).tk.length : Int) - 1)), .v (.int .i64 (S.giveS id now).quiet), .sl 1 (cels (S.giveS id now).free), .sl 1 (cels used2), .sl 2 (cels (S.giveS id now).rs)])] := by
  obtain ⟨b1, b2, b3, b4, b5⟩ := h.lens5
  have hul : used.length ≤ 65534 := by
    have h1 := hu.length_eq
    have h2 := tkn_len S.low S.tk S.tk.length
    omega
  have hd := has_used S h used hu id
  by_cases hn : tk? now
  · by_cases hh : has S.tk S.low id = true
    · rw [hh] at hd
      obtain ⟨k, h5, h4, rfl, h6⟩ := has_out hh
      have e2 : S.giveE (S.low + (k : Int)) now = 0 := by simp [Al.giveE, hn, hh]
      have e3 : S.giveS (S.low + (k : Int)) now = S.push k now := by simp [Al.giveS, hn, hh, h6]
      refine ⟨used.erase (S.low + (k : Int)), by rw [e3]; exact h.givef h5 h4 hu now, ?_⟩
      rw [e2, e3]
      have e4 := rgive_ok S.low (S.low + (S.tk.length : Int) - 1) S.quiet S.free used S.rs now (by omega) (by omega) h.qu (S.low + (k : Int)) hn (of_decide_eq_true hd)
      have e5 : (S.push k now).tk.length = S.tk.length := by simp [Al.push]
      rw [e5]
      exact e4
    · have e2 : S.giveE id now = 112 := by simp [Al.giveE, hn, hh]
      have e3 : S.giveS id now = S := by simp [Al.giveS, hn, hh]
      refine ⟨used, by rw [e3]; exact hu, ?_⟩
      rw [e2, e3]
      exact rgive_no S.low _ S.quiet S.free used S.rs now (by omega) id hn (by simpa using (by rw [hd]; simpa using hh : decide (id ∈ used) = false))
  · have e2 : S.giveE id now = 1 := by simp [Al.giveE, hn]
    have e3 : S.giveS id now = S := by simp [Al.giveS, hn]
    refine ⟨used, by rw [e3]; exact hu, ?_⟩
    rw [e2, e3]
    exact rgive_tick S.low _ S.quiet S.free used S.rs now id hn
theorem rfree_u (now : Int) : ACalls E0 36 [.ptr 0 0, .v (.int .i64 now)] [some (.obj [.v (.int .i64 S.low), .v (.int .i64 (S.low + (S.tk.length : Int) - 1)), .v (.int .i64 S.quiet), .sl 1 (cels S.free), .sl 1 (cels used), .sl 2 (cels S.rs)])] fun r H' => r = .v (.int .i64 (S.freeN now : Int)) ∧ H' = [some (.obj [.v (.int .i64 S.low), .v (.int .i64 (S.low + (S.tk.length : Int) - 1)), .v (.int .i64 S.quiet), .sl 1 (cels S.free), .sl 1 (cels used), .sl 2 (cels S.rs)])] := by
  obtain ⟨b1, b2, b3, b4, b5⟩ := h.lens5
  by_cases hn : tk? now
  · have e : S.freeN now = S.free.length + (rdF now S.rs).length := by
      rw [Al.freeN, if_pos hn, Al.rouse_free h, List.length_append]
    rw [e]
    exact rfree_am S.low _ S.quiet S.free used S.rs now (by omega) (by omega) hn
  · have e : S.freeN now = 0 := by simp [Al.freeN, hn]
    rw [e]
    exact rfree_no S.low _ S.quiet S.free used S.rs now hn
theorem rhas_u (id : Int) : ACalls E0 34 [.ptr 0 0, .v (.int .i64 id)] [some (.obj [.v (.int .i64 S.low), .v (.int .i64 (S.low + (S.tk.length : Int) - 1)), .v (.int .i64 S.quiet), .sl 1 (cels S.free), .sl 1 (cels used), .sl 2 (cels S.rs)])] fun r H' => r = .v (.bool (has S.tk S.low id)) ∧ H' = [some (.obj [.v (.int .i64 S.low), .v (.int .i64 (S.low + (S.tk.length : Int) - 1)), .v (.int .i64 S.quiet), .sl 1 (cels S.free), .sl 1 (cels used), .sl 2 (cels S.rs)])] := by
  have hul : used.length ≤ 65534 := by
    have h1 := hu.length_eq
    have h2 := tkn_len S.low S.tk S.tk.length
    have h3 := h.lens5
    omega
  have := rhas_am S.low (S.low + (S.tk.length : Int) - 1) S.quiet S.free used S.rs (by omega) id
  rw [has_used S h used hu id] at this
  exact this
theorem rfork_u : ACalls E0 37 [.ptr 0 0] [some (.obj [.v (.int .i64 S.low), .v (.int .i64 (S.low + (S.tk.length : Int) - 1)), .v (.int .i64 S.quiet), .sl 1 (cels S.free), .sl 1 (cels used), .sl 2 (cels S.rs)])] fun r H' => r = .ptr 1 0 ∧ H' = [some (.obj [.v (.int .i64 S.low), .v (.int .i64 (S.low + (S.tk.length : Int) - 1)), .v (.int .i64 S.quiet), .sl 1 (cels S.free), .sl 1 (cels used), .sl 2 (cels S.rs)]), some (.obj [.v (.int .i64 S.fork.low), .v (.int .i64 (S.fork.low + (S.fork.tk.length : Int) - 1)), .v (.int .i64 S.fork.quiet), .sl 1 (cels S.fork.free), .sl 1 (cels used), .sl 2 (cels S.fork.rs)])] := by
  rw [Al.fork_free]
  obtain ⟨b1, b2, b3, b4, b5⟩ := h.lens5
  have hul : used.length ≤ 65534 := by
    have h1 := hu.length_eq
    have h2 := tkn_len S.low S.tk S.tk.length
    omega
  exact rfork_am S.low _ S.quiet S.free used S.rs (by omega) (by omega) (by omega)
theorem rtaken_u : ACalls E0 39 [.ptr 0 0] [some (.obj [.v (.int .i64 S.low), .v (.int .i64 (S.low + (S.tk.length : Int) - 1)), .v (.int .i64 S.quiet), .sl 1 (cels S.free), .sl 1 (cels used), .sl 2 (cels S.rs)])] fun r H' => r = .sl 1 (cels (tkn S.low S.tk S.tk.length)) ∧ H' = [some (.obj [.v (.int .i64 S.low), .v (.int .i64 (S.low + (S.tk.length : Int) - 1)), .v (.int .i64 S.quiet), .sl 1 (cels S.free), .sl 1 (cels used), .sl 2 (cels S.rs)])] := by
  have hul : used.length ≤ 65534 := by
    have h1 := hu.length_eq
    have h2 := tkn_len S.low S.tk S.tk.length
    have h3 := h.lens5
    omega
  have := rtaken_am S.low (S.low + (S.tk.length : Int) - 1) S.quiet S.free used S.rs (by omega)
  rw [isort_tkn hu] at this
  exact this
end
end Go.Proofs.Ytbbgaeopadnglaa
