/- The law IdsQuiet, by the machine. No condition but the arguments' own ranges. -/
import Derived.Test.YtbbgaeopadnglaaDl
set_option linter.unusedSectionVars false
set_option linter.unusedVariables false
set_option linter.unusedSimpArgs false
set_option linter.deprecated false
namespace Go.Ids
open Go.Am
section
variable {α : Type} [Cel α]
theorem gtset {l : List α} {k j : Nat} {b : α} (hk : k < l.length) : gt (l.set k b) j = if j = k then b else gt l j := by
  unfold gt
  rw [List.getD_eq_getElem?_getD, List.getElem?_set]
  split
  · rename_i h
    subst h
    simp [hk]
  · rename_i h
    rw [if_neg (fun e => h e.symm), List.getD_eq_getElem?_getD]
/-- A row whose first i elements are a. -/
def fillL (a : α) (l : List α) (i : Nat) : List α := List.replicate i a ++ l.drop i
omit [Cel α] in
theorem fillL_len {a : α} {l : List α} {i : Nat} (h : i ≤ l.length) : (fillL a l i).length = l.length := by simp [fillL]; omega
omit [Cel α] in
theorem fillL_0 {a : α} {l : List α} : fillL a l 0 = l := by simp [fillL]
omit [Cel α] in
theorem fillL_set {a : α} {l : List α} {i : Nat} (h : i < l.length) : (fillL a l i).set i a = fillL a l (i + 1) := by
  unfold fillL
  rw [List.set_append_right _ _ (by simp), List.length_replicate, Nat.sub_self, List.drop_eq_getElem_cons h, List.set_cons_zero, List.replicate_succ', List.append_assoc]
  rfl
omit [Cel α] in
theorem fillL_all {a : α} {l : List α} : fillL a l l.length = List.replicate l.length a := by simp [fillL]
theorem gt_repl {a : α} {n j : Nat} (h : j < n) : gt (List.replicate n a) j = a := by
  unfold gt
  rw [List.getD_eq_getElem?_getD, List.getElem?_replicate, if_pos h]
  rfl
end
/-- What stands at all times: who is taken, when each was given. -/
structure Qt (S : Al) (n : Nat) (q : Int) (gv : List Int) (tn : List Bool) (t : Int) : Prop where
  ok : S.Ok
  lo : S.low = 1
  len : S.tk.length = n
  qu : S.quiet = q
  q0 : q ≤ 255
  gl : gv.length = n + 1
  tl : tn.length = n + 1
  t0 : gt tn 0 = false
  tk : ∀ j, j < n → gt tn (j + 1) = gt S.tk j
  fr : ∀ x ∈ S.free, q ≤ t - gt gv x.toNat
  rs : ∀ p ∈ S.rs, gt gv p.1.toNat + q = p.2
  ti : 0 ≤ t ∧ t ≤ 1099511627776
  gb : ∀ j, j ≤ n → -1099511627776 ≤ gt gv j ∧ gt gv j ≤ 1099511627776
theorem Qt.later {S : Al} {n : Nat} {q t t2 : Int} {gv : List Int} {tn : List Bool} (h : Qt S n q gv tn t) (ht : t ≤ t2) (h2 : t2 ≤ 1099511627776) : Qt S n q gv tn t2 :=
  ⟨h.ok, h.lo, h.len, h.qu, h.q0, h.gl, h.tl, h.t0, h.tk, fun x hx => by have := h.fr x hx; omega, h.rs, ⟨by have := h.ti; omega, h2⟩, h.gb⟩
theorem Qt.rouse {S : Al} {n : Nat} {q t : Int} {gv : List Int} {tn : List Bool} (h : Qt S n q gv tn t) : Qt (S.rouse t) n q gv tn t :=
  ⟨h.ok.rouse t, h.lo, h.len, h.qu, h.q0, h.gl, h.tl, h.t0, h.tk, fun x hx => by
    rw [Al.rouse_free h.ok] at hx
    rcases List.mem_append.1 hx with hx | hx
    · exact h.fr x hx
    · obtain ⟨p, hp, rfl⟩ := List.mem_map.1 hx
      obtain ⟨hp, hr⟩ := List.mem_filter.1 hp
      have h1 := h.rs p hp
      have h2 : p.2 ≤ t := of_decide_eq_true hr
      omega, fun p hp => h.rs p (List.mem_filter.1 hp).1, h.ti, h.gb⟩
theorem Qt.tk? {S : Al} {n : Nat} {q t : Int} {gv : List Int} {tn : List Bool} (h : Qt S n q gv tn t) : tk? t := ⟨h.ti.1, h.ti.2⟩
theorem Qt.none {S : Al} {n : Nat} {q t : Int} {gv : List Int} {tn : List Bool} (h : Qt S n q gv tn t) (hf : (S.rouse t).free = []) : S.takeE t = 111 ∧ Qt (S.takeS t) n q gv tn t := by
  obtain ⟨_, e1, e2⟩ := Al.take_nil h.tk? hf
  exact ⟨e1, by rw [e2]; exact h.rouse⟩
theorem Qt.take {S : Al} {n : Nat} {q t : Int} {gv : List Int} {tn : List Bool} (h : Qt S n q gv tn t) {x : Int} {r : List Int} (hf : (S.rouse t).free = x :: r) : S.takeE t = 0 ∧ S.takeI t = x ∧ ∃ k : Nat, k < n ∧ x = ((k + 1 : Nat) : Int) ∧ gt tn (k + 1) = false ∧ q ≤ t - gt gv (k + 1) ∧ Qt (S.takeS t) n q gv (tn.set (k + 1) true) t := by
  obtain ⟨e1, e2, e3, e4, ⟨k, k1, k2, k3, k4⟩, _⟩ := Al.take_cons h.ok h.tk? hf
  rw [h.lo] at k2
  rw [h.len] at k1
  have hr := h.rouse
  have hx := hr.fr x (by rw [hf]; simp)
  have hxk : x.toNat = k + 1 := by omega
  rw [hxk] at hx
  have htl := h.tl
  refine ⟨e2, e1, k, k1, by omega, by rw [h.tk k k1]; exact k3, hx, ⟨Al.takeS_ok h.ok t, ?_, ?_, ?_, h.q0, h.gl, by simpa using h.tl, ?_, fun j hj => ?_, fun y hy => ?_, fun p hp => ?_, h.ti, h.gb⟩⟩
  · rw [(Al.takeS_tk t).2.1]; exact h.lo
  · rw [(Al.takeS_tk t).1]; exact h.len
  · rw [(Al.takeS_tk t).2.2]; exact h.qu
  · rw [gtset (by omega), if_neg (by omega)]; exact h.t0
  · rw [gtset (by omega), k4, gt_set (by rw [h.len]; exact k1)]
    by_cases e : j = k
    · rw [if_pos (by omega), if_pos e]
    · rw [if_neg (by omega), if_neg e]; exact h.tk j hj
  · rw [e3] at hy
    exact hr.fr y (by rw [hf]; simp [hy])
  · rw [e4] at hp
    exact h.rs p (List.mem_filter.1 hp).1
theorem Qt.has {S : Al} {n : Nat} {q t : Int} {gv : List Int} {tn : List Bool} (h : Qt S n q gv tn t) {i : Nat} (hi : i ≤ n) : has S.tk S.low (i : Int) = gt tn i := by
  cases i with
  | zero =>
    rw [h.t0]
    unfold Ids.has
    rw [h.lo]
    rfl
  | succ j =>
    rw [h.tk j (by omega)]
    unfold Ids.has
    rw [h.lo, show (((j + 1 : Nat) : Int) - 1) = (j : Int) by omega, Int.toNat_natCast, decide_eq_true (by omega), decide_eq_true (by have := h.len; omega)]
    rfl
theorem Qt.giveE {S : Al} {n : Nat} {q t : Int} {gv : List Int} {tn : List Bool} (h : Qt S n q gv tn t) {i : Nat} (hi : i ≤ n) : S.giveE (i : Int) t = if gt tn i = true then 0 else 112 := by
  rw [Al.giveE, if_pos h.tk?, h.has hi]
theorem Qt.give {S : Al} {n : Nat} {q t : Int} {gv : List Int} {tn : List Bool} (h : Qt S n q gv tn t) {i : Nat} (hi : i ≤ n) : Qt (S.giveS (i : Int) t) n q (if gt tn i = true then gv.set i t else gv) (if gt tn i = true then tn.set i false else tn) t := by
  rw [Al.giveS, if_pos h.tk?, h.has hi]
  by_cases hg : gt tn i = true
  · rw [if_pos hg, if_pos hg, if_pos hg]
    have hh := h.has hi
    rw [hg] at hh
    obtain ⟨k, k1, k2, k3, k4⟩ := has_out hh
    rw [h.lo] at k3
    rw [k4]
    have htl := h.tl
    have hgl := h.gl
    have hik : i = k + 1 := by omega
    have hnd := h.ok.nodup
    have hm : (i : Int) ∈ tkn S.low S.tk S.tk.length := has_iff.1 hh
    rw [List.nodup_append] at hnd
    refine ⟨h.ok.push k1 k2 t, h.lo, ?_, h.qu, h.q0, by simpa using h.gl, by simpa using h.tl, ?_, fun j hj => ?_, fun x hx => ?_, fun p hp => ?_, h.ti, fun j hj => ?_⟩
    · show (S.tk.set k false).length = n
      rw [List.length_set]; exact h.len
    · rw [gtset (by omega)]
      split
      · rfl
      · exact h.t0
    · rw [gtset (by omega)]
      show _ = gt (S.tk.set k false) j
      rw [gt_set k1]
      by_cases e : j = k
      · rw [if_pos (by omega), if_pos e]
      · rw [if_neg (by omega), if_neg e]; exact h.tk j hj
    · have hx2 : x ∈ S.free := hx
      have hne : x ≠ (i : Int) := hnd.2.2 x (List.mem_append.2 (.inl hx2)) _ hm
      have hx3 : 1 ≤ x := by
        have := h.ok.all.subset (List.mem_append.2 (.inl (List.mem_append.2 (.inl hx2))))
        obtain ⟨j, _, hj⟩ := mem_idsL.1 this
        rw [h.lo] at hj
        omega
      rw [gtset (by omega), if_neg (by omega)]
      exact h.fr x hx2
    · have hp2 : p ∈ S.rs ++ [(S.low + (k : Int), t + S.quiet)] := hp
      rcases List.mem_append.1 hp2 with hp2 | hp2
      · have hm2 : p.1 ∈ S.rs.map Prod.fst := List.mem_map_of_mem hp2
        have hne : p.1 ≠ (i : Int) := hnd.2.2 p.1 (List.mem_append.2 (.inr hm2)) _ hm
        have hx3 : 1 ≤ p.1 := by
          have := h.ok.all.subset (List.mem_append.2 (.inl (List.mem_append.2 (.inr hm2))))
          obtain ⟨j, _, hj⟩ := mem_idsL.1 this
          rw [h.lo] at hj
          omega
        rw [gtset (by omega), if_neg (by omega)]
        exact h.rs p hp2
      · rw [List.mem_singleton.1 hp2]
        simp only
        rw [gtset (by omega), if_pos (by rw [h.lo]; omega), h.qu]
    · rw [gtset (by omega)]
      split
      · have := h.ti; omega
      · exact h.gb j hj
  · rw [if_neg hg, if_neg hg, if_neg hg]
    exact h
theorem Qt.new {n : Nat} {q : Int} (h1 : 0 < n) (h2 : n ≤ 12) (h3 : 0 ≤ q ∧ q ≤ 255) : Qt (Al.new 1 q n) n q (List.replicate (n + 1) (-1099511627776)) (List.replicate (n + 1) false) 0 := by
  refine ⟨Al.new_ok (by omega) h1 (by omega) (by omega), rfl, by simp [Al.new], rfl, h3.2, by simp, by simp, gt_repl (by omega), fun j hj => ?_, fun x hx => ?_, fun p hp => ?_, by omega, fun j hj => ?_⟩
  · rw [gt_repl (by omega)]
    show _ = gt (List.replicate n false) j
    rw [gt_rep]
  · have hx2 : x ∈ idsL 1 n := hx
    obtain ⟨k, hk, rfl⟩ := mem_idsL.1 hx2
    rw [gt_repl (by omega)]
    omega
  · have hp2 : p ∈ ([] : List (Int × Int)) := hp
    cases hp2
  · rw [gt_repl (by omega)]
    omega
end Go.Ids
namespace Go.Proofs.Ytbbgaeopadnglaa
open Go.RowKit Go.Cx Go.Am Go.Ids
set_option maxRecDepth 8000
set_option maxHeartbeats 2000000
attribute [local irreducible] ACalls jcall jsame jex jexg jexh jguard jconv jload jpart jstore jbin jslice jidxA jidx jfield jfieldA jbuild jbuildS jmake jappend jlen jpick jres jcnd jcopy jcap jborn jdraw jops jop jstr jstrc jlive jend
attribute [local go_sem] reduceIte Nat.reduceEqDiff Nat.reduceAdd Nat.reduceMul Nat.reduceLT Nat.reduceLeDiff Nat.reduceSub Int.reduceLT Int.reduceLE Int.reduceToNat Int.reduceNeg Int.reduceAdd Int.reduceSub UInt8.reduceToNat Int.reduceEq reduceCtorEq Int.reducePow Int.reduceMul Nat.reducePow E0
attribute [local go_sem ↓] reduceIte
attribute [local go_sem high] chunks_bvs
attribute [local go_sem] Nat.one_ne_zero Nat.zero_ne_one decide_true decide_false Bool.false_eq_true Bool.true_eq_false Bool.not_true Bool.not_false jops_nil jops_one jops_g jg_tt jg_ff jg_tf jg_ft jg_n jop_move jop_assign jop_pick jop_alloc jop_box jop_build jop_buildSlice jop_load jop_store jop_nilCheck jop_bin jop_not jop_convert jop_makeFunc jop_makeSlice jop_slice jop_fieldAddr jop_field jop_indexAddr jop_index jop_extract jop_len jop_append jop_call jload_m jpart_t jpart_f jpick_t jpick_f jpick_b jidxA_ptr jidxA_cptr jidxA_rp jidxA_sl jidxA_hs jidxA_os jidx_agg jidx_str jfield_m jfieldA_m jbuild_m jlen_str jlen_sl jlen_hs jlen_os jlen_mt jlen_nil jslice_sl jslice3_sl jpart_bcl jstr_map jstr_nil jstr_cons jstrc_cons jstrc_int jstrc_nil jstrc_map jconv_sl jconv_hs jconv_os jconv_mt jconv_nil jconv_str mk_toList str_toList str_size mk_size jbin_eq_nn jbin_ne_nn jbin_eq_pn jbin_ne_pn jbin_eq_bb jbin_ne_bb beq_self_eq_true oc_int oc_bool oc_str oc_slice oc_ptr oc_nilF amaps_bcl jslice_hs jslice_os jslice_mt jslice_nil jslice_str jslice_ptr jbuildS_m jappend_m jmake_m jconv_int jstore_ptr jstore_rp jbin_add jbin_sub jbin_mul jbin_lss jbin_leq jbin_gtr jbin_geq jbin_eql jbin_neq jbin_and jbin_or jbin_xor jbin_andNot jbin_str_eql jbin_str_neq jres_nil jres_tmp jres_cell jdraw_nil jdraw_q jdraw_l jdraw_b jdraw_gg jdraw_e jdraw_m jdraw_f jkeep_nil jkeep_cons jsame_rfl locOf_ptr locOf_rp jdraw_w jex_eq jex_all jexg_eq jexh_eq jborn_m jop_copy jcopy_hs jcopy_os jop_cap jcap_mt jcap_nil jbin_eq_sl jbin_ne_sl jbin_eq_hs jbin_ne_hs hget0 hgetk hset0 hsetk List.set_cons_zero List.set_cons_succ put_at ev_tmp ev_const ev_global ev_func aput_some aput_none T0_at ayield place cells1 splice_cs Nat.mul_one Nat.sub_add_cancel Int.cast_ofNat_Int elems source abound afill bfill dest sure one anorm ablock astay cv_int cv_bool cv_str cv_slice cv_ptr cv_nilFunc List.map_cons List.map_nil List.map_toArray List.getElem?_toArray List.getElem?_cons_zero List.getElem?_cons_succ Option.getD_some Option.getD_none Option.map_some Option.map_none Option.bind_some Option.some.injEq Nat.add_zero Nat.zero_add List.drop_zero List.drop_succ_cons List.take_succ_cons List.take_zero List.take_nil List.drop_nil List.length_cons List.length_nil List.length_append List.nil_append List.cons_append List.append_assoc List.append_nil List.append_cancel_left_eq List.cons.injEq if_true if_false true_and and_true or_false false_or ne_eq not_true_eq_false not_false_eq_true Nat.le_refl Int.toNat_natCast List.replicate_succ List.replicate_zero exists_eq List.toList_toArray List.length_map Prod.mk.injEq exists_eq_left exists_eq_left' exists_eq' exists_eq_right' exists_and_left exists_and_right exists_const bvs_len bvs_drop bvs_take bvs_getD splice_bvs splice_row flat_bcl amaps_bvs jpart_bvs List.take_length List.length_drop List.length_take Nat.min_eq_left Nat.min_eq_right amap amaps amapss bmap amapss_bcl back_nil sg_nil back backs sg List.getD_cons_zero List.getD_cons_succ ofl_cons ofl_nil jbin_quo jbin_rem jbin_shl jbin_shr getD_bcl w8_u8 w8_u16 w8_u32 w8_u64 w8_i64 IntWalk.i64_in IntWalk.u64_in IntWalk.u32_in IntWalk.u16_in bits_u8 bits_u16 bits_u32 bits_u64 bits_i64 nbs_bvs gfs_bvs okS okT okL okD wk_rfl wk_any wk_v wk_nil nb_byts nbss_bcl amap_byts frz_v frz_sl frz_byts frz_ptr frz_any frz_mt frzs_bcl nb nbs nbss nbB sh_lt sh_0 sh_at frz Value.int.injEq Value.bool.injEq Value.string.injEq Nat.lt_add_right_iff_pos Nat.lt_irrefl Nat.zero_lt_one gf gfs gfss gfB gfH gfss_bcl byts uvs_len uvs_drop uvs_take uvs_getD splice_uvs nbs_uvs gfs_uvs amaps_uvs jpart_uvs jpart_uvs0 getD_ucl set_ucl b32_xor b32_or b32_and b32_add b32_not b32_shr b32_shl b32_shr3 b32_shr10 jop_cpl sgn_u32 max_u32 flat_ucl zeros8_len zeros32_len okVs_bvs okVs_uvs getI_ucl getI_bcl amapss_ucl w32_in jop_max jop_min jmax_ii jmin_ii uclss_nb uclss_gf chunks1_c chunks1_0 cl1_iii Int.sub_zero undef amapss_set cels_nil cels_len cels_take cels_drop cels_app cels_getD cels_getI cels_nbss cels_gfss cels_amapss cl1_int cl1_bool cl1_ii cl1_ib cl1_iib snoc_int snoc_bool snoc_ii snoc_ib snoc_iib set_int set_bool rep_bool rep_int eqAV scEq Bool.and_true pr_eta okV okVs okEs okA okAs List.not_mem_nil List.mem_cons List.mem_singleton false_and and_false true_or or_true or_self and_self ty1 ty2 ty3 ty4 ty5 ty6 ty7 st7 jeq7 jne7 ty8 st8 jeq8 jne8 ty9 ty10 ty11 ty12 ty13 st13 ty14 st14 ty15 ty16 ty17 ty18 st18 ty19 st19 ty20 ty21 ty22 sl22 ty23 ty24 ty25 ty27 ty28 sl28 ty29 sl29 ty30 ty31 st31 jeq31 jne31 ty32 st32 jeq32 jne32 ty34 ty35 ty36 ty37 ty38 sl38 ty39 ty40 ty41 ty42 ty43 ty44 ty46 ty47 ty48 st48 ty49 st49 ty50 ty51 sl51 ty52 ty53 st53 jeq53 jne53 ty54 st54 jeq54 jne54 ty55 ty56 ty57 ty58 st58 ty59 st59 ty60 st60 ty61 st61 ty62 st62 ty63 st63 ty64 sl64 ty65 ty66 ty67 ty69 ty70 ty72 ty73 ty74 ty75 ty76 ty77 st77 ty78 st78 ty79 ty80 ty81 ty82 ty83 ty84 ty85 ty86 ty87 ty88 ty89 st89 ty90 st90 ty91 ar91 ty92 st92 ty93 st93 ty94 ty95 ty96 ty97 ty98 ty99 ty100 ty101 st101 ty102 st102 ty103 ty104 arn7 arn8 arn13 arn14 arn18 arn19 arn31 arn32 arn48 arn49 arn53 arn54 arn58 arn59 arn60 arn61 arn62 arn63 arn77 arn78 arn89 arn90 arn92 arn93 arn101 arn102 stn91 Try.underlying0 Try.underlying1 Try.underlying2 Try.underlying3 Try.underlying4 Try.underlying5 Try.underlying6 Try.underlying7 Try.underlying8 Try.underlying9 Try.underlying10 Try.underlying11 Try.underlying12 Try.underlying13 Try.underlying14 Try.underlying15 Try.underlying16 Try.underlying17 Try.underlying18 Try.underlying19 Try.underlying20 Try.underlying21 Try.underlying22 Try.underlying23 Try.underlying24 Try.underlying25 Try.underlying26 Try.underlying27 Try.underlying28 Try.underlying29 Try.underlying30 Try.underlying31 Try.underlying32 Try.underlying33 Try.underlying34 Try.underlying35 Try.underlying36 Try.underlying37 Try.underlying38 Try.underlying39 Try.underlying40 Try.underlying41 Try.underlying42 Try.underlying43 Try.underlying44 Try.underlying45 Try.underlying46 Try.underlying47 Try.underlying48 Try.underlying49 Try.underlying50 Try.underlying51 Try.underlying52 Try.underlying53 Try.underlying54 Try.underlying55 Try.underlying56 Try.underlying57 Try.underlying58 Try.underlying59 Try.underlying60 Try.underlying61 Try.underlying62 Try.underlying63 Try.underlying64 Try.underlying65 Try.underlying66 Try.underlying67 Try.underlying68 Try.underlying69 Try.underlying70 Try.underlying71 Try.underlying72 Try.underlying73 Try.underlying74 Try.underlying75 Try.underlying76 Try.underlying77 Try.underlying78 Try.underlying79 Try.underlying80 Try.underlying81 Try.underlying82 Try.underlying83 Try.underlying84 Try.underlying85 Try.underlying86 Try.underlying87 Try.underlying88 Try.underlying89 Try.underlying90 Try.underlying91 Try.underlying92 Try.underlying93 Try.underlying94 Try.underlying95 Try.underlying96 Try.underlying97 Try.underlying98 Try.underlying99 Try.underlying100 Try.underlying101 Try.underlying102 Try.underlying103 Try.underlying104
attribute [local go_sem ←] List.map_take List.map_drop

theorem wrap_u64 (x : Int) : ∃ u : Nat, IntKind.u64.wrap x = (u : Int) ∧ u < 18446744073709551616 := by
  refine ⟨(x % 18446744073709551616).toNat, ?_, by omega⟩
  simp [IntKind.wrap, IntKind.bits, IntKind.signed]
  omega
theorem later11_am (t k id now : Int) (ht : 0 ≤ t ∧ t ≤ 1099511627776) : ∃ t2 : Int, t ≤ t2 ∧ t2 ≤ 1099511627776 ∧ ACalls E0 11 [.v (.int .i64 t), .agg [.v (.int .i64 k), .v (.int .i64 id), .v (.int .i64 now)]] [] fun r H' => r = .v (.int .i64 t2) ∧ H' = [] := by
  obtain ⟨u, hu, hu2⟩ := wrap_u64 now
  have hm : (u : Int).tmod 7 = ((u % 7 : Nat) : Int) := rfl
  obtain ⟨m, hm2⟩ : ∃ m, m = u % 7 := ⟨_, rfl⟩
  rw [← hm2] at hm
  have hm3 : m < 7 := by omega
  refine ⟨min (t + (m : Int)) 1099511627776, by omega, by omega, ?_⟩
  clear hm2
  generalize hz : min (t + (m : Int)) 1099511627776 = z
  refine calls_q (calls_of Try.func11 rfl (by kernel_rfl) (by kernel_rfl) (by rw [Try.ntmps11]; exact Nat.le_of_ble_eq_true rfl) (fun hH0 hA0 => ?_)); rw [Try.results11]
  (repeat' (first | (have hs := Mk.out hs; (try simp only [decide_eq_true_eq, decide_eq_false_iff_not, Bool.not_eq_true, Bool.not_eq_false, Bool.not_true, Bool.not_false, Bool.not_eq_eq_eq_not, Bool.and_eq_true, Bool.or_eq_true, beq_iff_eq, bne_iff_ne, beq_eq_false_iff_ne, ne_eq, Classical.not_not, not_true_eq_false, not_false_eq_true, forall_const, Bool.false_eq_true, false_implies, eq_self] at hs); (try (exfalso; omega)); (try simp (disch := omega) only [go_sem, hu, hm, hz, hs])) | (refine z_seqr rfl ?_) | (refine w_seq rfl fun K hK => ?_) | (refine z_reg rfl ?_) | (refine z_cond rfl ?_) | (refine w_skip rfl ?_; ((repeat ((fail_if_success (refine hK _ _ (cl_id ?_))); clear hK)); refine hK _ _ (cl_id ?_); clear hK)) | (refine w_ret rfl ?_; (try dsimp only [anorm, ablock, astay]); refine z_end ?_) | (refine w_block rfl ?_) | (refine w_scope rfl ?_) | (refine w_label rfl ?_; ((repeat ((fail_if_success (refine hK _ _ (cl_id ?_))); clear hK)); refine hK _ _ (cl_id ?_); clear hK)) | (refine w_exit rfl ?_; (try dsimp only [anorm, ablock, astay]); (try simp only [reduceIte, ↓reduceIte, Nat.reduceEqDiff]); ((repeat ((fail_if_success (refine hK _ _ (cl_id ?_))); clear hK)); refine hK _ _ (cl_id ?_); clear hK)) | (refine jend_go [(1, [4]), (0, [0, 3])] ?_; simp only [tabAt_cons, sel_nil, sel_cons, put_at, ofl_cons, ofl_nil, T0_at, List.getElem?_cons_zero, List.getElem?_cons_succ, List.getElem?_nil, Option.getD_some, Option.getD_none, reduceIte, ↓reduceIte, Nat.reduceEqDiff]; refine jl_go ?_) | simp (disch := omega) only [go_sem, hu, hm, hz] | (refine jc_t ?_) | (refine jc_f ?_) | (refine And.intro (by (first | omega | (simp; done) | (simp; omega))) ?_) | (refine mc_b (fun hs => ?_) fun hs => ?_) | (refine mg_st (fun hs => ?_) fun hs => ?_) | (refine mg_sf (fun hs => ?_) fun hs => ?_) | (refine mall_s (fun hs => ?_) fun hs => ?_) | (refine malln_s (fun hs => ?_) fun hs => ?_) | (refine mpk_s (fun hs => ?_) fun hs => ?_) | ((repeat ((fail_if_success (refine hK _ _ (cl_id ?_))); clear hK)); refine hK _ _ (cl_id ?_); clear hK)))
  exact end_d 0 ⟨rfl, rfl⟩ ⟨by (simp (disch := omega) only [go_sem]), by (simp (disch := omega) only [go_sem])⟩
theorem quiet11_am (hi qu : Nat) (ops : List (Int × Int × Int)) (h1 : hi ≤ 255) (h2 : qu ≤ 255) : ACalls E0 3 [.v (.int .u8 (hi : Int)), .v (.int .u8 (qu : Int)), .sl 3 (cels ops)] [] fun r _ => r = .v (.bool true) := by
  obtain ⟨q, hq⟩ : ∃ q : Nat, (hi : Int).tmod 12 = (q : Int) ∧ q < 12 := ⟨hi % 12, rfl, by omega⟩
  obtain ⟨hq, hq2⟩ := hq
  have n1 := new_u 1 (qu : Int) (1 + q) (by omega) (by omega) (by omega) (by omega)
  have e1 : 1 + ((1 + q : Nat) : Int) - 1 = 1 + (q : Int) := by omega
  have k0 := Qt.new (n := 1 + q) (q := (qu : Int)) (by omega) (by omega) (by omega)
  rw [e1] at n1
  generalize Al.new 1 (qu : Int) (1 + q) = S0 at n1 k0
  obtain ⟨N, hN⟩ : ∃ N, N = 1 + q + 1 := ⟨_, rfl⟩
  have e2 : (1 + (q : Int) + 1).toNat = N := by omega
  rw [← hN] at k0
  have lN : (List.replicate N (0 : Int)).length = N := List.length_replicate
  have hf0 : fillL (-1099511627776) (List.replicate N (0 : Int)) 0 = List.replicate N (0 : Int) := fillL_0
  have hfa : fillL (-1099511627776) (List.replicate N (0 : Int)) N = List.replicate N (-1099511627776) := by
    have := fillL_all (a := (-1099511627776 : Int)) (l := List.replicate N (0 : Int))
    rwa [lN] at this
  refine calls_q (calls_of Try.func3 rfl (by kernel_rfl) (by kernel_rfl) (by rw [Try.ntmps3]; exact Nat.le_of_ble_eq_true rfl) (fun hH0 hA0 => ?_)); rw [Try.results3]
  (repeat' (first | (have hs := Mk.out hs; (try simp only [decide_eq_true_eq, decide_eq_false_iff_not, Bool.not_eq_true, Bool.not_eq_false, Bool.not_true, Bool.not_false, Bool.not_eq_eq_eq_not, Bool.and_eq_true, Bool.or_eq_true, beq_iff_eq, bne_iff_ne, beq_eq_false_iff_ne, ne_eq, Classical.not_not, not_true_eq_false, not_false_eq_true, forall_const, Bool.false_eq_true, false_implies, eq_self] at hs); (try (exfalso; omega)); (try simp (disch := omega) only [go_sem, hq, e2, hs])) | (refine z_seqr rfl ?_) | (refine z_seqd 25 [.q, .q, .q, (.f [5]), .q, .q, .q, .q, (.m 5), .q] rfl (by kernel_rfl) (by kernel_rfl) ?_) | (refine w_seq rfl fun K hK => ?_) | (refine z_reg rfl ?_) | (refine z_cond rfl ?_) | (refine w_skip rfl ?_; ((repeat ((fail_if_success (refine hK _ _ (cl_id ?_))); clear hK)); refine hK _ _ (cl_id ?_); clear hK)) | (refine w_ret rfl ?_; (try dsimp only [anorm, ablock, astay]); refine z_end ?_) | (refine w_block rfl ?_) | (refine w_scope rfl ?_) | (refine w_label rfl ?_; ((repeat ((fail_if_success (refine hK _ _ (cl_id ?_))); clear hK)); refine hK _ _ (cl_id ?_); clear hK)) | (refine w_exit rfl ?_; (try dsimp only [anorm, ablock, astay]); (try simp only [reduceIte, ↓reduceIte, Nat.reduceEqDiff]); ((repeat ((fail_if_success (refine hK _ _ (cl_id ?_))); clear hK)); refine hK _ _ (cl_id ?_); clear hK)) | (refine jend_go [(29, [6]), (16, [1, 2, 7, 8, 10, 11, 13, 14]), (28, [1, 2, 7, 8, 10, 11, 13, 14]), (27, [1, 2, 7, 8, 10, 11, 13, 14, 17, 133]), (26, [6]), (25, [1, 2, 7, 8, 10, 11, 13, 14, 17, 129]), (24, [1, 2, 7, 8, 10, 11, 13, 14, 17]), (23, [1, 2, 7, 8, 10, 11, 13, 14]), (22, [6]), (21, [1, 2, 7, 8, 10, 11, 13, 14, 15, 105]), (20, [1, 2, 7, 8, 10, 11, 13, 14, 15, 81]), (19, [1, 2, 7, 8, 10, 11, 13, 14, 15, 16]), (18, [1, 2, 7, 8, 10, 11, 13, 14, 73]), (17, [1, 2, 7, 8, 10, 11, 13, 14]), (15, [1, 2, 7, 8, 10, 11, 13, 14, 58]), (14, [1, 2, 7, 8, 10, 11, 13, 14]), (13, [1, 2, 7, 8, 10, 11, 13]), (11, [1, 2, 7, 8, 10, 11, 12]), (12, [1, 2, 7, 8, 10, 11, 12]), (10, [1, 2, 7, 8, 10, 11, 12, 45]), (9, [1, 2, 7, 8, 10, 11, 12]), (8, [1, 2, 7, 8, 10, 11]), (7, [1, 2, 7, 8, 10]), (6, [6]), (5, [1, 2, 7, 8, 36]), (4, [1, 2, 7, 8, 9]), (3, [1, 2, 7]), (2, [6]), (1, [0, 1, 2, 19]), (0, [0, 1, 2])] ?_; simp only [tabAt_cons, sel_nil, sel_cons, put_at, ofl_cons, ofl_nil, T0_at, List.getElem?_cons_zero, List.getElem?_cons_succ, List.getElem?_nil, Option.getD_some, Option.getD_none, reduceIte, ↓reduceIte, Nat.reduceEqDiff]; refine jl_go ?_) | simp (disch := omega) only [go_sem, hq, e2] | (refine jc_t ?_) | (refine jc_f ?_) | (refine jx rfl ?_) | (refine jx (fun _ => rfl) ?_) | (refine jxg ⟨rfl, rfl⟩ ?_) | (refine jxh ⟨rfl, rfl⟩ ?_) | (refine jx ⟨by (first | omega | (simp; done) | (simp; omega)), rfl⟩ ?_) | (refine jx (fun _ => ⟨by (first | omega | (simp; done) | (simp; omega)), rfl⟩) ?_) | (refine jxg ⟨by (first | omega | (simp; done) | (simp; omega)), rfl, rfl⟩ ?_) | (refine jxh ⟨by (first | omega | (simp; done) | (simp; omega)), rfl, rfl⟩ ?_) | (refine jx ⟨by (first | omega | (simp; done) | (simp; omega)), by (first | omega | (simp; done) | (simp; omega)), rfl⟩ ?_) | ((first | apply zc (awake11_am) [] | apply jxc (awake11_am) [] | apply jxgc (awake11_am) | apply jxhc (awake11_am) [] | apply jxcl (awake11_am)); (case ok => simp (disch := omega) only [go_sem, cok, sgOk, bcl, implies_true, hq, e2])) | ((first | apply zc (n1) [] | apply jxc (n1) [] | apply jxgc (n1) | apply jxhc (n1) [] | apply jxcl (n1)); (case ok => simp (disch := omega) only [go_sem, cok, sgOk, bcl, implies_true, hq, e2])) | (refine And.intro (by (first | omega | (simp; done) | (simp; omega))) ?_) | (refine mc_b (fun hs => ?_) fun hs => ?_) | (refine mg_st (fun hs => ?_) fun hs => ?_) | (refine mg_sf (fun hs => ?_) fun hs => ?_) | (refine mall_s (fun hs => ?_) fun hs => ?_) | (refine malln_s (fun hs => ?_) fun hs => ?_) | (refine mpk_s (fun hs => ?_) fun hs => ?_) | ((repeat ((fail_if_success (refine hK _ _ (cl_id ?_))); clear hK)); refine hK _ _ (cl_id ?_); clear hK)))
  refine z_loop rfl (fun i => i ≤ N) (fun i => N - i) (fun i => [(1, .v (.int .u8 (qu : Int))), (2, .sl 3 (cels ops)), (7, .v (.int .i64 (1 + (q : Int)))), (8, .ptr 0 0), (10, .hs 4 1 0 N), (11, .hs 5 1 0 N), (12, .v (.int .i64 (i : Int)))]) (fun i => [some (.obj [.v (.int .i64 S0.low), .v (.int .i64 S0.quiet), .hs 1 1 0 S0.tk.length, .hs 2 1 0 S0.fl.length, .v (.int .i64 (S0.fr : Int)), .hs 3 2 0 S0.rs.length, .v (.int .i64 0)]), some (.row true 1 (cels S0.tk)), some (.row true 1 (cels S0.fl)), some (.row true 2 (cels S0.rs)), some (.row true 1 (cels (fillL (-1099511627776) (List.replicate N (0 : Int)) i))), some (.row true 1 (cels (List.replicate N false)))]) 0 (by omega) ?_ ?_
  · rw [hf0]
    refine cq_s ?_
    (simp (disch := omega) only [go_sem])
  intro i hi K hK
  have hfl := fillL_len (a := (-1099511627776 : Int)) (l := List.replicate N (0 : Int)) (i := i) (by rw [lN]; omega)
  rw [lN] at hfl
  by_cases hlt : (i : Int) ≤ 1 + (q : Int)
  · have hset := fillL_set (a := (-1099511627776 : Int)) (l := List.replicate N (0 : Int)) (i := i) (by rw [lN]; omega)
    have hK2 := fun T' H' => hK T' H' (i + 1) (by omega) (by omega)
    clear hK
    generalize fillL (-1099511627776) (List.replicate N (0 : Int)) (i + 1) = F2 at hset hK2
    generalize fillL (-1099511627776) (List.replicate N (0 : Int)) i = F1 at hfl hset ⊢
    generalize List.replicate N false = T1 at hK2 ⊢
    (repeat' (first | (have hs := Mk.out hs; (try simp only [decide_eq_true_eq, decide_eq_false_iff_not, Bool.not_eq_true, Bool.not_eq_false, Bool.not_true, Bool.not_false, Bool.not_eq_eq_eq_not, Bool.and_eq_true, Bool.or_eq_true, beq_iff_eq, bne_iff_ne, beq_eq_false_iff_ne, ne_eq, Classical.not_not, not_true_eq_false, not_false_eq_true, forall_const, Bool.false_eq_true, false_implies, eq_self] at hs); (try (exfalso; omega)); (try simp (disch := omega) only [go_sem, hlt, hset, hs])) | (refine z_seqr rfl ?_) | (refine z_seqd 25 [.q, .q, .q, (.f [5]), .q, .q, .q, .q, (.m 5), .q] rfl (by kernel_rfl) (by kernel_rfl) ?_) | (refine w_seq rfl fun K hK => ?_) | (refine z_reg rfl ?_) | (refine z_cond rfl ?_) | (refine w_skip rfl ?_; ((repeat ((fail_if_success (refine hK _ _ (cl_id ?_))); clear hK)); refine hK _ _ (cl_id ?_); clear hK)) | (refine w_ret rfl ?_; (try dsimp only [anorm, ablock, astay]); refine z_end ?_) | (refine w_block rfl ?_) | (refine w_scope rfl ?_) | (refine w_label rfl ?_; ((repeat ((fail_if_success (refine hK _ _ (cl_id ?_))); clear hK)); refine hK _ _ (cl_id ?_); clear hK)) | (refine w_exit rfl ?_; (try dsimp only [anorm, ablock, astay]); (try simp only [reduceIte, ↓reduceIte, Nat.reduceEqDiff]); ((repeat ((fail_if_success (refine hK _ _ (cl_id ?_))); clear hK)); refine hK _ _ (cl_id ?_); clear hK)) | (refine jend_go [(29, [6]), (16, [1, 2, 7, 8, 10, 11, 13, 14]), (28, [1, 2, 7, 8, 10, 11, 13, 14]), (27, [1, 2, 7, 8, 10, 11, 13, 14, 17, 133]), (26, [6]), (25, [1, 2, 7, 8, 10, 11, 13, 14, 17, 129]), (24, [1, 2, 7, 8, 10, 11, 13, 14, 17]), (23, [1, 2, 7, 8, 10, 11, 13, 14]), (22, [6]), (21, [1, 2, 7, 8, 10, 11, 13, 14, 15, 105]), (20, [1, 2, 7, 8, 10, 11, 13, 14, 15, 81]), (19, [1, 2, 7, 8, 10, 11, 13, 14, 15, 16]), (18, [1, 2, 7, 8, 10, 11, 13, 14, 73]), (17, [1, 2, 7, 8, 10, 11, 13, 14]), (15, [1, 2, 7, 8, 10, 11, 13, 14, 58]), (14, [1, 2, 7, 8, 10, 11, 13, 14]), (13, [1, 2, 7, 8, 10, 11, 13]), (11, [1, 2, 7, 8, 10, 11, 12]), (12, [1, 2, 7, 8, 10, 11, 12]), (10, [1, 2, 7, 8, 10, 11, 12, 45]), (9, [1, 2, 7, 8, 10, 11, 12]), (8, [1, 2, 7, 8, 10, 11]), (7, [1, 2, 7, 8, 10]), (6, [6]), (5, [1, 2, 7, 8, 36]), (4, [1, 2, 7, 8, 9]), (3, [1, 2, 7]), (2, [6]), (1, [0, 1, 2, 19]), (0, [0, 1, 2])] ?_; simp only [tabAt_cons, sel_nil, sel_cons, put_at, ofl_cons, ofl_nil, T0_at, List.getElem?_cons_zero, List.getElem?_cons_succ, List.getElem?_nil, Option.getD_some, Option.getD_none, reduceIte, ↓reduceIte, Nat.reduceEqDiff]; refine jl_go ?_) | simp (disch := omega) only [go_sem, hlt, hset] | (refine jc_t ?_) | (refine jc_f ?_) | (refine jx rfl ?_) | (refine jx (fun _ => rfl) ?_) | (refine jxg ⟨rfl, rfl⟩ ?_) | (refine jxh ⟨rfl, rfl⟩ ?_) | (refine jx ⟨by (first | omega | (simp; done) | (simp; omega)), rfl⟩ ?_) | (refine jx (fun _ => ⟨by (first | omega | (simp; done) | (simp; omega)), rfl⟩) ?_) | (refine jxg ⟨by (first | omega | (simp; done) | (simp; omega)), rfl, rfl⟩ ?_) | (refine jxh ⟨by (first | omega | (simp; done) | (simp; omega)), rfl, rfl⟩ ?_) | (refine jx ⟨by (first | omega | (simp; done) | (simp; omega)), by (first | omega | (simp; done) | (simp; omega)), rfl⟩ ?_) | (refine And.intro (by (first | omega | (simp; done) | (simp; omega))) ?_) | (refine mc_b (fun hs => ?_) fun hs => ?_) | (refine mg_st (fun hs => ?_) fun hs => ?_) | (refine mg_sf (fun hs => ?_) fun hs => ?_) | (refine mall_s (fun hs => ?_) fun hs => ?_) | (refine malln_s (fun hs => ?_) fun hs => ?_) | (refine mpk_s (fun hs => ?_) fun hs => ?_) | ((repeat ((fail_if_success (refine hK _ _ (cl_id ?_))); clear hK)); refine hK _ _ (cl_id ?_); clear hK)))
    refine hK2 _ _ (cq_s ?_)
    (simp (disch := omega) only [go_sem])
    omega
  obtain rfl : i = N := by omega
  rw [hfa] at *
  clear hK hfl hf0 lN e1 n1
  (repeat' (first | (have hs := Mk.out hs; (try simp only [decide_eq_true_eq, decide_eq_false_iff_not, Bool.not_eq_true, Bool.not_eq_false, Bool.not_true, Bool.not_false, Bool.not_eq_eq_eq_not, Bool.and_eq_true, Bool.or_eq_true, beq_iff_eq, bne_iff_ne, beq_eq_false_iff_ne, ne_eq, Classical.not_not, not_true_eq_false, not_false_eq_true, forall_const, Bool.false_eq_true, false_implies, eq_self] at hs); (try (exfalso; omega)); (try simp (disch := omega) only [go_sem, hlt, hs])) | (refine z_seqr rfl ?_) | (refine z_seqd 25 [.q, .q, .q, (.f [5]), .q, .q, .q, .q, (.m 5), .q] rfl (by kernel_rfl) (by kernel_rfl) ?_) | (refine w_seq rfl fun K hK => ?_) | (refine z_reg rfl ?_) | (refine z_cond rfl ?_) | (refine w_skip rfl ?_; ((repeat ((fail_if_success (refine hK _ _ (cl_id ?_))); clear hK)); refine hK _ _ (cl_id ?_); clear hK)) | (refine w_ret rfl ?_; (try dsimp only [anorm, ablock, astay]); refine z_end ?_) | (refine w_block rfl ?_) | (refine w_scope rfl ?_) | (refine w_label rfl ?_; ((repeat ((fail_if_success (refine hK _ _ (cl_id ?_))); clear hK)); refine hK _ _ (cl_id ?_); clear hK)) | (refine w_exit rfl ?_; (try dsimp only [anorm, ablock, astay]); (try simp only [reduceIte, ↓reduceIte, Nat.reduceEqDiff]); ((repeat ((fail_if_success (refine hK _ _ (cl_id ?_))); clear hK)); refine hK _ _ (cl_id ?_); clear hK)) | (refine jend_go [(29, [6]), (16, [1, 2, 7, 8, 10, 11, 13, 14]), (28, [1, 2, 7, 8, 10, 11, 13, 14]), (27, [1, 2, 7, 8, 10, 11, 13, 14, 17, 133]), (26, [6]), (25, [1, 2, 7, 8, 10, 11, 13, 14, 17, 129]), (24, [1, 2, 7, 8, 10, 11, 13, 14, 17]), (23, [1, 2, 7, 8, 10, 11, 13, 14]), (22, [6]), (21, [1, 2, 7, 8, 10, 11, 13, 14, 15, 105]), (20, [1, 2, 7, 8, 10, 11, 13, 14, 15, 81]), (19, [1, 2, 7, 8, 10, 11, 13, 14, 15, 16]), (18, [1, 2, 7, 8, 10, 11, 13, 14, 73]), (17, [1, 2, 7, 8, 10, 11, 13, 14]), (15, [1, 2, 7, 8, 10, 11, 13, 14, 58]), (14, [1, 2, 7, 8, 10, 11, 13, 14]), (13, [1, 2, 7, 8, 10, 11, 13]), (11, [1, 2, 7, 8, 10, 11, 12]), (12, [1, 2, 7, 8, 10, 11, 12]), (10, [1, 2, 7, 8, 10, 11, 12, 45]), (9, [1, 2, 7, 8, 10, 11, 12]), (8, [1, 2, 7, 8, 10, 11]), (7, [1, 2, 7, 8, 10]), (6, [6]), (5, [1, 2, 7, 8, 36]), (4, [1, 2, 7, 8, 9]), (3, [1, 2, 7]), (2, [6]), (1, [0, 1, 2, 19]), (0, [0, 1, 2])] ?_; simp only [tabAt_cons, sel_nil, sel_cons, put_at, ofl_cons, ofl_nil, T0_at, List.getElem?_cons_zero, List.getElem?_cons_succ, List.getElem?_nil, Option.getD_some, Option.getD_none, reduceIte, ↓reduceIte, Nat.reduceEqDiff]; refine jl_go ?_) | simp (disch := omega) only [go_sem, hlt] | (refine jc_t ?_) | (refine jc_f ?_) | (refine jx rfl ?_) | (refine jx (fun _ => rfl) ?_) | (refine jxg ⟨rfl, rfl⟩ ?_) | (refine jxh ⟨rfl, rfl⟩ ?_) | (refine jx ⟨by (first | omega | (simp; done) | (simp; omega)), rfl⟩ ?_) | (refine jx (fun _ => ⟨by (first | omega | (simp; done) | (simp; omega)), rfl⟩) ?_) | (refine jxg ⟨by (first | omega | (simp; done) | (simp; omega)), rfl, rfl⟩ ?_) | (refine jxh ⟨by (first | omega | (simp; done) | (simp; omega)), rfl, rfl⟩ ?_) | (refine jx ⟨by (first | omega | (simp; done) | (simp; omega)), by (first | omega | (simp; done) | (simp; omega)), rfl⟩ ?_) | (refine And.intro (by (first | omega | (simp; done) | (simp; omega))) ?_) | (refine mc_b (fun hs => ?_) fun hs => ?_) | (refine mg_st (fun hs => ?_) fun hs => ?_) | (refine mg_sf (fun hs => ?_) fun hs => ?_) | (refine mall_s (fun hs => ?_) fun hs => ?_) | (refine malln_s (fun hs => ?_) fun hs => ?_) | (refine mpk_s (fun hs => ?_) fun hs => ?_) | ((repeat ((fail_if_success (refine hK _ _ (cl_id ?_))); clear hK)); refine hK _ _ (cl_id ?_); clear hK)))
  generalize hGV : List.replicate i (-1099511627776 : Int) = gv0 at k0 ⊢
  generalize hTN : List.replicate i false = tn0 at k0 ⊢
  clear hGV hTN hfa
  refine z_loop (α := Nat × Al × List Int × List Bool × Int) rfl (fun x => x.1 ≤ ops.length ∧ x.1 ≤ 120 ∧ Qt x.2.1 (1 + q) (qu : Int) x.2.2.1 x.2.2.2.1 x.2.2.2.2) (fun x => 120 - x.1) (fun x => [(1, .v (.int .u8 (qu : Int))), (2, .sl 3 (cels ops)), (7, .v (.int .i64 (1 + (q : Int)))), (8, .ptr 0 0), (10, .hs 4 1 0 i), (11, .hs 5 1 0 i), (13, .v (.int .i64 x.2.2.2.2)), (14, .v (.int .i64 (x.1 : Int)))]) (fun x => [some (.obj [.v (.int .i64 x.2.1.low), .v (.int .i64 x.2.1.quiet), .hs 1 1 0 x.2.1.tk.length, .hs 2 1 0 x.2.1.fl.length, .v (.int .i64 (x.2.1.fr : Int)), .hs 3 2 0 x.2.1.rs.length, .v (.int .i64 0)]), some (.row true 1 (cels x.2.1.tk)), some (.row true 1 (cels x.2.1.fl)), some (.row true 2 (cels x.2.1.rs)), some (.row true 1 (cels x.2.2.1)), some (.row true 1 (cels x.2.2.2.1))]) (0, S0, gv0, tn0, 0) ⟨Nat.zero_le _, Nat.zero_le _, k0⟩ (cq_s ?_) ?_
  · (simp (disch := omega) only [go_sem])
  clear k0
  rintro ⟨j, S, gv, tn, t⟩ ⟨hj1, hj2, hQ⟩ K hK
  simp only at hj1 hj2 hQ ⊢
  by_cases hlt2 : (j : Int) < ops.length
  rotate_left
  · (repeat' (first | (have hs := Mk.out hs; (try simp only [decide_eq_true_eq, decide_eq_false_iff_not, Bool.not_eq_true, Bool.not_eq_false, Bool.not_true, Bool.not_false, Bool.not_eq_eq_eq_not, Bool.and_eq_true, Bool.or_eq_true, beq_iff_eq, bne_iff_ne, beq_eq_false_iff_ne, ne_eq, Classical.not_not, not_true_eq_false, not_false_eq_true, forall_const, Bool.false_eq_true, false_implies, eq_self] at hs); (try (exfalso; omega)); (try simp (disch := omega) only [go_sem, hlt2, hs])) | (refine z_seqr rfl ?_) | (refine z_seqd 25 [.q, .q, .q, (.f [5]), .q, .q, .q, .q, (.m 5), .q] rfl (by kernel_rfl) (by kernel_rfl) ?_) | (refine w_seq rfl fun K hK => ?_) | (refine z_reg rfl ?_) | (refine z_cond rfl ?_) | (refine w_skip rfl ?_; ((repeat ((fail_if_success (refine hK _ _ (cl_id ?_))); clear hK)); refine hK _ _ (cl_id ?_); clear hK)) | (refine w_ret rfl ?_; (try dsimp only [anorm, ablock, astay]); refine z_end ?_) | (refine w_block rfl ?_) | (refine w_scope rfl ?_) | (refine w_label rfl ?_; ((repeat ((fail_if_success (refine hK _ _ (cl_id ?_))); clear hK)); refine hK _ _ (cl_id ?_); clear hK)) | (refine w_exit rfl ?_; (try dsimp only [anorm, ablock, astay]); (try simp only [reduceIte, ↓reduceIte, Nat.reduceEqDiff]); ((repeat ((fail_if_success (refine hK _ _ (cl_id ?_))); clear hK)); refine hK _ _ (cl_id ?_); clear hK)) | (refine jend_go [(29, [6]), (16, [1, 2, 7, 8, 10, 11, 13, 14]), (28, [1, 2, 7, 8, 10, 11, 13, 14]), (27, [1, 2, 7, 8, 10, 11, 13, 14, 17, 133]), (26, [6]), (25, [1, 2, 7, 8, 10, 11, 13, 14, 17, 129]), (24, [1, 2, 7, 8, 10, 11, 13, 14, 17]), (23, [1, 2, 7, 8, 10, 11, 13, 14]), (22, [6]), (21, [1, 2, 7, 8, 10, 11, 13, 14, 15, 105]), (20, [1, 2, 7, 8, 10, 11, 13, 14, 15, 81]), (19, [1, 2, 7, 8, 10, 11, 13, 14, 15, 16]), (18, [1, 2, 7, 8, 10, 11, 13, 14, 73]), (17, [1, 2, 7, 8, 10, 11, 13, 14]), (15, [1, 2, 7, 8, 10, 11, 13, 14, 58]), (14, [1, 2, 7, 8, 10, 11, 13, 14]), (13, [1, 2, 7, 8, 10, 11, 13]), (11, [1, 2, 7, 8, 10, 11, 12]), (12, [1, 2, 7, 8, 10, 11, 12]), (10, [1, 2, 7, 8, 10, 11, 12, 45]), (9, [1, 2, 7, 8, 10, 11, 12]), (8, [1, 2, 7, 8, 10, 11]), (7, [1, 2, 7, 8, 10]), (6, [6]), (5, [1, 2, 7, 8, 36]), (4, [1, 2, 7, 8, 9]), (3, [1, 2, 7]), (2, [6]), (1, [0, 1, 2, 19]), (0, [0, 1, 2])] ?_; simp only [tabAt_cons, sel_nil, sel_cons, put_at, ofl_cons, ofl_nil, T0_at, List.getElem?_cons_zero, List.getElem?_cons_succ, List.getElem?_nil, Option.getD_some, Option.getD_none, reduceIte, ↓reduceIte, Nat.reduceEqDiff]; refine jl_go ?_) | simp (disch := omega) only [go_sem, hlt2] | (refine jc_t ?_) | (refine jc_f ?_) | (refine jx rfl ?_) | (refine jx (fun _ => rfl) ?_) | (refine jxg ⟨rfl, rfl⟩ ?_) | (refine jxh ⟨rfl, rfl⟩ ?_) | (refine jx ⟨by (first | omega | (simp; done) | (simp; omega)), rfl⟩ ?_) | (refine jx (fun _ => ⟨by (first | omega | (simp; done) | (simp; omega)), rfl⟩) ?_) | (refine jxg ⟨by (first | omega | (simp; done) | (simp; omega)), rfl, rfl⟩ ?_) | (refine jxh ⟨by (first | omega | (simp; done) | (simp; omega)), rfl, rfl⟩ ?_) | (refine jx ⟨by (first | omega | (simp; done) | (simp; omega)), by (first | omega | (simp; done) | (simp; omega)), rfl⟩ ?_) | (refine And.intro (by (first | omega | (simp; done) | (simp; omega))) ?_) | (refine mc_b (fun hs => ?_) fun hs => ?_) | (refine mg_st (fun hs => ?_) fun hs => ?_) | (refine mg_sf (fun hs => ?_) fun hs => ?_) | (refine mall_s (fun hs => ?_) fun hs => ?_) | (refine malln_s (fun hs => ?_) fun hs => ?_) | (refine mpk_s (fun hs => ?_) fun hs => ?_) | ((repeat ((fail_if_success (refine hK _ _ (cl_id ?_))); clear hK)); refine hK _ _ (cl_id ?_); clear hK)))
    exact end_d 0 rfl ⟨trivial, by (simp (disch := omega) only [go_sem])⟩
  by_cases hlt3 : (j : Int) < 120
  rotate_left
  · (repeat' (first | (have hs := Mk.out hs; (try simp only [decide_eq_true_eq, decide_eq_false_iff_not, Bool.not_eq_true, Bool.not_eq_false, Bool.not_true, Bool.not_false, Bool.not_eq_eq_eq_not, Bool.and_eq_true, Bool.or_eq_true, beq_iff_eq, bne_iff_ne, beq_eq_false_iff_ne, ne_eq, Classical.not_not, not_true_eq_false, not_false_eq_true, forall_const, Bool.false_eq_true, false_implies, eq_self] at hs); (try (exfalso; omega)); (try simp (disch := omega) only [go_sem, hlt2, hlt3, hs])) | (refine z_seqr rfl ?_) | (refine z_seqd 25 [.q, .q, .q, (.f [5]), .q, .q, .q, .q, (.m 5), .q] rfl (by kernel_rfl) (by kernel_rfl) ?_) | (refine w_seq rfl fun K hK => ?_) | (refine z_reg rfl ?_) | (refine z_cond rfl ?_) | (refine w_skip rfl ?_; ((repeat ((fail_if_success (refine hK _ _ (cl_id ?_))); clear hK)); refine hK _ _ (cl_id ?_); clear hK)) | (refine w_ret rfl ?_; (try dsimp only [anorm, ablock, astay]); refine z_end ?_) | (refine w_block rfl ?_) | (refine w_scope rfl ?_) | (refine w_label rfl ?_; ((repeat ((fail_if_success (refine hK _ _ (cl_id ?_))); clear hK)); refine hK _ _ (cl_id ?_); clear hK)) | (refine w_exit rfl ?_; (try dsimp only [anorm, ablock, astay]); (try simp only [reduceIte, ↓reduceIte, Nat.reduceEqDiff]); ((repeat ((fail_if_success (refine hK _ _ (cl_id ?_))); clear hK)); refine hK _ _ (cl_id ?_); clear hK)) | (refine jend_go [(29, [6]), (16, [1, 2, 7, 8, 10, 11, 13, 14]), (28, [1, 2, 7, 8, 10, 11, 13, 14]), (27, [1, 2, 7, 8, 10, 11, 13, 14, 17, 133]), (26, [6]), (25, [1, 2, 7, 8, 10, 11, 13, 14, 17, 129]), (24, [1, 2, 7, 8, 10, 11, 13, 14, 17]), (23, [1, 2, 7, 8, 10, 11, 13, 14]), (22, [6]), (21, [1, 2, 7, 8, 10, 11, 13, 14, 15, 105]), (20, [1, 2, 7, 8, 10, 11, 13, 14, 15, 81]), (19, [1, 2, 7, 8, 10, 11, 13, 14, 15, 16]), (18, [1, 2, 7, 8, 10, 11, 13, 14, 73]), (17, [1, 2, 7, 8, 10, 11, 13, 14]), (15, [1, 2, 7, 8, 10, 11, 13, 14, 58]), (14, [1, 2, 7, 8, 10, 11, 13, 14]), (13, [1, 2, 7, 8, 10, 11, 13]), (11, [1, 2, 7, 8, 10, 11, 12]), (12, [1, 2, 7, 8, 10, 11, 12]), (10, [1, 2, 7, 8, 10, 11, 12, 45]), (9, [1, 2, 7, 8, 10, 11, 12]), (8, [1, 2, 7, 8, 10, 11]), (7, [1, 2, 7, 8, 10]), (6, [6]), (5, [1, 2, 7, 8, 36]), (4, [1, 2, 7, 8, 9]), (3, [1, 2, 7]), (2, [6]), (1, [0, 1, 2, 19]), (0, [0, 1, 2])] ?_; simp only [tabAt_cons, sel_nil, sel_cons, put_at, ofl_cons, ofl_nil, T0_at, List.getElem?_cons_zero, List.getElem?_cons_succ, List.getElem?_nil, Option.getD_some, Option.getD_none, reduceIte, ↓reduceIte, Nat.reduceEqDiff]; refine jl_go ?_) | simp (disch := omega) only [go_sem, hlt2, hlt3] | (refine jc_t ?_) | (refine jc_f ?_) | (refine jx rfl ?_) | (refine jx (fun _ => rfl) ?_) | (refine jxg ⟨rfl, rfl⟩ ?_) | (refine jxh ⟨rfl, rfl⟩ ?_) | (refine jx ⟨by (first | omega | (simp; done) | (simp; omega)), rfl⟩ ?_) | (refine jx (fun _ => ⟨by (first | omega | (simp; done) | (simp; omega)), rfl⟩) ?_) | (refine jxg ⟨by (first | omega | (simp; done) | (simp; omega)), rfl, rfl⟩ ?_) | (refine jxh ⟨by (first | omega | (simp; done) | (simp; omega)), rfl, rfl⟩ ?_) | (refine jx ⟨by (first | omega | (simp; done) | (simp; omega)), by (first | omega | (simp; done) | (simp; omega)), rfl⟩ ?_) | (refine And.intro (by (first | omega | (simp; done) | (simp; omega))) ?_) | (refine mc_b (fun hs => ?_) fun hs => ?_) | (refine mg_st (fun hs => ?_) fun hs => ?_) | (refine mg_sf (fun hs => ?_) fun hs => ?_) | (refine mall_s (fun hs => ?_) fun hs => ?_) | (refine malln_s (fun hs => ?_) fun hs => ?_) | (refine mpk_s (fun hs => ?_) fun hs => ?_) | ((repeat ((fail_if_success (refine hK _ _ (cl_id ?_))); clear hK)); refine hK _ _ (cl_id ?_); clear hK)))
    exact end_d 0 rfl ⟨trivial, by (simp (disch := omega) only [go_sem])⟩
  obtain ⟨t2, a1, a2, lt⟩ := later11_am t (gt ops j).1 (gt ops j).2.1 (gt ops j).2.2 hQ.ti
  have hQ2 := hQ.later a1 a2
  clear hQ
  have htl := hQ2.tl
  have hgl := hQ2.gl
  have hti := hQ2.ti
  by_cases hk : (gt ops j).1.tmod 2 = 1
  · cases hf : (S.rouse t2).free with
    | nil =>
      obtain ⟨e3, hQ3⟩ := hQ2.none hf
      have u1 := take_u S hQ2.ok t2
      rw [e3] at u1
      have hK2 := fun T' H' => hK T' H' (j + 1, S.takeS t2, gv, tn, t2) ⟨by omega, by omega, hQ3⟩ (by simp only; omega)
      clear hK
      generalize S.takeS t2 = S2 at u1 hK2
      simp only at hK2
      (repeat' (first | (have hs := Mk.out hs; (try simp only [decide_eq_true_eq, decide_eq_false_iff_not, Bool.not_eq_true, Bool.not_eq_false, Bool.not_true, Bool.not_false, Bool.not_eq_eq_eq_not, Bool.and_eq_true, Bool.or_eq_true, beq_iff_eq, bne_iff_ne, beq_eq_false_iff_ne, ne_eq, Classical.not_not, not_true_eq_false, not_false_eq_true, forall_const, Bool.false_eq_true, false_implies, eq_self] at hs); (try (exfalso; omega)); (try simp (disch := omega) only [go_sem, hlt2, hlt3, hk, hs])) | (refine z_seqr rfl ?_) | (refine z_seqd 25 [.q, .q, .q, (.f [5]), .q, .q, .q, .q, (.m 5), .q] rfl (by kernel_rfl) (by kernel_rfl) ?_) | (refine w_seq rfl fun K hK => ?_) | (refine z_reg rfl ?_) | (refine z_cond rfl ?_) | (refine w_skip rfl ?_; ((repeat ((fail_if_success (refine hK _ _ (cl_id ?_))); clear hK)); refine hK _ _ (cl_id ?_); clear hK)) | (refine w_ret rfl ?_; (try dsimp only [anorm, ablock, astay]); refine z_end ?_) | (refine w_block rfl ?_) | (refine w_scope rfl ?_) | (refine w_label rfl ?_; ((repeat ((fail_if_success (refine hK _ _ (cl_id ?_))); clear hK)); refine hK _ _ (cl_id ?_); clear hK)) | (refine w_exit rfl ?_; (try dsimp only [anorm, ablock, astay]); (try simp only [reduceIte, ↓reduceIte, Nat.reduceEqDiff]); ((repeat ((fail_if_success (refine hK _ _ (cl_id ?_))); clear hK)); refine hK _ _ (cl_id ?_); clear hK)) | (refine jend_go [(29, [6]), (16, [1, 2, 7, 8, 10, 11, 13, 14]), (28, [1, 2, 7, 8, 10, 11, 13, 14]), (27, [1, 2, 7, 8, 10, 11, 13, 14, 17, 133]), (26, [6]), (25, [1, 2, 7, 8, 10, 11, 13, 14, 17, 129]), (24, [1, 2, 7, 8, 10, 11, 13, 14, 17]), (23, [1, 2, 7, 8, 10, 11, 13, 14]), (22, [6]), (21, [1, 2, 7, 8, 10, 11, 13, 14, 15, 105]), (20, [1, 2, 7, 8, 10, 11, 13, 14, 15, 81]), (19, [1, 2, 7, 8, 10, 11, 13, 14, 15, 16]), (18, [1, 2, 7, 8, 10, 11, 13, 14, 73]), (17, [1, 2, 7, 8, 10, 11, 13, 14]), (15, [1, 2, 7, 8, 10, 11, 13, 14, 58]), (14, [1, 2, 7, 8, 10, 11, 13, 14]), (13, [1, 2, 7, 8, 10, 11, 13]), (11, [1, 2, 7, 8, 10, 11, 12]), (12, [1, 2, 7, 8, 10, 11, 12]), (10, [1, 2, 7, 8, 10, 11, 12, 45]), (9, [1, 2, 7, 8, 10, 11, 12]), (8, [1, 2, 7, 8, 10, 11]), (7, [1, 2, 7, 8, 10]), (6, [6]), (5, [1, 2, 7, 8, 36]), (4, [1, 2, 7, 8, 9]), (3, [1, 2, 7]), (2, [6]), (1, [0, 1, 2, 19]), (0, [0, 1, 2])] ?_; simp only [tabAt_cons, sel_nil, sel_cons, put_at, ofl_cons, ofl_nil, T0_at, List.getElem?_cons_zero, List.getElem?_cons_succ, List.getElem?_nil, Option.getD_some, Option.getD_none, reduceIte, ↓reduceIte, Nat.reduceEqDiff]; refine jl_go ?_) | simp (disch := omega) only [go_sem, hlt2, hlt3, hk] | (refine jc_t ?_) | (refine jc_f ?_) | (refine jx rfl ?_) | (refine jx (fun _ => rfl) ?_) | (refine jxg ⟨rfl, rfl⟩ ?_) | (refine jxh ⟨rfl, rfl⟩ ?_) | (refine jx ⟨by (first | omega | (simp; done) | (simp; omega)), rfl⟩ ?_) | (refine jx (fun _ => ⟨by (first | omega | (simp; done) | (simp; omega)), rfl⟩) ?_) | (refine jxg ⟨by (first | omega | (simp; done) | (simp; omega)), rfl, rfl⟩ ?_) | (refine jxh ⟨by (first | omega | (simp; done) | (simp; omega)), rfl, rfl⟩ ?_) | (refine jx ⟨by (first | omega | (simp; done) | (simp; omega)), by (first | omega | (simp; done) | (simp; omega)), rfl⟩ ?_) | ((first | apply zc (lt) [] | apply jxc (lt) [] | apply jxgc (lt) | apply jxhc (lt) [] | apply jxcl (lt)); (case ok => simp (disch := omega) only [go_sem, cok, sgOk, bcl, implies_true, hlt2, hlt3, hk])) | ((first | apply zc (u1) [0, 1, 2, 3] | apply jxc (u1) [0, 1, 2, 3] | apply jxgc (u1) | apply jxhc (u1) [0, 1, 2, 3] | apply jxgs (u1) [0, 1, 2, 3]); (case ok => simp (disch := omega) only [go_sem, cok, sgOk, bcl, implies_true, hlt2, hlt3, hk])) | (refine And.intro (by (first | omega | (simp; done) | (simp; omega))) ?_) | (refine mc_b (fun hs => ?_) fun hs => ?_) | (refine mg_st (fun hs => ?_) fun hs => ?_) | (refine mg_sf (fun hs => ?_) fun hs => ?_) | (refine mall_s (fun hs => ?_) fun hs => ?_) | (refine malln_s (fun hs => ?_) fun hs => ?_) | (refine mpk_s (fun hs => ?_) fun hs => ?_) | ((repeat ((fail_if_success (refine hK _ _ (cl_id ?_))); clear hK)); refine hK _ _ (cl_id ?_); clear hK)))
      refine hK2 _ _ (cq_any [0, 6, 7, 8, 4, 5] rfl (by simp [lv]) ?_ ?_)
      · (simp (disch := omega) only [go_sem])
      · (simp (disch := omega) only [go_sem])
        omega
    | cons x r =>
      obtain ⟨e3, e4, k, k1, rfl, k3, k4, hQ3⟩ := hQ2.take hf
      have hgb := hQ2.gb (k + 1) (by omega)
      have u1 := take_u S hQ2.ok t2
      rw [e3, e4] at u1
      have hK2 := fun T' H' => hK T' H' (j + 1, S.takeS t2, gv, tn.set (k + 1) true, t2) ⟨by omega, by omega, hQ3⟩ (by simp only; omega)
      clear hK
      generalize S.takeS t2 = S2 at u1 hK2
      simp only at hK2
      have c1 : ¬ ((k : Int) + 1 < 1) := by omega
      have c2 : ¬ (1 + (q : Int) < (k : Int) + 1) := by omega
      have c3 : ¬ (t2 - gt gv (k + 1) < (qu : Int)) := by omega
      have c4 : ((k : Int) + 1).toNat = k + 1 := by omega
      (repeat' (first | (have hs := Mk.out hs; (try simp only [decide_eq_true_eq, decide_eq_false_iff_not, Bool.not_eq_true, Bool.not_eq_false, Bool.not_true, Bool.not_false, Bool.not_eq_eq_eq_not, Bool.and_eq_true, Bool.or_eq_true, beq_iff_eq, bne_iff_ne, beq_eq_false_iff_ne, ne_eq, Classical.not_not, not_true_eq_false, not_false_eq_true, forall_const, Bool.false_eq_true, false_implies, eq_self] at hs); (try (exfalso; omega)); (try simp (disch := omega) only [go_sem, hlt2, hlt3, hk, c1, c2, c3, c4, k3, hs])) | (refine z_seqr rfl ?_) | (refine z_seqd 25 [.q, .q, .q, (.f [5]), .q, .q, .q, .q, (.m 5), .q] rfl (by kernel_rfl) (by kernel_rfl) ?_) | (refine w_seq rfl fun K hK => ?_) | (refine z_reg rfl ?_) | (refine z_cond rfl ?_) | (refine w_skip rfl ?_; ((repeat ((fail_if_success (refine hK _ _ (cl_id ?_))); clear hK)); refine hK _ _ (cl_id ?_); clear hK)) | (refine w_ret rfl ?_; (try dsimp only [anorm, ablock, astay]); refine z_end ?_) | (refine w_block rfl ?_) | (refine w_scope rfl ?_) | (refine w_label rfl ?_; ((repeat ((fail_if_success (refine hK _ _ (cl_id ?_))); clear hK)); refine hK _ _ (cl_id ?_); clear hK)) | (refine w_exit rfl ?_; (try dsimp only [anorm, ablock, astay]); (try simp only [reduceIte, ↓reduceIte, Nat.reduceEqDiff]); ((repeat ((fail_if_success (refine hK _ _ (cl_id ?_))); clear hK)); refine hK _ _ (cl_id ?_); clear hK)) | (refine jend_go [(29, [6]), (16, [1, 2, 7, 8, 10, 11, 13, 14]), (28, [1, 2, 7, 8, 10, 11, 13, 14]), (27, [1, 2, 7, 8, 10, 11, 13, 14, 17, 133]), (26, [6]), (25, [1, 2, 7, 8, 10, 11, 13, 14, 17, 129]), (24, [1, 2, 7, 8, 10, 11, 13, 14, 17]), (23, [1, 2, 7, 8, 10, 11, 13, 14]), (22, [6]), (21, [1, 2, 7, 8, 10, 11, 13, 14, 15, 105]), (20, [1, 2, 7, 8, 10, 11, 13, 14, 15, 81]), (19, [1, 2, 7, 8, 10, 11, 13, 14, 15, 16]), (18, [1, 2, 7, 8, 10, 11, 13, 14, 73]), (17, [1, 2, 7, 8, 10, 11, 13, 14]), (15, [1, 2, 7, 8, 10, 11, 13, 14, 58]), (14, [1, 2, 7, 8, 10, 11, 13, 14]), (13, [1, 2, 7, 8, 10, 11, 13]), (11, [1, 2, 7, 8, 10, 11, 12]), (12, [1, 2, 7, 8, 10, 11, 12]), (10, [1, 2, 7, 8, 10, 11, 12, 45]), (9, [1, 2, 7, 8, 10, 11, 12]), (8, [1, 2, 7, 8, 10, 11]), (7, [1, 2, 7, 8, 10]), (6, [6]), (5, [1, 2, 7, 8, 36]), (4, [1, 2, 7, 8, 9]), (3, [1, 2, 7]), (2, [6]), (1, [0, 1, 2, 19]), (0, [0, 1, 2])] ?_; simp only [tabAt_cons, sel_nil, sel_cons, put_at, ofl_cons, ofl_nil, T0_at, List.getElem?_cons_zero, List.getElem?_cons_succ, List.getElem?_nil, Option.getD_some, Option.getD_none, reduceIte, ↓reduceIte, Nat.reduceEqDiff]; refine jl_go ?_) | simp (disch := omega) only [go_sem, hlt2, hlt3, hk, c1, c2, c3, c4, k3] | (refine jc_t ?_) | (refine jc_f ?_) | (refine jx rfl ?_) | (refine jx (fun _ => rfl) ?_) | (refine jxg ⟨rfl, rfl⟩ ?_) | (refine jxh ⟨rfl, rfl⟩ ?_) | (refine jx ⟨by (first | omega | (simp; done) | (simp; omega)), rfl⟩ ?_) | (refine jx (fun _ => ⟨by (first | omega | (simp; done) | (simp; omega)), rfl⟩) ?_) | (refine jxg ⟨by (first | omega | (simp; done) | (simp; omega)), rfl, rfl⟩ ?_) | (refine jxh ⟨by (first | omega | (simp; done) | (simp; omega)), rfl, rfl⟩ ?_) | (refine jx ⟨by (first | omega | (simp; done) | (simp; omega)), by (first | omega | (simp; done) | (simp; omega)), rfl⟩ ?_) | ((first | apply zc (lt) [] | apply jxc (lt) [] | apply jxgc (lt) | apply jxhc (lt) [] | apply jxcl (lt)); (case ok => simp (disch := omega) only [go_sem, cok, sgOk, bcl, implies_true, hlt2, hlt3, hk, c1, c2, c3, c4, k3])) | ((first | apply zc (u1) [0, 1, 2, 3] | apply jxc (u1) [0, 1, 2, 3] | apply jxgc (u1) | apply jxhc (u1) [0, 1, 2, 3] | apply jxgs (u1) [0, 1, 2, 3]); (case ok => simp (disch := omega) only [go_sem, cok, sgOk, bcl, implies_true, hlt2, hlt3, hk, c1, c2, c3, c4, k3])) | (refine And.intro (by (first | omega | (simp; done) | (simp; omega))) ?_) | (refine mc_b (fun hs => ?_) fun hs => ?_) | (refine mg_st (fun hs => ?_) fun hs => ?_) | (refine mg_sf (fun hs => ?_) fun hs => ?_) | (refine mall_s (fun hs => ?_) fun hs => ?_) | (refine malln_s (fun hs => ?_) fun hs => ?_) | (refine mpk_s (fun hs => ?_) fun hs => ?_) | ((repeat ((fail_if_success (refine hK _ _ (cl_id ?_))); clear hK)); refine hK _ _ (cl_id ?_); clear hK)))
      refine hK2 _ _ (cq_any [0, 6, 7, 8, 4, 5] rfl (by simp [lv]) ?_ ?_)
      · (simp (disch := omega) only [go_sem])
      · (simp (disch := omega) only [go_sem])
        omega
  · obtain ⟨u, hu, hu2⟩ := wrap_u64 (gt ops j).2.1
    obtain ⟨m, hm, hm2⟩ : ∃ m : Nat, (u : Int).tmod (1 + (q : Int) + 1) = (m : Int) ∧ m ≤ 1 + q := by
      refine ⟨u % (1 + q + 1), ?_, by have := Nat.mod_lt u (show 0 < 1 + q + 1 by omega); omega⟩
      rw [show 1 + (q : Int) + 1 = ((1 + q + 1 : Nat) : Int) by omega]
      rfl
    have hG := hQ2.give hm2
    have hE := hQ2.giveE hm2
    have u1 := give_u S hQ2.ok (m : Int) t2 (by omega)
    rw [hE] at u1
    by_cases hg : gt tn m = true
    · rw [if_pos hg] at u1
      rw [if_pos hg, if_pos hg] at hG
      have hK2 := fun T' H' => hK T' H' (j + 1, S.giveS (m : Int) t2, gv.set m t2, tn.set m false, t2) ⟨by omega, by omega, hG⟩ (by simp only; omega)
      clear hK hE
      generalize S.giveS (m : Int) t2 = S2 at u1 hK2
      simp only at hK2
      (repeat' (first | (have hs := Mk.out hs; (try simp only [decide_eq_true_eq, decide_eq_false_iff_not, Bool.not_eq_true, Bool.not_eq_false, Bool.not_true, Bool.not_false, Bool.not_eq_eq_eq_not, Bool.and_eq_true, Bool.or_eq_true, beq_iff_eq, bne_iff_ne, beq_eq_false_iff_ne, ne_eq, Classical.not_not, not_true_eq_false, not_false_eq_true, forall_const, Bool.false_eq_true, false_implies, eq_self] at hs); (try (exfalso; omega)); (try simp (disch := omega) only [go_sem, hlt2, hlt3, hk, hu, hm, hg, hs])) | (refine z_seqr rfl ?_) | (refine z_seqd 25 [.q, .q, .q, (.f [5]), .q, .q, .q, .q, (.m 5), .q] rfl (by kernel_rfl) (by kernel_rfl) ?_) | (refine w_seq rfl fun K hK => ?_) | (refine z_reg rfl ?_) | (refine z_cond rfl ?_) | (refine w_skip rfl ?_; ((repeat ((fail_if_success (refine hK _ _ (cl_id ?_))); clear hK)); refine hK _ _ (cl_id ?_); clear hK)) | (refine w_ret rfl ?_; (try dsimp only [anorm, ablock, astay]); refine z_end ?_) | (refine w_block rfl ?_) | (refine w_scope rfl ?_) | (refine w_label rfl ?_; ((repeat ((fail_if_success (refine hK _ _ (cl_id ?_))); clear hK)); refine hK _ _ (cl_id ?_); clear hK)) | (refine w_exit rfl ?_; (try dsimp only [anorm, ablock, astay]); (try simp only [reduceIte, ↓reduceIte, Nat.reduceEqDiff]); ((repeat ((fail_if_success (refine hK _ _ (cl_id ?_))); clear hK)); refine hK _ _ (cl_id ?_); clear hK)) | (refine jend_go [(29, [6]), (16, [1, 2, 7, 8, 10, 11, 13, 14]), (28, [1, 2, 7, 8, 10, 11, 13, 14]), (27, [1, 2, 7, 8, 10, 11, 13, 14, 17, 133]), (26, [6]), (25, [1, 2, 7, 8, 10, 11, 13, 14, 17, 129]), (24, [1, 2, 7, 8, 10, 11, 13, 14, 17]), (23, [1, 2, 7, 8, 10, 11, 13, 14]), (22, [6]), (21, [1, 2, 7, 8, 10, 11, 13, 14, 15, 105]), (20, [1, 2, 7, 8, 10, 11, 13, 14, 15, 81]), (19, [1, 2, 7, 8, 10, 11, 13, 14, 15, 16]), (18, [1, 2, 7, 8, 10, 11, 13, 14, 73]), (17, [1, 2, 7, 8, 10, 11, 13, 14]), (15, [1, 2, 7, 8, 10, 11, 13, 14, 58]), (14, [1, 2, 7, 8, 10, 11, 13, 14]), (13, [1, 2, 7, 8, 10, 11, 13]), (11, [1, 2, 7, 8, 10, 11, 12]), (12, [1, 2, 7, 8, 10, 11, 12]), (10, [1, 2, 7, 8, 10, 11, 12, 45]), (9, [1, 2, 7, 8, 10, 11, 12]), (8, [1, 2, 7, 8, 10, 11]), (7, [1, 2, 7, 8, 10]), (6, [6]), (5, [1, 2, 7, 8, 36]), (4, [1, 2, 7, 8, 9]), (3, [1, 2, 7]), (2, [6]), (1, [0, 1, 2, 19]), (0, [0, 1, 2])] ?_; simp only [tabAt_cons, sel_nil, sel_cons, put_at, ofl_cons, ofl_nil, T0_at, List.getElem?_cons_zero, List.getElem?_cons_succ, List.getElem?_nil, Option.getD_some, Option.getD_none, reduceIte, ↓reduceIte, Nat.reduceEqDiff]; refine jl_go ?_) | simp (disch := omega) only [go_sem, hlt2, hlt3, hk, hu, hm, hg] | (refine jc_t ?_) | (refine jc_f ?_) | (refine jx rfl ?_) | (refine jx (fun _ => rfl) ?_) | (refine jxg ⟨rfl, rfl⟩ ?_) | (refine jxh ⟨rfl, rfl⟩ ?_) | (refine jx ⟨by (first | omega | (simp; done) | (simp; omega)), rfl⟩ ?_) | (refine jx (fun _ => ⟨by (first | omega | (simp; done) | (simp; omega)), rfl⟩) ?_) | (refine jxg ⟨by (first | omega | (simp; done) | (simp; omega)), rfl, rfl⟩ ?_) | (refine jxh ⟨by (first | omega | (simp; done) | (simp; omega)), rfl, rfl⟩ ?_) | (refine jx ⟨by (first | omega | (simp; done) | (simp; omega)), by (first | omega | (simp; done) | (simp; omega)), rfl⟩ ?_) | ((first | apply zc (lt) [] | apply jxc (lt) [] | apply jxgc (lt) | apply jxhc (lt) [] | apply jxcl (lt)); (case ok => simp (disch := omega) only [go_sem, cok, sgOk, bcl, implies_true, hlt2, hlt3, hk, hu, hm, hg])) | ((first | apply zc (u1) [0, 1, 2, 3] | apply jxc (u1) [0, 1, 2, 3] | apply jxgc (u1) | apply jxhc (u1) [0, 1, 2, 3] | apply jxgs (u1) [0, 1, 2, 3]); (case ok => simp (disch := omega) only [go_sem, cok, sgOk, bcl, implies_true, hlt2, hlt3, hk, hu, hm, hg])) | (refine And.intro (by (first | omega | (simp; done) | (simp; omega))) ?_) | (refine mc_b (fun hs => ?_) fun hs => ?_) | (refine mg_st (fun hs => ?_) fun hs => ?_) | (refine mg_sf (fun hs => ?_) fun hs => ?_) | (refine mall_s (fun hs => ?_) fun hs => ?_) | (refine malln_s (fun hs => ?_) fun hs => ?_) | (refine mpk_s (fun hs => ?_) fun hs => ?_) | ((repeat ((fail_if_success (refine hK _ _ (cl_id ?_))); clear hK)); refine hK _ _ (cl_id ?_); clear hK)))
      refine hK2 _ _ (cq_any [0, 6, 7, 8, 4, 5] rfl (by simp [lv]) ?_ ?_)
      · (simp (disch := omega) only [go_sem])
      · (simp (disch := omega) only [go_sem])
        omega
    · rw [if_neg hg] at u1
      rw [if_neg hg, if_neg hg] at hG
      have hK2 := fun T' H' => hK T' H' (j + 1, S.giveS (m : Int) t2, gv, tn, t2) ⟨by omega, by omega, hG⟩ (by simp only; omega)
      clear hK hE
      generalize S.giveS (m : Int) t2 = S2 at u1 hK2
      simp only at hK2
      have hg2 : gt tn m = false := by simpa using hg
      (repeat' (first | (have hs := Mk.out hs; (try simp only [decide_eq_true_eq, decide_eq_false_iff_not, Bool.not_eq_true, Bool.not_eq_false, Bool.not_true, Bool.not_false, Bool.not_eq_eq_eq_not, Bool.and_eq_true, Bool.or_eq_true, beq_iff_eq, bne_iff_ne, beq_eq_false_iff_ne, ne_eq, Classical.not_not, not_true_eq_false, not_false_eq_true, forall_const, Bool.false_eq_true, false_implies, eq_self] at hs); (try (exfalso; omega)); (try simp (disch := omega) only [go_sem, hlt2, hlt3, hk, hu, hm, hg2, hs])) | (refine z_seqr rfl ?_) | (refine z_seqd 25 [.q, .q, .q, (.f [5]), .q, .q, .q, .q, (.m 5), .q] rfl (by kernel_rfl) (by kernel_rfl) ?_) | (refine w_seq rfl fun K hK => ?_) | (refine z_reg rfl ?_) | (refine z_cond rfl ?_) | (refine w_skip rfl ?_; ((repeat ((fail_if_success (refine hK _ _ (cl_id ?_))); clear hK)); refine hK _ _ (cl_id ?_); clear hK)) | (refine w_ret rfl ?_; (try dsimp only [anorm, ablock, astay]); refine z_end ?_) | (refine w_block rfl ?_) | (refine w_scope rfl ?_) | (refine w_label rfl ?_; ((repeat ((fail_if_success (refine hK _ _ (cl_id ?_))); clear hK)); refine hK _ _ (cl_id ?_); clear hK)) | (refine w_exit rfl ?_; (try dsimp only [anorm, ablock, astay]); (try simp only [reduceIte, ↓reduceIte, Nat.reduceEqDiff]); ((repeat ((fail_if_success (refine hK _ _ (cl_id ?_))); clear hK)); refine hK _ _ (cl_id ?_); clear hK)) | (refine jend_go [(29, [6]), (16, [1, 2, 7, 8, 10, 11, 13, 14]), (28, [1, 2, 7, 8, 10, 11, 13, 14]), (27, [1, 2, 7, 8, 10, 11, 13, 14, 17, 133]), (26, [6]), (25, [1, 2, 7, 8, 10, 11, 13, 14, 17, 129]), (24, [1, 2, 7, 8, 10, 11, 13, 14, 17]), (23, [1, 2, 7, 8, 10, 11, 13, 14]), (22, [6]), (21, [1, 2, 7, 8, 10, 11, 13, 14, 15, 105]), (20, [1, 2, 7, 8, 10, 11, 13, 14, 15, 81]), (19, [1, 2, 7, 8, 10, 11, 13, 14, 15, 16]), (18, [1, 2, 7, 8, 10, 11, 13, 14, 73]), (17, [1, 2, 7, 8, 10, 11, 13, 14]), (15, [1, 2, 7, 8, 10, 11, 13, 14, 58]), (14, [1, 2, 7, 8, 10, 11, 13, 14]), (13, [1, 2, 7, 8, 10, 11, 13]), (11, [1, 2, 7, 8, 10, 11, 12]), (12, [1, 2, 7, 8, 10, 11, 12]), (10, [1, 2, 7, 8, 10, 11, 12, 45]), (9, [1, 2, 7, 8, 10, 11, 12]), (8, [1, 2, 7, 8, 10, 11]), (7, [1, 2, 7, 8, 10]), (6, [6]), (5, [1, 2, 7, 8, 36]), (4, [1, 2, 7, 8, 9]), (3, [1, 2, 7]), (2, [6]), (1, [0, 1, 2, 19]), (0, [0, 1, 2])] ?_; simp only [tabAt_cons, sel_nil, sel_cons, put_at, ofl_cons, ofl_nil, T0_at, List.getElem?_cons_zero, List.getElem?_cons_succ, List.getElem?_nil, Option.getD_some, Option.getD_none, reduceIte, ↓reduceIte, Nat.reduceEqDiff]; refine jl_go ?_) | simp (disch := omega) only [go_sem, hlt2, hlt3, hk, hu, hm, hg2] | (refine jc_t ?_) | (refine jc_f ?_) | (refine jx rfl ?_) | (refine jx (fun _ => rfl) ?_) | (refine jxg ⟨rfl, rfl⟩ ?_) | (refine jxh ⟨rfl, rfl⟩ ?_) | (refine jx ⟨by (first | omega | (simp; done) | (simp; omega)), rfl⟩ ?_) | (refine jx (fun _ => ⟨by (first | omega | (simp; done) | (simp; omega)), rfl⟩) ?_) | (refine jxg ⟨by (first | omega | (simp; done) | (simp; omega)), rfl, rfl⟩ ?_) | (refine jxh ⟨by (first | omega | (simp; done) | (simp; omega)), rfl, rfl⟩ ?_) | (refine jx ⟨by (first | omega | (simp; done) | (simp; omega)), by (first | omega | (simp; done) | (simp; omega)), rfl⟩ ?_) | ((first | apply zc (lt) [] | apply jxc (lt) [] | apply jxgc (lt) | apply jxhc (lt) [] | apply jxcl (lt)); (case ok => simp (disch := omega) only [go_sem, cok, sgOk, bcl, implies_true, hlt2, hlt3, hk, hu, hm, hg2])) | ((first | apply zc (u1) [0, 1, 2, 3] | apply jxc (u1) [0, 1, 2, 3] | apply jxgc (u1) | apply jxhc (u1) [0, 1, 2, 3] | apply jxgs (u1) [0, 1, 2, 3]); (case ok => simp (disch := omega) only [go_sem, cok, sgOk, bcl, implies_true, hlt2, hlt3, hk, hu, hm, hg2])) | (refine And.intro (by (first | omega | (simp; done) | (simp; omega))) ?_) | (refine mc_b (fun hs => ?_) fun hs => ?_) | (refine mg_st (fun hs => ?_) fun hs => ?_) | (refine mg_sf (fun hs => ?_) fun hs => ?_) | (refine mall_s (fun hs => ?_) fun hs => ?_) | (refine malln_s (fun hs => ?_) fun hs => ?_) | (refine mpk_s (fun hs => ?_) fun hs => ?_) | ((repeat ((fail_if_success (refine hK _ _ (cl_id ?_))); clear hK)); refine hK _ _ (cl_id ?_); clear hK)))
      refine hK2 _ _ (cq_any [0, 6, 7, 8, 4, 5] rfl (by simp [lv]) ?_ ?_)
      · (simp (disch := omega) only [go_sem])
      · (simp (disch := omega) only [go_sem])
        omega
end Go.Proofs.Ytbbgaeopadnglaa
