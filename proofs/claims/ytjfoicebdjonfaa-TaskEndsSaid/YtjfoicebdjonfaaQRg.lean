/- slices.Backward's iterator over needs, and the loop over it: what the machine says. No condition but bounds of lengths. -/
import Derived.Test.YtjfoicebdjonfaaQb2
import Derived.Test.YtjfoicebdjonfaaQGn
set_option linter.unusedSectionVars false
set_option linter.unusedVariables false
set_option linter.unusedSimpArgs false
set_option linter.deprecated false
namespace Go.Proofs.Ytjfoicebdjonfaa
open Go.RowKit Go.Cx Go.Am
set_option maxRecDepth 8000
set_option maxHeartbeats 2000000
attribute [local irreducible] ACalls jcall jsame jex jexg jexh jguard jconv jload jpart jstore jbin jslice jidxA jidx jfield jfieldA jbuild jbuildS jmake jappend jlen jpick jres jcnd jcopy jcap jborn jdraw jops jop jstr jstrc jlive jend jlenM
attribute [local go_sem] reduceIte Nat.reduceEqDiff Nat.reduceAdd Nat.reduceMul Nat.reduceLT Nat.reduceLeDiff Nat.reduceSub Int.reduceLT Int.reduceLE Int.reduceToNat Int.reduceNeg Int.reduceAdd Int.reduceSub UInt8.reduceToNat Int.reduceEq reduceCtorEq Int.reducePow Int.reduceMul Nat.reducePow E0
attribute [local go_sem ↓] reduceIte
attribute [local go_sem high] chunks_bvs
attribute [local go_sem] Nat.one_ne_zero Nat.zero_ne_one decide_true decide_false Bool.false_eq_true Bool.true_eq_false Bool.not_true Bool.not_false jops_nil jops_one jops_g jg_tt jg_ff jg_tf jg_ft jg_n jop_move jop_assign jop_pick jop_alloc jop_box jop_build jop_buildSlice jop_load jop_store jop_nilCheck jop_bin jop_not jop_convert jop_makeFunc jop_makeSlice jop_slice jop_fieldAddr jop_field jop_indexAddr jop_index jop_extract jop_len jop_append jop_call jload_m jpart_t jpart_f jpick_t jpick_f jpick_b jidxA_ptr jidxA_sl jidxA_hs jidxA_os jidx_str jfield_m jfieldA_m jbuild_m jlen_str jlen_sl jlen_hs jslice_sl jslice3_sl jstr_map jstrc_cons jstrc_nil jstrc_map jconv_sl jconv_hs jconv_os jconv_mt jconv_nil jconv_str str_toList jbin_eq_nn jbin_ne_nn jbin_eq_pn jbin_ne_pn jbin_eq_bb jbin_ne_bb beq_self_eq_true oc_int oc_bool oc_str oc_slice oc_ptr oc_nilF jbuildS_m jappend_m jconv_int jstore_ptr jstore_rp jbin_add jbin_sub jbin_lss jbin_leq jbin_gtr jbin_geq jbin_eql jbin_neq jres_nil jres_tmp jres_cell jdraw_nil jdraw_q jdraw_l jdraw_b jdraw_gg jdraw_e jdraw_m jdraw_mc jdraw_f jdraw_p jdraw_c bcN_eq convT_m locOf_cptr locCv_int locOf_ptr locOf_rp jdraw_w jex_eq jex_all jexg_eq jexh_eq jborn_m jop_copy jcopy_hs jop_cap jcap_mt jcap_nil jbin_eq_sl hget0 hgetk hset0 hsetk List.set_cons_zero List.set_cons_succ put_at ev_tmp ev_const ev_global ev_func aput_some aput_none T0_at ayield place cells1 splice_cs Nat.mul_one Nat.sub_add_cancel Int.cast_ofNat_Int elems source abound afill bfill dest sure one anorm ablock astay cv_int cv_bool cv_str cv_slice cv_ptr cv_nilFunc List.map_cons List.map_nil List.map_toArray List.getElem?_toArray List.getElem?_cons_zero List.getElem?_cons_succ List.getElem?_nil Option.getD_some Option.getD_none Option.map_some Option.map_none Option.bind_some Option.some.injEq Nat.add_zero Nat.zero_add List.drop_zero List.drop_succ_cons List.take_succ_cons List.take_zero List.take_nil List.drop_nil List.length_cons List.length_nil List.length_append List.nil_append List.cons_append List.append_assoc List.append_nil List.append_cancel_left_eq List.cons.injEq if_true if_false true_and and_true or_false false_or ne_eq not_true_eq_false not_false_eq_true Nat.le_refl Int.toNat_natCast List.replicate_succ List.replicate_zero exists_eq List.toList_toArray List.length_map Prod.mk.injEq exists_eq_left exists_eq_left' exists_eq' exists_eq_right' exists_and_left exists_and_right exists_const flat_bcl List.take_length List.length_drop List.length_take Nat.min_eq_left Nat.min_eq_right amap amaps amapss bmap amapss_bcl back_nil back backs sg List.getD_cons_zero List.getD_cons_succ ofl_cons ofl_nil jbin_rem getD_bcl w8_i64 IntWalk.i64_in IntWalk.u64_in IntWalk.u32_in IntWalk.u16_in bits_u8 bits_u16 bits_u32 bits_u64 bits_i64 nbs_bvs okS okT okL okD wk_rfl wk_v nbss_bcl frz_v frz_sl frz_ptr frz_any frz_mt nb nbs nbss nbB sh_lt sh_0 sh_at frz Value.int.injEq Value.bool.injEq Value.string.injEq Nat.lt_add_right_iff_pos Nat.lt_irrefl Nat.zero_lt_one gf gfs gfss gfB gfH byts nbs_uvs set_ucl b32_xor b32_not jop_cpl sgn_u32 max_u32 flat_ucl okVs_bvs okVs_uvs getI_ucl getI_bcl jop_max jop_min chunks1_c chunks1_0 cl1_iii Int.sub_zero undef amapss_set cels_nil cels_len cels_take cels_drop cels_app cels_getD cels_getI cels_nbss cels_gfss cels_amapss cl1_int cl1_bool cl1_ii cl1_ib cl1_iib snoc_int snoc_ib snoc_iib eqAV scEq Bool.and_true pr_eta okV okVs okEs okA okAs List.not_mem_nil List.mem_cons List.mem_singleton false_and and_false true_or or_true or_self and_self ty3 zv3 ty4 ty5 jeq7 ty22 sl22 ty24 sl24 ty31 sl31 ty45 st45 jne45 sl47 sl48 ty49 ty53 sl53 ty55 st55 ty58 st58 ty60 st60 sl61 ty70 ty72 st72 ty80 sl80 ty82 st82 ty83 ty84 mp84 ty85 sl85 ty87 st87 ty101 st101 arn45 arn55 arn60 arn72 arn82 arn87 arn101 Try.underlying0 Try.underlying1 Try.underlying2 Try.underlying3 Try.underlying4 Try.underlying5 Try.underlying6 Try.underlying7 Try.underlying8 Try.underlying9 Try.underlying10 Try.underlying11 Try.underlying12 Try.underlying13 Try.underlying14 Try.underlying15 Try.underlying16 Try.underlying17 Try.underlying18 Try.underlying19 Try.underlying20 Try.underlying21 Try.underlying22 Try.underlying23 Try.underlying24 Try.underlying25 Try.underlying26 Try.underlying27 Try.underlying28 Try.underlying29 Try.underlying30 Try.underlying31 Try.underlying32 Try.underlying33 Try.underlying34 Try.underlying35 Try.underlying36 Try.underlying37 Try.underlying38 Try.underlying39 Try.underlying40 Try.underlying41 Try.underlying42 Try.underlying43 Try.underlying44 Try.underlying45 Try.underlying46 Try.underlying47 Try.underlying48 Try.underlying49 Try.underlying50 Try.underlying51 Try.underlying52 Try.underlying53 Try.underlying54 Try.underlying55 Try.underlying56 Try.underlying57 Try.underlying58 Try.underlying59 Try.underlying60 Try.underlying61 Try.underlying62 Try.underlying63 Try.underlying64 Try.underlying65 Try.underlying66 Try.underlying67 Try.underlying68 Try.underlying69 Try.underlying70 Try.underlying71 Try.underlying72 Try.underlying73 Try.underlying74 Try.underlying75 Try.underlying76 Try.underlying77 Try.underlying78 Try.underlying79 Try.underlying80 Try.underlying81 Try.underlying82 Try.underlying83 Try.underlying84 Try.underlying85 Try.underlying86 Try.underlying87 Try.underlying88 Try.underlying89 Try.underlying90 Try.underlying91 Try.underlying92 Try.underlying93 Try.underlying94 Try.underlying95 Try.underlying96 Try.underlying97 Try.underlying98 Try.underlying99 Try.underlying100 Try.underlying101 Try.underlying102 Try.underlying103 Try.underlying104 Try.underlying105 Try.underlying106 Try.underlying107 Try.underlying108 Try.underlying109 Try.underlying110 Try.underlying111 Try.underlying112 Try.underlying113 Try.underlying114 Try.underlying115 Try.underlying116 Try.underlying117 Try.underlying118 Try.underlying119 Try.underlying120 Try.underlying121 Try.underlying122 Try.underlying123 Try.underlying124
attribute [local go_sem ←] List.map_take List.map_drop

/-- What an iterator counts on. -/
def Kp (M : Mem) (A B : World) : Prop := ∀ b, M.G b → B.heap[b]? = A.heap[b]?
def revU (l : List (Int × Bool)) (k : Nat) : List (Int × Int × Bool) := (List.range k).map fun j => (((l.length - 1 - j : Nat) : Int), gt l (l.length - 1 - j))
theorem revU_succ (l : List (Int × Bool)) (k : Nat) : revU l (k + 1) = revU l k ++ [(((l.length - 1 - k : Nat) : Int), gt l (l.length - 1 - k))] := by simp [revU, List.range_succ]
theorem revU_len (l : List (Int × Bool)) (k : Nat) : (revU l k).length = k := by simp [revU]
def encN (x : Int × Int × Bool) : Array Value := #[.int .i64 x.1, .agg #[.int .i64 x.2.1, .bool x.2.2]]
theorem gam0 {M : Mem} {w : World} (hG0 : ∀ b, M.G b → b < w.heap.size) : Gam E0.gl M w [] := ⟨fun _ => trivial, hG0, by simp, by simp, by simp⟩
theorem tr_of {M : Mem} {w : World} {N : Nat} {a : Act} (hN : a.tmps.size = N) {tl : List (Nat × AV)} (h : ∀ x ∈ tl, VR M 0 w x.2 (a.tmps.getD x.1 undef)) : TR M 0 w N (ofl tl) a :=
  ⟨hN, fun i => ofl_all (p := fun i x => VR M 0 w x (a.tmps.getD i undef)) trivial h⟩
theorem trl1 {M : Mem} {w : World} {a : Act} {i : Nat} {x : Value} (h : a.tmps.getD i undef = x) : ∀ y ∈ [(i, AV.v x)], VR M 0 w y.2 (a.tmps.getD y.1 undef) := fun y hy => by
  obtain rfl := List.mem_singleton.1 hy
  exact h
theorem trl2 {M : Mem} {w : World} {a : Act} {i j : Nat} {x z : Value} (h : a.tmps.getD i undef = x) (k : a.tmps.getD j undef = z) : ∀ y ∈ [(i, AV.v x), (j, AV.v z)], VR M 0 w y.2 (a.tmps.getD y.1 undef) := fun y hy => by
  rcases List.mem_cons.1 hy with rfl | hy
  · exact h
  · exact trl1 k y hy
theorem put_same {a : Act} {d : Nat} {u : Value} (h : d < a.tmps.size) : (a.put (some d) u).tmps.getD d undef = u := by
  simp [Act.put, Array.getD_eq_getD_getElem?, Array.getElem?_setIfInBounds, h]
theorem put_size {a : Act} {d : Option Tmp} {u : Value} : (a.put d u).tmps.size = a.tmps.size := by cases d <;> simp [Act.put]
theorem back_stops (M : Mem) (w1 : World) (hG0 : ∀ b, M.G b → b < w1.heap.size) (l : List (Int × Bool)) (hl : l.length ≤ 1000000) (u : Value) (hv : VR M 0 w1 (.cptr [.sl 2 (cels l)]) u) :
    SeqStopsK Fence.wide 5 E0.P 89 #[u] encN (Kp M) (fun ys => ys = revU l l.length) (fun _ => True) l.length w1 := by
  intro ln J Jx W hW hJ hJx hY h0
  have keepW : ∀ b, M.G b → W.heap[b]? = w1.heap[b]? := fun b hb => hW.block b (hG0 b hb)
  have vr : ∀ W2 : World, (∀ b, M.G b → W2.heap[b]? = w1.heap[b]?) → VR M 0 W2 (.cptr [.sl 2 (cels l)]) u := fun W2 h => VR.mono (M := M) (M' := M) (n := 0) (w := w1) (w' := W2) (fun _ h => h) h (Nat.le_refl _) (fun _ _ => ⟨rfl, rfl⟩) hv
  have inG : ∀ W2 : World, (∀ b, M.G b → W2.heap[b]? = w1.heap[b]?) → ∀ b, M.G b → b < W2.heap.size := fun W2 h b hb => by
    have h1 := h b hb
    rw [Array.getElem?_eq_getElem (hG0 b hb)] at h1
    exact (Array.getElem?_eq_some_iff.1 h1).1
  generalize hYv : Value.func (.yield ln) #[] #[] = Y at *
  refine callsIn_of_wp Try.func89 rfl trivial ?_ rfl
  rw [Try.ntmps89]
  have tr0 : ∀ (w2 : World) (a2 : Act), (∀ b, M.G b → w2.heap[b]? = w1.heap[b]?) → a2.tmps.size = 19 → a2.tmps.getD 1 undef = u → ∀ tl : List (Nat × AV), (∀ x ∈ tl, VR M 0 w2 x.2 (a2.tmps.getD x.1 undef)) → TR M 0 w2 19 (ofl ((1, .cptr [.sl 2 (cels l)]) :: tl)) a2 := fun w2 a2 hk hN h1 tl h => tr_of hN fun x hx => by
    rcases List.mem_cons.1 hx with rfl | hx
    · simp only
      rw [h1]
      exact vr w2 hk
    · exact h x hx
  obtain ⟨a0, ha0⟩ : ∃ a0 : Act, a0 = { tmps := #[Y] ++ #[u] ++ Array.replicate (19 - (#[Y] ++ #[u]).size) undef, defers := [] } := ⟨_, rfl⟩
  rw [← ha0]
  have z0 : a0.tmps.getD 0 undef = Y := by subst ha0; simp [Array.getD_eq_getD_getElem?, Array.getElem?_append]
  have z1 : a0.tmps.getD 1 undef = u := by subst ha0; simp [Array.getD_eq_getD_getElem?, Array.getElem?_append]
  have zN : a0.tmps.size = 19 := by subst ha0; simp
  have zD : a0.defers = [] := by subst ha0; rfl
  clear ha0
  have zT := tr0 W a0 keepW zN z1 [] (by simp)
  refine wpIn_seq ?_
  refine reg_in0 (E := E0) (N := 19) (by kernel_rfl) (by kernel_rfl) (ofl [(1, .cptr [.sl 2 (cels l)])]) [] M (fun T' H' => T' 3 = .v (.int .i64 ((l.length : Int) - 1))) (gam0 (inG W keepW)) zT ?_ ?_
  · simp (disch := omega) only [go_sem]
  intro T' H' M' a' w' hK hG' hT' hd' hs' he'
  have hg' := ext_grown he'
  have hk' : ∀ b, M.G b → w'.heap[b]? = w1.heap[b]? := fun b hb => (hg'.block b (inG W keepW b hb) (by simp)).trans (keepW b hb)
  have hJ' : J (revU l 0) w' := hJ _ _ _ none h0 hg' (by simp)
  have t0 : a'.tmps.getD 0 undef = Y := (hs' 0 (by kernel_rfl)).trans z0
  have t1 : a'.tmps.getD 1 undef = u := (hs' 1 (by kernel_rfl)).trans z1
  have t3 : a'.tmps.getD 3 undef = .int .i64 ((l.length : Int) - 1) := by
    have := hT'.2 3
    rw [hK] at this
    exact this
  refine wpIn_block (wpIn_loop (fun a w => ∃ k, k ≤ l.length ∧ J (revU l k) w ∧ (∀ b, M.G b → w.heap[b]? = w1.heap[b]?) ∧ a.tmps.size = 19 ∧ a.defers = [] ∧ a.tmps.getD 0 undef = Y ∧ a.tmps.getD 1 undef = u ∧ a.tmps.getD 3 undef = .int .i64 ((l.length : Int) - 1 - k)) (fun a _ => match a.tmps.getD 3 undef with | .int _ i => (i + 1).toNat | _ => 0) ⟨0, Nat.zero_le _, hJ', hk', hT'.1, hd'.trans zD, t0, t1, by simpa using t3⟩ ?_)
  clear t0 t1 t3 hK hG' hT' hd' hs' he' hg' hk' hJ' T' H' M' a' w'
  rintro a w ⟨k, hk, hJk, hkeep, hN, hD, t0, t1, t3⟩
  have kr : ∀ {w2 : World} {M2 : Mem} {H2 : Heap} {w0 : World}, (∀ b, M.G b → w0.heap[b]? = w1.heap[b]?) → Ext M w0 [] M2 w2 H2 → ∀ b, M.G b → w2.heap[b]? = w1.heap[b]? := fun hk he b hb => ((ext_grown he).block b (inG _ hk b hb) (by simp)).trans (hk b hb)
  refine wpIn_seq (wpIn_seq ?_)
  refine reg_in0 (E := E0) (N := 19) (by kernel_rfl) (by kernel_rfl) (ofl [(3, .v (.int .i64 ((l.length : Int) - 1 - k)))]) [] M (fun T' H' => T' 8 = .v (.bool (decide (0 ≤ (l.length : Int) - 1 - k)))) (gam0 (inG w hkeep)) (tr_of hN (trl1 t3)) ?_ ?_
  · simp (disch := omega) only [go_sem]
  intro T' H' M' a2 w2 hK hG' hT' hd' hs' he'
  have hk2 := kr hkeep he'
  have hJ2 : J (revU l k) w2 := hJ _ _ _ none hJk (ext_grown he') (by simp)
  have u0 : a2.tmps.getD 0 undef = Y := (hs' 0 (by kernel_rfl)).trans t0
  have u1 : a2.tmps.getD 1 undef = u := (hs' 1 (by kernel_rfl)).trans t1
  have u3 : a2.tmps.getD 3 undef = .int .i64 ((l.length : Int) - 1 - k) := (hs' 3 (by kernel_rfl)).trans t3
  have u8 : a2.eval (.tmp 8) = .bool (decide (0 ≤ (l.length : Int) - 1 - k)) := by
    have := hT'.2 8
    rw [hK] at this
    exact this
  have uN := hT'.1
  have uD := hd'.trans hD
  clear hK hG' hT' hd' hs' he' T' H' M' hJk hkeep t0 t1 hN hD
  by_cases hlt : k < l.length
  · rw [decide_eq_true (by omega)] at u8
    refine wpIn_cond_true u8 (wpIn_skip ?_)
    refine wpIn_seq (wpIn_block (wpIn_seq ?_))
    refine reg_cut0 (E := E0) (N := 19) 6 (by decide) (by kernel_rfl) (by kernel_rfl) (ofl [(1, .cptr [.sl 2 (cels l)]), (0, .v Y), (3, .v (.int .i64 ((l.length : Int) - 1 - k)))]) [] M (fun T' H' => T' 11 = .v Y ∧ T' 12 = .v (.int .i64 ((l.length : Int) - 1 - k)) ∧ T' 16 = .agg [.v (.int .i64 (gt l (l.length - 1 - k)).1), .v (.bool (gt l (l.length - 1 - k)).2)]) (gam0 (inG w2 hk2)) (tr0 w2 a2 hk2 uN u1 _ (trl2 u0 u3)) ?_ ?_
    · have e1 : ((l.length : Int) - 1 - k).toNat = l.length - 1 - k := by omega
      have e2 : 0 ≤ (l.length : Int) - 1 - k := by omega
      have e3 : (l.length : Int) - 1 - k < l.length := by omega
      simp only [List.take_succ_cons, List.take_zero]
      simp (disch := omega) only [go_sem, e1, e2, e3]
    intro T' H' M' a3 w3 hK hG' hT' hd' hs' he'
    obtain ⟨k11, k12, k16⟩ := hK
    have v11 : a3.eval (.tmp 11) = Y := by
      have := hT'.2 11
      rw [k11] at this
      exact this
    have v12 : a3.eval (.tmp 12) = .int .i64 ((l.length : Int) - 1 - k) := by
      have := hT'.2 12
      rw [k12] at this
      exact this
    have v16 : a3.eval (.tmp 16) = .agg #[.int .i64 (gt l (l.length - 1 - k)).1, .bool (gt l (l.length - 1 - k)).2] := by
      have := hT'.2 16
      rw [k16] at this
      unfold VR at this
      obtain ⟨us, h1, h2⟩ := this
      unfold VRs VRs VRs at h2
      obtain ⟨x, r, rfl, _, h3, y, r2, rfl, _, h4, rfl⟩ := h2
      unfold VR at h3 h4
      subst h3 h4
      exact h1
    have hk3 := kr hk2 he'
    have hJ3 : J (revU l k) w3 := hJ _ _ _ none hJ2 (ext_grown he') (by simp)
    have s0 : a3.tmps.getD 0 undef = Y := (hs' 0 (by kernel_rfl)).trans u0
    have s1 : a3.tmps.getD 1 undef = u := (hs' 1 (by kernel_rfl)).trans u1
    have s3 : a3.tmps.getD 3 undef = .int .i64 ((l.length : Int) - 1 - k) := (hs' 3 (by kernel_rfl)).trans u3
    have sN := hT'.1
    have sD := hd'.trans uD
    refine wpOps_at 6 _ rfl rfl ?_
    have hyk := hY (revU l k) (((l.length - 1 - k : Nat) : Int), gt l (l.length - 1 - k)) w3 hJ3 (by rw [revU_len]; exact hlt)
    rw [← revU_succ] at hyk
    have earg : (#[Operand.tmp 12, Operand.tmp 16].map a3.eval) = encN (((l.length - 1 - k : Nat) : Int), gt l (l.length - 1 - k)) := by
      have e : ((l.length - 1 - k : Nat) : Int) = (l.length : Int) - 1 - k := by omega
      simp only [List.map_toArray, List.map_cons, List.map_nil, v12, v16, encN, e]
    rw [← earg] at hyk
    refine wp_yield rfl (v11.trans hYv.symm) hyk ?_
    rintro e w4 (⟨rfl, hJ4, hk4⟩ | ⟨rfl, hJ4⟩)
    · have hkk : ∀ b, M.G b → w4.heap[b]? = w1.heap[b]? := fun b hb => (hk4 b hb).trans (hk3 b hb)
      simp only
      refine reg_end0 (E := E0) (N := 19) 7 (by kernel_rfl) (by kernel_rfl) (ofl [(17, .v (.bool true))]) [] M (fun T' H' => T' 18 = .v (.bool false)) (gam0 (inG w4 hkk)) (tr_of (put_size.trans sN) (trl1 (put_same (by rw [sN]; decide)))) ?_ ?_
      · simp only [List.drop_succ_cons, List.drop_zero]
        simp (disch := omega) only [go_sem]
      intro T5 H5 M5 a5 w5 hK5 hG5 hT5 hd5 hs5 he5
      have hk5 := kr hkk he5
      have hJ5 : J (revU l (k + 1)) w5 := hJ _ _ _ none hJ4 (ext_grown he5) (by simp)
      have q0 : a5.tmps.getD 0 undef = Y := (hs5 0 (by kernel_rfl)).trans ((put_getD (by decide)).trans s0)
      have q1 : a5.tmps.getD 1 undef = u := (hs5 1 (by kernel_rfl)).trans ((put_getD (by decide)).trans s1)
      have q3 : a5.tmps.getD 3 undef = .int .i64 ((l.length : Int) - 1 - k) := (hs5 3 (by kernel_rfl)).trans ((put_getD (by decide)).trans s3)
      have q18 : a5.eval (.tmp 18) = .bool false := by
        have := hT5.2 18
        rw [hK5] at this
        exact this
      refine wpIn_cond_false q18 (wpIn_skip ?_)
      refine reg_in0 (E := E0) (N := 19) (by kernel_rfl) (by kernel_rfl) (ofl [(3, .v (.int .i64 ((l.length : Int) - 1 - k)))]) [] M (fun T' H' => T' 3 = .v (.int .i64 ((l.length : Int) - 1 - (k + 1 : Nat)))) (gam0 (inG w5 hk5)) (tr_of hT5.1 (trl1 q3)) ?_ ?_
      · have e : (l.length : Int) - 1 - (k + 1 : Nat) = (l.length : Int) - 1 - k - 1 := by omega
        rw [e]
        simp (disch := omega) only [go_sem]
      intro T6 H6 M6 a6 w6 hK6 hG6 hT6 hd6 hs6 he6
      have r3 : a6.tmps.getD 3 undef = .int .i64 ((l.length : Int) - 1 - (k + 1 : Nat)) := by
        have := hT6.2 3
        rw [hK6] at this
        exact this
      refine ⟨⟨k + 1, hlt, hJ _ _ _ none hJ5 (ext_grown he6) (by simp), kr hk5 he6, hT6.1, hd6.trans (hd5.trans ((put_defers _ _ _).trans sD)), (hs6 0 (by kernel_rfl)).trans q0, (hs6 1 (by kernel_rfl)).trans q1, r3⟩, ?_⟩
      simp only [r3, t3]
      omega
    · simp only
      refine reg_end0 (E := E0) (N := 19) 7 (by kernel_rfl) (by kernel_rfl) (ofl [(17, .v (.bool false))]) [] { M with G := fun _ => False } (fun T' H' => T' 18 = .v (.bool true)) (gam0 (fun _ h => h.elim)) (tr_of (put_size.trans sN) (trl1 (put_same (by rw [sN]; decide)))) ?_ ?_
      · simp only [List.drop_succ_cons, List.drop_zero]
        simp (disch := omega) only [go_sem]
      intro T5 H5 M5 a5 w5 hK5 hG5 hT5 hd5 hs5 he5
      have q18 : a5.eval (.tmp 18) = .bool true := by
        have := hT5.2 18
        rw [hK5] at this
        exact this
      refine wpIn_cond_true q18 (wpIn_ret ?_)
      exact ⟨hd5.trans ((put_defers _ _ _).trans sD), .tuple #[], results_none rfl _ _ _, ⟨_, rfl⟩, .inr ⟨_, trivial, hJx _ _ _ none hJ4 (ext_grown he5) (by simp)⟩⟩
  · rw [decide_eq_false (by omega)] at u8
    refine wpIn_cond_false u8 (wpIn_exit ?_)
    obtain rfl : k = l.length := by omega
    refine ⟨uD, .tuple #[], results_none rfl _ _ _, ⟨_, rfl⟩, .inl ⟨_, rfl, hJ2⟩⟩
end Go.Proofs.Ytjfoicebdjonfaa
