/- Timers: all, in order, by the machine: the walk. No condition. -/
import Derived.Test.YtmafdnbdaaedgaaYQs
import Derived.Test.YtmafdnbdaaedgaaYb1
import Derived.Test.YtmafdnbdaaedgaaYgs
set_option linter.unusedSectionVars false
set_option linter.unusedVariables false
set_option linter.unusedSimpArgs false
set_option linter.deprecated false
namespace Go.Proofs.Ytmafdnbdaaedgaa
open Go.RowKit Go.Cx Go.Am Go.Sort
set_option maxRecDepth 8000
set_option maxHeartbeats 2000000
attribute [local irreducible] ACalls jcall jsame jex jexg jexh jguard jconv jload jpart jstore jbin jslice jidxA jidx jfield jfieldA jbuild jbuildS jmake jappend jlen jpick jres jcnd jcopy jcap jborn jdraw jops jop jstr jstrc jlive jend jlenM jmmake jlook jmput jmdel jrange jnext jentry jlk jmp2 jmd2 jlm jrg jnx jny jen jeo jinvoke jmkI jtyA
attribute [local go_sem] reduceIte Nat.reduceEqDiff Nat.reduceAdd Nat.reduceMul Nat.reduceLT Nat.reduceLeDiff Nat.reduceSub Int.reduceLT Int.reduceLE Int.reduceToNat Int.reduceNeg Int.reduceAdd Int.reduceSub UInt8.reduceToNat Int.reduceEq reduceCtorEq Int.reducePow Int.reduceMul Nat.reducePow E0
attribute [local go_sem ↓] reduceIte
attribute [local go_sem high] chunks_bvs
attribute [local go_sem] jop_makeMap jop_lookup jop_mapUpdate jop_delete jop_range jop_next jop_entry jmmake_m jlook_m jlk_mI jmput_m jmdel_m jmd2_mB jlm_mB jrange_m jnext_m jnx_m jentry_m jen_m jeo_mS bmap_mI bmap_mSI mB_nil vI nbB_o nbB_r nbB_i bmap_o bmap_r bmap_i gfB_o gfB_r gfB_i jop_invoke jop_makeInterface jop_typeAssert jinvoke_m jmkI_m jtyA_m ifp_nb
attribute [local go_sem ←] List.map_take List.map_drop

theorem jbin_eq_s0 {P : Program} {t et : TypeId} {x y : Operand} {K : Kv} (hu : P.underlying t = some (.slice et)) (h : K.k (.v (.bool true))) : jbin P .eql t x y (.v (.slice none 0 0)) (.v (.slice none 0 0)) := by
  unfold jbin abin
  simp only [conc]
  refine ⟨.bool true, fun w => ?_, h⟩
  exact (both_run (b := true) (fun n => by simp [Op.equalIn, run_underlying hu]) (fun op => .inl (by cases op <;> rfl)) rfl rfl).1
structure AlS where
  G : Heap
  o : Nat
  i : Nat
structure AlP (H : Heap) (r : Nat) (p : List It) (s : AlS) : Prop where
  gr : Gr H s.G
  srow : s.G[r]? = some (some (.row true 1 (nms p)))
  row : s.G[s.o]? = some (some (.row true 2 (cels ((kt p).take s.i))))
  ho : H.length ≤ s.o
  hi : s.i ≤ p.length
section
variable {H : Heap} {b c q : Nat} {m : List (Int × Nat)} {p : List It} {Z : List (List AV)}
theorem tclone0_am : ACalls E0 22 [.v (.slice none 0 0)] H fun r H' => r = .v (.slice none 0 0) ∧ H' = H := by
  have u : Try.prog.underlying 50 = some (.slice 56) := by kernel_rfl
  refine calls_q (calls_of Try.func22 rfl (by kernel_rfl) (by kernel_rfl) (by rw [Try.ntmps22]; exact Nat.le_of_ble_eq_true rfl) (fun hH0 hA0 => ?_)); rw [Try.results22]
  (repeat' (first | (have hs := Mk.out hs; (try simp only [decide_eq_true_eq, decide_eq_false_iff_not, Bool.not_eq_true, Bool.not_eq_false, Bool.not_true, Bool.not_false, Bool.not_eq_eq_eq_not, Bool.and_eq_true, Bool.or_eq_true, beq_iff_eq, bne_iff_ne, beq_eq_false_iff_ne, ne_eq, Classical.not_not, not_true_eq_false, not_false_eq_true, forall_const, Bool.false_eq_true, false_implies, eq_self] at hs); (try (exfalso; omega)); (try simp (disch := omega) only [go_sem, u, hs])) | (refine z_seqr rfl ?_) | (refine w_seq rfl fun K hK => ?_) | (refine z_reg rfl ?_) | (refine z_cond rfl ?_) | (refine w_skip rfl ?_; ((repeat ((fail_if_success (refine hK _ _ (cl_id ?_))); clear hK)); refine hK _ _ (cl_id ?_); clear hK)) | (refine w_ret rfl ?_; (try dsimp only [anorm, ablock, astay]); refine z_end ?_) | (refine z_end0 ?_) | (refine w_block rfl ?_) | (refine w_scope rfl ?_) | (refine w_label rfl ?_; ((repeat ((fail_if_success (refine hK _ _ (cl_id ?_))); clear hK)); refine hK _ _ (cl_id ?_); clear hK)) | (refine w_exit rfl ?_; (try dsimp only [anorm, ablock, astay]); (try simp only [reduceIte, ↓reduceIte, Nat.reduceEqDiff]); ((repeat ((fail_if_success (refine hK _ _ (cl_id ?_))); clear hK)); refine hK _ _ (cl_id ?_); clear hK)) | (refine w_exit rfl ?_; (try dsimp only [anorm, ablock, astay]); (try simp only [reduceIte, ↓reduceIte, Nat.reduceEqDiff]); refine z_end0 ?_) | (refine jend_go [(3, [2]), (2, [2]), (1, [0, 4]), (0, [0])] ?_; simp only [tabAt_cons, sel_nil, sel_cons, put_at, ofl_cons, ofl_nil, T0_at, List.getElem?_cons_zero, List.getElem?_cons_succ, List.getElem?_nil, Option.getD_some, Option.getD_none, reduceIte, ↓reduceIte, Nat.reduceEqDiff]; refine jl_go ?_) | simp (disch := omega) only [go_sem, u] | (refine jc_t ?_) | (refine jc_f ?_) | (refine jbin_eq_s0 u ?_) | (refine And.intro (by (first | omega | (simp; done) | (simp; omega))) ?_) | (refine mc_b (fun hs => ?_) fun hs => ?_) | (refine mg_st (fun hs => ?_) fun hs => ?_) | (refine mg_sf (fun hs => ?_) fun hs => ?_) | (refine mall_s (fun hs => ?_) fun hs => ?_) | (refine malln_s (fun hs => ?_) fun hs => ?_) | (refine mpk_s (fun hs => ?_) fun hs => ?_) | ((repeat ((fail_if_success (refine hK _ _ (cl_id ?_))); clear hK)); refine hK _ _ (cl_id ?_); clear hK)))
  exact cl_id ⟨rfl, rfl⟩
theorem kt_at {p : List It} {i : Nat} (h : i < p.length) : (kt p).take (i + 1) = (kt p).take i ++ [(at3 p i).2] := by
  have h2 : (kt p)[i]? = some (at3 p i).2 := by
    unfold kt
    rw [List.getElem?_map, List.getElem?_eq_getElem h, at3_eq h]
    rfl
  rw [List.take_succ, h2]
  rfl
theorem all_am (S : Tz H b c q m p Z) {l : List (Int × Int)} (hs : l.Pairwise lt2) (pm : l.Perm (kt p)) (hl : p.length ≤ 1000000) : ACalls E0 18 [.ptr b 0] H fun r H' => r = .sl 2 (cels l) ∧ Gr H H' := by
  have el : l = kt (srtT p) := pw_one hs (srt_pw S.ms.nd) (pm.trans (((srtT_perm p).map _).symm))
  rcases S.th with T | ⟨rfl, rfl, hB⟩
  · have hB := T.o
    have hm := made_am hB
    have hc := tclone_am T hl
    refine calls_q (calls_of Try.func18 rfl (by kernel_rfl) (by kernel_rfl) (by rw [Try.ntmps18]; exact Nat.le_of_ble_eq_true rfl) (fun hH0 hA0 => ?_)); rw [Try.results18]
    (repeat' (first | (have hs := Mk.out hs; (try simp only [decide_eq_true_eq, decide_eq_false_iff_not, Bool.not_eq_true, Bool.not_eq_false, Bool.not_true, Bool.not_false, Bool.not_eq_eq_eq_not, Bool.and_eq_true, Bool.or_eq_true, beq_iff_eq, bne_iff_ne, beq_eq_false_iff_ne, ne_eq, Classical.not_not, not_true_eq_false, not_false_eq_true, forall_const, Bool.false_eq_true, false_implies, eq_self] at hs); (try (exfalso; omega)); (try simp (disch := omega) only [go_sem, hB, hs])) | (refine z_seqr rfl ?_) | (refine w_seq rfl fun K hK => ?_) | (refine z_reg rfl ?_) | (refine z_cond rfl ?_) | (refine w_skip rfl ?_; ((repeat ((fail_if_success (refine hK _ _ (cl_id ?_))); clear hK)); refine hK _ _ (cl_id ?_); clear hK)) | (refine w_ret rfl ?_; (try dsimp only [anorm, ablock, astay]); refine z_end ?_) | (refine z_end0 ?_) | (refine w_block rfl ?_) | (refine w_scope rfl ?_) | (refine w_label rfl ?_; ((repeat ((fail_if_success (refine hK _ _ (cl_id ?_))); clear hK)); refine hK _ _ (cl_id ?_); clear hK)) | (refine w_exit rfl ?_; (try dsimp only [anorm, ablock, astay]); (try simp only [reduceIte, ↓reduceIte, Nat.reduceEqDiff]); ((repeat ((fail_if_success (refine hK _ _ (cl_id ?_))); clear hK)); refine hK _ _ (cl_id ?_); clear hK)) | (refine w_exit rfl ?_; (try dsimp only [anorm, ablock, astay]); (try simp only [reduceIte, ↓reduceIte, Nat.reduceEqDiff]); refine z_end0 ?_) | (refine jend_go [(11, [2]), (10, [4, 17, 18, 19]), (9, [4, 17, 18, 19]), (8, [4, 6, 17, 18, 19]), (7, [4, 17, 18, 19, 20]), (6, [4, 17, 18, 19]), (5, [3, 4]), (4, [3]), (3, [3]), (2, [2]), (1, [0, 9]), (0, [0])] ?_; simp only [tabAt_cons, sel_nil, sel_cons, put_at, ofl_cons, ofl_nil, T0_at, List.getElem?_cons_zero, List.getElem?_cons_succ, List.getElem?_nil, Option.getD_some, Option.getD_none, reduceIte, ↓reduceIte, Nat.reduceEqDiff]; refine jl_go ?_) | simp (disch := omega) only [go_sem, hB] | (refine jc_t ?_) | (refine jc_f ?_) | (refine z_ret (hm) ?_) | (refine And.intro (by (first | omega | (simp; done) | (simp; omega))) ?_) | (refine mc_b (fun hs => ?_) fun hs => ?_) | (refine mg_st (fun hs => ?_) fun hs => ?_) | (refine mg_sf (fun hs => ?_) fun hs => ?_) | (refine mall_s (fun hs => ?_) fun hs => ?_) | (refine malln_s (fun hs => ?_) fun hs => ?_) | (refine mpk_s (fun hs => ?_) fun hs => ?_) | ((repeat ((fail_if_success (refine hK _ _ (cl_id ?_))); clear hK)); refine hK _ _ (cl_id ?_); clear hK)))
    refine z_call hc ?_
    rintro _ H1 ⟨o, rfl, row1, ho, gr1⟩
    have it1 : ∀ a ∈ p, ∃ i : Int, H1[a.1]? = some (itO a i) := fun a ha => by
      obtain ⟨i, hi, rfl⟩ := List.getElem_of_mem ha
      have := T.it i hi
      rw [at3_eq hi] at this
      exact ⟨i, (gr1.2 _ (S.lt (.inr (.inr (.inr (List.mem_map.2 ⟨_, ha, rfl⟩)))))).trans this⟩
    have hso := tsort_am row1 it1 S.ms.nd hl
    rw [nms_len]
    have lo := (List.getElem?_eq_some_iff.1 row1).1
    have hsl := srtT_len p
    have it2 : ∀ a ∈ srtT p, ∃ i : Int, H[a.1]? = some (itO a i) ∧ a.1 < H.length := fun a ha => by
      have ha := (srtT_perm p).mem_iff.1 ha
      obtain ⟨i, hi, rfl⟩ := List.getElem_of_mem ha
      have := T.it i hi
      rw [at3_eq hi] at this
      exact ⟨i, this, S.lt (.inr (.inr (.inr (List.mem_map.2 ⟨_, ha, rfl⟩))))⟩
    (repeat' (first | (have hs := Mk.out hs; (try simp only [decide_eq_true_eq, decide_eq_false_iff_not, Bool.not_eq_true, Bool.not_eq_false, Bool.not_true, Bool.not_false, Bool.not_eq_eq_eq_not, Bool.and_eq_true, Bool.or_eq_true, beq_iff_eq, bne_iff_ne, beq_eq_false_iff_ne, ne_eq, Classical.not_not, not_true_eq_false, not_false_eq_true, forall_const, Bool.false_eq_true, false_implies, eq_self] at hs); (try (exfalso; omega)); (try simp (disch := omega) only [go_sem, hs])) | (refine z_seqr rfl ?_) | (refine w_seq rfl fun K hK => ?_) | (refine z_reg rfl ?_) | (refine z_cond rfl ?_) | (refine w_skip rfl ?_; ((repeat ((fail_if_success (refine hK _ _ (cl_id ?_))); clear hK)); refine hK _ _ (cl_id ?_); clear hK)) | (refine w_ret rfl ?_; (try dsimp only [anorm, ablock, astay]); refine z_end ?_) | (refine z_end0 ?_) | (refine w_block rfl ?_) | (refine w_scope rfl ?_) | (refine w_label rfl ?_; ((repeat ((fail_if_success (refine hK _ _ (cl_id ?_))); clear hK)); refine hK _ _ (cl_id ?_); clear hK)) | (refine w_exit rfl ?_; (try dsimp only [anorm, ablock, astay]); (try simp only [reduceIte, ↓reduceIte, Nat.reduceEqDiff]); ((repeat ((fail_if_success (refine hK _ _ (cl_id ?_))); clear hK)); refine hK _ _ (cl_id ?_); clear hK)) | (refine w_exit rfl ?_; (try dsimp only [anorm, ablock, astay]); (try simp only [reduceIte, ↓reduceIte, Nat.reduceEqDiff]); refine z_end0 ?_) | (refine jend_go [(11, [2]), (10, [4, 17, 18, 19]), (9, [4, 17, 18, 19]), (8, [4, 6, 17, 18, 19]), (7, [4, 17, 18, 19, 20]), (6, [4, 17, 18, 19]), (5, [3, 4]), (4, [3]), (3, [3]), (2, [2]), (1, [0, 9]), (0, [0])] ?_; simp only [tabAt_cons, sel_nil, sel_cons, put_at, ofl_cons, ofl_nil, T0_at, List.getElem?_cons_zero, List.getElem?_cons_succ, List.getElem?_nil, Option.getD_some, Option.getD_none, reduceIte, ↓reduceIte, Nat.reduceEqDiff]; refine jl_go ?_) | simp (disch := omega) only [go_sem] | (refine jc_t ?_) | (refine jc_f ?_) | (refine z_ret (hso) ?_) | (refine And.intro (by (first | omega | (simp; done) | (simp; omega))) ?_) | (refine mc_b (fun hs => ?_) fun hs => ?_) | (refine mg_st (fun hs => ?_) fun hs => ?_) | (refine mg_sf (fun hs => ?_) fun hs => ?_) | (refine mall_s (fun hs => ?_) fun hs => ?_) | (refine malln_s (fun hs => ?_) fun hs => ?_) | (refine mpk_s (fun hs => ?_) fun hs => ?_) | ((repeat ((fail_if_success (refine hK _ _ (cl_id ?_))); clear hK)); refine hK _ _ (cl_id ?_); clear hK)))
    obtain ⟨H2, eH2⟩ : ∃ H2, H2 = H1.set o (some (.row true 1 (nms (srtT p)))) := ⟨_, rfl⟩
    have row2 : H2[o]? = some (some (.row true 1 (nms (srtT p)))) := by rw [eH2, List.getElem?_set, if_pos rfl, if_pos lo]
    have gr2 : Gr H H2 := by rw [eH2]; exact gr1.set ho _
    rw [← eH2]
    clear hso eH2
    subst el
    rw [← hsl]
    generalize srtT p = p2 at *
    refine z_loop rfl (AlP H o p2) (fun s => p2.length - s.i) (fun s => [(4, .hs s.o 2 0 s.i), (17, .hs o 1 0 p2.length), (18, .v (.int .i64 (p2.length : Int))), (19, .v (.int .i64 (s.i : Int)))]) (fun s => s.G) ⟨H2 ++ [some (.row true 2 [])], H2.length, 0⟩ ⟨gr2.trans (Gr.app _ _), at_app row2 _, by simp; rfl, gr2.1, Nat.zero_le _⟩ ?_ ?_
    · refine (cq_bare 2 4 rfl).trans (cq_s ?_)
      (simp (disch := omega) only [go_sem])
    rintro ⟨G, o2, i⟩ ⟨gr, srow, row, ho2, hi⟩ Ko hKo
    simp only at gr srow row ho2 hi ⊢
    by_cases hlt : (i : Int) < p2.length
    · have hin : i < p2.length := by omega
      have g1 := nms_get hin
      have g3 := nms_I hin
      obtain ⟨pl, hx, hxl⟩ := it2 _ (at3_mem hin)
      have hx := (gr.2 _ hxl).trans hx
      have ka := kt_at hin
      have hKo2 := fun T' H' o' (P' : AlP H o p2 ⟨H', o', i + 1⟩) => hKo T' H' ⟨H', o', i + 1⟩ P' (by simp only; omega)
      simp only at hKo2
      clear hKo
      generalize at3 p2 i = a at *
      obtain ⟨x, kx, tx⟩ := a
      unfold itO at hx
      simp only at hx g1 g3 ka
      have nl := nms_len p2
      have hxL := at_app hx
      have srL := at_app srow
      have roL := at_app row
      obtain ⟨H3, eH3⟩ : ∃ H3, H3 = (G ++ [some (Blk.row true 2 [[.v (.int .i64 kx), .v (.int .i64 tx)]])]).set o2 none := ⟨_, rfl⟩
      have eH3' := eH3.symm
      obtain ⟨acc, ha⟩ : ∃ acc, acc = (kt p2).take i := ⟨_, rfl⟩
      have tl : acc.length = i := by rw [ha, List.length_take]; unfold kt; rw [List.length_map]; omega
      rw [← ha] at row roL ka
      have tk2 : acc.take i = acc := by rw [← tl, List.take_length]
      have il : i ≤ acc.length := by omega
      have lH3 : H3.length = G.length + 1 := by rw [eH3]; simp
      (repeat' (first | (have hs := Mk.out hs; (try simp only [decide_eq_true_eq, decide_eq_false_iff_not, Bool.not_eq_true, Bool.not_eq_false, Bool.not_true, Bool.not_false, Bool.not_eq_eq_eq_not, Bool.and_eq_true, Bool.or_eq_true, beq_iff_eq, bne_iff_ne, beq_eq_false_iff_ne, ne_eq, Classical.not_not, not_true_eq_false, not_false_eq_true, forall_const, Bool.false_eq_true, false_implies, eq_self] at hs); (try (exfalso; omega)); (try simp (disch := omega) only [go_sem, hlt, g1, g3, hx, hxL, srow, srL, row, roL, eH3', tk2, il, tl, nl, hs])) | (refine z_seqr rfl ?_) | (refine w_seq rfl fun K hK => ?_) | (refine z_reg rfl ?_) | (refine z_cond rfl ?_) | (refine w_skip rfl ?_; ((repeat ((fail_if_success (refine hK _ _ (cl_id ?_))); clear hK)); refine hK _ _ (cl_id ?_); clear hK)) | (refine w_ret rfl ?_; (try dsimp only [anorm, ablock, astay]); refine z_end ?_) | (refine z_end0 ?_) | (refine w_block rfl ?_) | (refine w_scope rfl ?_) | (refine w_label rfl ?_; ((repeat ((fail_if_success (refine hK _ _ (cl_id ?_))); clear hK)); refine hK _ _ (cl_id ?_); clear hK)) | (refine w_exit rfl ?_; (try dsimp only [anorm, ablock, astay]); (try simp only [reduceIte, ↓reduceIte, Nat.reduceEqDiff]); ((repeat ((fail_if_success (refine hK _ _ (cl_id ?_))); clear hK)); refine hK _ _ (cl_id ?_); clear hK)) | (refine w_exit rfl ?_; (try dsimp only [anorm, ablock, astay]); (try simp only [reduceIte, ↓reduceIte, Nat.reduceEqDiff]); refine z_end0 ?_) | (refine jend_go [(11, [2]), (10, [4, 17, 18, 19]), (9, [4, 17, 18, 19]), (8, [4, 6, 17, 18, 19]), (7, [4, 17, 18, 19, 20]), (6, [4, 17, 18, 19]), (5, [3, 4]), (4, [3]), (3, [3]), (2, [2]), (1, [0, 9]), (0, [0])] ?_; simp only [tabAt_cons, sel_nil, sel_cons, put_at, ofl_cons, ofl_nil, T0_at, List.getElem?_cons_zero, List.getElem?_cons_succ, List.getElem?_nil, Option.getD_some, Option.getD_none, reduceIte, ↓reduceIte, Nat.reduceEqDiff]; refine jl_go ?_) | simp (disch := omega) only [go_sem, hlt, g1, g3, hx, hxL, srow, srL, row, roL, eH3', tk2, il, tl, nl] | (refine jc_t ?_) | (refine jc_f ?_) | (refine And.intro (by (first | omega | (simp; done) | (simp; omega))) ?_) | (refine mc_b (fun hs => ?_) fun hs => ?_) | (refine mg_st (fun hs => ?_) fun hs => ?_) | (refine mg_sf (fun hs => ?_) fun hs => ?_) | (refine mall_s (fun hs => ?_) fun hs => ?_) | (refine malln_s (fun hs => ?_) fun hs => ?_) | (refine mpk_s (fun hs => ?_) fun hs => ?_) | ((repeat ((fail_if_success (refine hK _ _ (cl_id ?_))); clear hK)); refine hK _ _ (cl_id ?_); clear hK)))
      have lo1 := (List.getElem?_eq_some_iff.1 srow).1
      have no : o2 ≠ o := fun e => by
        rw [e, srow] at row
        simp at row
      have gl := gr.1
      refine hKo2 _ _ (G.length + 1) ⟨⟨by simp only [List.length_append]; omega, fun k hk => ?_⟩, ?_, ?_, ?_, ?_⟩ (cq_s ?_)
      · rw [List.getElem?_append_left (by omega), eH3]
        exact (set_o (by omega) (by omega)).trans (gr.2 k hk)
      · simp only
        rw [List.getElem?_append_left (by omega), eH3]
        exact (set_o lo1 (Ne.symm no)).trans srow
      · simp only
        rw [List.getElem?_append_right (by omega), lH3, Nat.sub_self, ka]
        rfl
      · simp only
        omega
      · simp only
        omega
      · (simp (disch := omega) only [go_sem])
        omega
    · obtain rfl : i = p2.length := by omega
      have kl : (kt p2).take p2.length = kt p2 := List.take_of_length_le (by unfold kt; rw [List.length_map]; exact Nat.le_refl _)
      rw [kl] at row
      clear hKo
      (repeat' (first | (have hs := Mk.out hs; (try simp only [decide_eq_true_eq, decide_eq_false_iff_not, Bool.not_eq_true, Bool.not_eq_false, Bool.not_true, Bool.not_false, Bool.not_eq_eq_eq_not, Bool.and_eq_true, Bool.or_eq_true, beq_iff_eq, bne_iff_ne, beq_eq_false_iff_ne, ne_eq, Classical.not_not, not_true_eq_false, not_false_eq_true, forall_const, Bool.false_eq_true, false_implies, eq_self] at hs); (try (exfalso; omega)); (try simp (disch := omega) only [go_sem, hlt, hs])) | (refine z_seqr rfl ?_) | (refine w_seq rfl fun K hK => ?_) | (refine z_reg rfl ?_) | (refine z_cond rfl ?_) | (refine w_skip rfl ?_; ((repeat ((fail_if_success (refine hK _ _ (cl_id ?_))); clear hK)); refine hK _ _ (cl_id ?_); clear hK)) | (refine w_ret rfl ?_; (try dsimp only [anorm, ablock, astay]); refine z_end ?_) | (refine z_end0 ?_) | (refine w_block rfl ?_) | (refine w_scope rfl ?_) | (refine w_label rfl ?_; ((repeat ((fail_if_success (refine hK _ _ (cl_id ?_))); clear hK)); refine hK _ _ (cl_id ?_); clear hK)) | (refine w_exit rfl ?_; (try dsimp only [anorm, ablock, astay]); (try simp only [reduceIte, ↓reduceIte, Nat.reduceEqDiff]); ((repeat ((fail_if_success (refine hK _ _ (cl_id ?_))); clear hK)); refine hK _ _ (cl_id ?_); clear hK)) | (refine w_exit rfl ?_; (try dsimp only [anorm, ablock, astay]); (try simp only [reduceIte, ↓reduceIte, Nat.reduceEqDiff]); refine z_end0 ?_) | (refine jend_go [(11, [2]), (10, [4, 17, 18, 19]), (9, [4, 17, 18, 19]), (8, [4, 6, 17, 18, 19]), (7, [4, 17, 18, 19, 20]), (6, [4, 17, 18, 19]), (5, [3, 4]), (4, [3]), (3, [3]), (2, [2]), (1, [0, 9]), (0, [0])] ?_; simp only [tabAt_cons, sel_nil, sel_cons, put_at, ofl_cons, ofl_nil, T0_at, List.getElem?_cons_zero, List.getElem?_cons_succ, List.getElem?_nil, Option.getD_some, Option.getD_none, reduceIte, ↓reduceIte, Nat.reduceEqDiff]; refine jl_go ?_) | simp (disch := omega) only [go_sem, hlt] | (refine jc_t ?_) | (refine jc_f ?_) | (refine And.intro (by (first | omega | (simp; done) | (simp; omega))) ?_) | (refine mc_b (fun hs => ?_) fun hs => ?_) | (refine mg_st (fun hs => ?_) fun hs => ?_) | (refine mg_sf (fun hs => ?_) fun hs => ?_) | (refine mall_s (fun hs => ?_) fun hs => ?_) | (refine malln_s (fun hs => ?_) fun hs => ?_) | (refine mpk_s (fun hs => ?_) fun hs => ?_) | ((repeat ((fail_if_success (refine hK _ _ (cl_id ?_))); clear hK)); refine hK _ _ (cl_id ?_); clear hK)))
      exact end_ice row (by simp [cels, kt]) ⟨rfl, gr.set ho2 _⟩
  · have hm := made_am hB
    have hc := tclone0_am (H := H)
    have hso := tsort0_am (H := H)
    have e0 : l = [] := List.length_eq_zero_iff.1 (by have := pm.length_eq; exact this)
    subst e0
    have e1 : cels ([] : List (Int × Int)) = [] := rfl
    rw [e1]
    refine calls_q (calls_of Try.func18 rfl (by kernel_rfl) (by kernel_rfl) (by rw [Try.ntmps18]; exact Nat.le_of_ble_eq_true rfl) (fun hH0 hA0 => ?_)); rw [Try.results18]
    (repeat' (first | (have hs := Mk.out hs; (try simp only [decide_eq_true_eq, decide_eq_false_iff_not, Bool.not_eq_true, Bool.not_eq_false, Bool.not_true, Bool.not_false, Bool.not_eq_eq_eq_not, Bool.and_eq_true, Bool.or_eq_true, beq_iff_eq, bne_iff_ne, beq_eq_false_iff_ne, ne_eq, Classical.not_not, not_true_eq_false, not_false_eq_true, forall_const, Bool.false_eq_true, false_implies, eq_self] at hs); (try (exfalso; omega)); (try simp (disch := omega) only [go_sem, hB, hs])) | (refine z_seqr rfl ?_) | (refine w_seq rfl fun K hK => ?_) | (refine z_reg rfl ?_) | (refine z_cond rfl ?_) | (refine w_skip rfl ?_; ((repeat ((fail_if_success (refine hK _ _ (cl_id ?_))); clear hK)); refine hK _ _ (cl_id ?_); clear hK)) | (refine w_ret rfl ?_; (try dsimp only [anorm, ablock, astay]); refine z_end ?_) | (refine z_end0 ?_) | (refine w_block rfl ?_) | (refine w_scope rfl ?_) | (refine w_label rfl ?_; ((repeat ((fail_if_success (refine hK _ _ (cl_id ?_))); clear hK)); refine hK _ _ (cl_id ?_); clear hK)) | (refine w_exit rfl ?_; (try dsimp only [anorm, ablock, astay]); (try simp only [reduceIte, ↓reduceIte, Nat.reduceEqDiff]); ((repeat ((fail_if_success (refine hK _ _ (cl_id ?_))); clear hK)); refine hK _ _ (cl_id ?_); clear hK)) | (refine w_exit rfl ?_; (try dsimp only [anorm, ablock, astay]); (try simp only [reduceIte, ↓reduceIte, Nat.reduceEqDiff]); refine z_end0 ?_) | (refine jend_go [(11, [2]), (10, [4, 17, 18, 19]), (9, [4, 17, 18, 19]), (8, [4, 6, 17, 18, 19]), (7, [4, 17, 18, 19, 20]), (6, [4, 17, 18, 19]), (5, [3, 4]), (4, [3]), (3, [3]), (2, [2]), (1, [0, 9]), (0, [0])] ?_; simp only [tabAt_cons, sel_nil, sel_cons, put_at, ofl_cons, ofl_nil, T0_at, List.getElem?_cons_zero, List.getElem?_cons_succ, List.getElem?_nil, Option.getD_some, Option.getD_none, reduceIte, ↓reduceIte, Nat.reduceEqDiff]; refine jl_go ?_) | simp (disch := omega) only [go_sem, hB] | (refine jc_t ?_) | (refine jc_f ?_) | (refine z_ret (hm) ?_) | (refine z_ret (hc) ?_) | (refine z_ret (hso) ?_) | (refine And.intro (by (first | omega | (simp; done) | (simp; omega))) ?_) | (refine mc_b (fun hs => ?_) fun hs => ?_) | (refine mg_st (fun hs => ?_) fun hs => ?_) | (refine mg_sf (fun hs => ?_) fun hs => ?_) | (refine mall_s (fun hs => ?_) fun hs => ?_) | (refine malln_s (fun hs => ?_) fun hs => ?_) | (refine mpk_s (fun hs => ?_) fun hs => ?_) | ((repeat ((fail_if_success (refine hK _ _ (cl_id ?_))); clear hK)); refine hK _ _ (cl_id ?_); clear hK)))
    refine z_loop (α := Nat) rfl (fun _ => True) (fun s => s) (fun _ => [(4, .v (.slice none 0 0)), (17, .v (.slice none 0 0)), (18, .v (.int .i64 0)), (19, .v (.int .i64 0))]) (fun _ => H) 0 trivial (cq_s ?_) ?_
    · (simp (disch := omega) only [go_sem])
    intro i _ Ko hKo
    clear hKo
    (repeat' (first | (have hs := Mk.out hs; (try simp only [decide_eq_true_eq, decide_eq_false_iff_not, Bool.not_eq_true, Bool.not_eq_false, Bool.not_true, Bool.not_false, Bool.not_eq_eq_eq_not, Bool.and_eq_true, Bool.or_eq_true, beq_iff_eq, bne_iff_ne, beq_eq_false_iff_ne, ne_eq, Classical.not_not, not_true_eq_false, not_false_eq_true, forall_const, Bool.false_eq_true, false_implies, eq_self] at hs); (try (exfalso; omega)); (try simp (disch := omega) only [go_sem, hs])) | (refine z_seqr rfl ?_) | (refine w_seq rfl fun K hK => ?_) | (refine z_reg rfl ?_) | (refine z_cond rfl ?_) | (refine w_skip rfl ?_; ((repeat ((fail_if_success (refine hK _ _ (cl_id ?_))); clear hK)); refine hK _ _ (cl_id ?_); clear hK)) | (refine w_ret rfl ?_; (try dsimp only [anorm, ablock, astay]); refine z_end ?_) | (refine z_end0 ?_) | (refine w_block rfl ?_) | (refine w_scope rfl ?_) | (refine w_label rfl ?_; ((repeat ((fail_if_success (refine hK _ _ (cl_id ?_))); clear hK)); refine hK _ _ (cl_id ?_); clear hK)) | (refine w_exit rfl ?_; (try dsimp only [anorm, ablock, astay]); (try simp only [reduceIte, ↓reduceIte, Nat.reduceEqDiff]); ((repeat ((fail_if_success (refine hK _ _ (cl_id ?_))); clear hK)); refine hK _ _ (cl_id ?_); clear hK)) | (refine w_exit rfl ?_; (try dsimp only [anorm, ablock, astay]); (try simp only [reduceIte, ↓reduceIte, Nat.reduceEqDiff]); refine z_end0 ?_) | (refine jend_go [(11, [2]), (10, [4, 17, 18, 19]), (9, [4, 17, 18, 19]), (8, [4, 6, 17, 18, 19]), (7, [4, 17, 18, 19, 20]), (6, [4, 17, 18, 19]), (5, [3, 4]), (4, [3]), (3, [3]), (2, [2]), (1, [0, 9]), (0, [0])] ?_; simp only [tabAt_cons, sel_nil, sel_cons, put_at, ofl_cons, ofl_nil, T0_at, List.getElem?_cons_zero, List.getElem?_cons_succ, List.getElem?_nil, Option.getD_some, Option.getD_none, reduceIte, ↓reduceIte, Nat.reduceEqDiff]; refine jl_go ?_) | simp (disch := omega) only [go_sem] | (refine jc_t ?_) | (refine jc_f ?_) | (refine And.intro (by (first | omega | (simp; done) | (simp; omega))) ?_) | (refine mc_b (fun hs => ?_) fun hs => ?_) | (refine mg_st (fun hs => ?_) fun hs => ?_) | (refine mg_sf (fun hs => ?_) fun hs => ?_) | (refine mall_s (fun hs => ?_) fun hs => ?_) | (refine malln_s (fun hs => ?_) fun hs => ?_) | (refine mpk_s (fun hs => ?_) fun hs => ?_) | ((repeat ((fail_if_success (refine hK _ _ (cl_id ?_))); clear hK)); refine hK _ _ (cl_id ?_); clear hK)))
    exact ⟨ofl [(0, .sl 2 [])], H, cq_s ⟨Wk.nil 2, trivial⟩, rfl, Nat.le_refl _, fun _ _ => rfl⟩
end
end Go.Proofs.Ytmafdnbdaaedgaa
