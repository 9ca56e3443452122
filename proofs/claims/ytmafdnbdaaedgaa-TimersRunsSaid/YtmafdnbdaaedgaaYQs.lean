/- Timers: all, in order, by the machine. No condition. -/
import Derived.Test.YtmafdnbdaaedgaaYQq
import Derived.Test.YtmafdnbdaaedgaaYQr
import Derived.Test.YtmafdnbdaaedgaaYb1
import Derived.Test.YtmafdnbdaaedgaaYgs
set_option linter.unusedSectionVars false
set_option linter.unusedVariables false
set_option linter.unusedSimpArgs false
set_option linter.deprecated false
namespace Go.Proofs.Ytmafdnbdaaedgaa
open Go.RowKit Go.Cx Go.Am Go.Sort
set_option maxRecDepth 8000
set_option maxHeartbeats 2000000
attribute [local irreducible] ACalls jcall jsame jex jexg jexh jguard jconv jload jpart jstore jbin jslice jidxA jidx jfield jfieldA jbuild jbuildS jmake jappend jlen jpick jres jcnd jcopy jcap jborn jdraw jops jop jstr jstrc jlive jend jlenM jmmake jlook jmput jmdel jrange jnext jentry jlk jmp2 jmd2 jlm jrg jnx jny jen jeo jinvoke jmkI jtyA
attribute [local go_sem] reduceIte Nat.reduceEqDiff Nat.reduceAdd Nat.reduceMul Nat.reduceLT Nat.reduceLeDiff Nat.reduceSub Int.reduceLT Int.reduceLE Int.reduceToNat Int.reduceNeg Int.reduceAdd Int.reduceSub UInt8.reduceToNat Int.reduceEq reduceCtorEq Int.reducePow Int.reduceMul Nat.reducePow E0
attribute [local go_sem ↓] reduceIte
attribute [local go_sem high] chunks_bvs
attribute [local go_sem] jop_makeMap jop_lookup jop_mapUpdate jop_delete jop_range jop_next jop_entry jmmake_m jlook_m jlk_mI jmput_m jmdel_m jmd2_mB jlm_mB jrange_m jnext_m jnx_m jentry_m jen_m jeo_mS bmap_mI bmap_mSI mB_nil vI nbB_o nbB_r nbB_i bmap_o bmap_r bmap_i gfB_o gfB_r gfB_i jop_invoke jop_makeInterface jop_typeAssert jinvoke_m jmkI_m jtyA_m ifp_nb
attribute [local go_sem ←] List.map_take List.map_drop

/-- More is laid behind. -/
def Gr (H H' : Heap) : Prop := H.length ≤ H'.length ∧ ∀ k, k < H.length → H'[k]? = H[k]?
theorem Gr.app (H L : Heap) : Gr H (H ++ L) := ⟨by simp, fun k hk => at_app' hk L⟩
theorem Gr.trans {A B C : Heap} (h : Gr A B) (g : Gr B C) : Gr A C := ⟨Nat.le_trans h.1 g.1, fun k hk => (g.2 k (Nat.lt_of_lt_of_le hk h.1)).trans (h.2 k hk)⟩
theorem Gr.set {A B : Heap} (h : Gr A B) {o : Nat} (ho : A.length ≤ o) (x : Option Blk) : Gr A (B.set o x) := ⟨by rw [List.length_set]; exact h.1, fun k hk => (List.getElem?_set_ne (by omega)).trans (h.2 k hk)⟩
def RowR (H : Heap) (sz : Nat) (es : List (List AV)) (r : AV) (H' : Heap) : Prop := ∃ o, r = .hs o sz 0 es.length ∧ H'[o]? = some (some (.row true sz es)) ∧ H.length ≤ o ∧ Gr H H'
section
variable {H : Heap} {b c q : Nat} {m : List (Int × Nat)} {p : List It} {Z : List (List AV)}
theorem tclone_am (T : Tm H b c q p Z) (hpl : p.length ≤ 1000000) : ACalls E0 22 [.hs q 1 0 p.length] H fun r H' => RowR H 1 (nms p) r H' := by
  have hr := at_app T.row
  have tk := nmz_take (p := p) (Z := Z)
  have nl := nmz_len p Z
  have hl := nms_len p
  generalize nmz p Z = R0 at *
  generalize p.length = n at *
  have hn : n ≤ R0.length := by omega
  have u : Try.prog.underlying 50 = some (.slice 56) := by kernel_rfl
  have hz : n ≤ n + Z.length := by omega
  have hb : n ≤ 68719476736 := by omega
  by_cases h0 : n = 0
  · subst h0
    have e0 : nms p = [] := List.length_eq_zero_iff.1 hl
    rw [e0] at tk
    have fin : ∀ L : Heap, RowR H 1 (nms p) (.hs (H.length + L.length) 1 0 0) (H ++ (L ++ [some (.row true 1 [])])) := fun L => ⟨H.length + L.length, by rw [hl], by rw [e0, ← List.append_assoc, List.getElem?_append_right (by simp), List.length_append, Nat.sub_self]; rfl, by omega, Gr.app _ _⟩
    refine calls_q (calls_of Try.func22 rfl (by kernel_rfl) (by kernel_rfl) (by rw [Try.ntmps22]; exact Nat.le_of_ble_eq_true rfl) (fun hH0 hA0 => ?_)); rw [Try.results22]
    (repeat' (first | (have hs := Mk.out hs; (try simp only [decide_eq_true_eq, decide_eq_false_iff_not, Bool.not_eq_true, Bool.not_eq_false, Bool.not_true, Bool.not_false, Bool.not_eq_eq_eq_not, Bool.and_eq_true, Bool.or_eq_true, beq_iff_eq, bne_iff_ne, beq_eq_false_iff_ne, ne_eq, Classical.not_not, not_true_eq_false, not_false_eq_true, forall_const, Bool.false_eq_true, false_implies, eq_self] at hs); (try (exfalso; omega)); (try simp (disch := omega) only [go_sem, hr, tk, nl, hn, u, hz, hs])) | (refine z_seqr rfl ?_) | (refine w_seq rfl fun K hK => ?_) | (refine z_reg rfl ?_) | (refine z_cond rfl ?_) | (refine w_skip rfl ?_; ((repeat ((fail_if_success (refine hK _ _ (cl_id ?_))); clear hK)); refine hK _ _ (cl_id ?_); clear hK)) | (refine w_ret rfl ?_; (try dsimp only [anorm, ablock, astay]); refine z_end ?_) | (refine z_end0 ?_) | (refine w_block rfl ?_) | (refine w_scope rfl ?_) | (refine w_label rfl ?_; ((repeat ((fail_if_success (refine hK _ _ (cl_id ?_))); clear hK)); refine hK _ _ (cl_id ?_); clear hK)) | (refine w_exit rfl ?_; (try dsimp only [anorm, ablock, astay]); (try simp only [reduceIte, ↓reduceIte, Nat.reduceEqDiff]); ((repeat ((fail_if_success (refine hK _ _ (cl_id ?_))); clear hK)); refine hK _ _ (cl_id ?_); clear hK)) | (refine w_exit rfl ?_; (try dsimp only [anorm, ablock, astay]); (try simp only [reduceIte, ↓reduceIte, Nat.reduceEqDiff]); refine z_end0 ?_) | (refine jend_go [(3, [2]), (2, [2]), (1, [0, 4]), (0, [0])] ?_; simp only [tabAt_cons, sel_nil, sel_cons, put_at, ofl_cons, ofl_nil, T0_at, List.getElem?_cons_zero, List.getElem?_cons_succ, List.getElem?_nil, Option.getD_some, Option.getD_none, reduceIte, ↓reduceIte, Nat.reduceEqDiff]; refine jl_go ?_) | simp (disch := omega) only [go_sem, hr, tk, nl, hn, u, hz] | (refine jc_t ?_) | (refine jc_f ?_) | (refine And.intro (by (first | omega | (simp; done) | (simp; omega))) ?_) | (refine mc_b (fun hs => ?_) fun hs => ?_) | (refine mg_st (fun hs => ?_) fun hs => ?_) | (refine mg_sf (fun hs => ?_) fun hs => ?_) | (refine mall_s (fun hs => ?_) fun hs => ?_) | (refine malln_s (fun hs => ?_) fun hs => ?_) | (refine mpk_s (fun hs => ?_) fun hs => ?_) | ((repeat ((fail_if_success (refine hK _ _ (cl_id ?_))); clear hK)); refine hK _ _ (cl_id ?_); clear hK)))
    · exact ⟨_, _, cq_bare 1 0 rfl, fin []⟩
    · exact cl_id (fin [none])
  · have fin : RowR H 1 (nms p) (.hs (H.length + 1) 1 0 n) (H ++ [none, some (Blk.row true 1 (nms p))]) := ⟨H.length + 1, by rw [hl], by rw [List.getElem?_append_right (by omega), Nat.add_sub_cancel_left]; rfl, by omega, Gr.app _ _⟩
    refine calls_q (calls_of Try.func22 rfl (by kernel_rfl) (by kernel_rfl) (by rw [Try.ntmps22]; exact Nat.le_of_ble_eq_true rfl) (fun hH0 hA0 => ?_)); rw [Try.results22]
    (repeat' (first | (have hs := Mk.out hs; (try simp only [decide_eq_true_eq, decide_eq_false_iff_not, Bool.not_eq_true, Bool.not_eq_false, Bool.not_true, Bool.not_false, Bool.not_eq_eq_eq_not, Bool.and_eq_true, Bool.or_eq_true, beq_iff_eq, bne_iff_ne, beq_eq_false_iff_ne, ne_eq, Classical.not_not, not_true_eq_false, not_false_eq_true, forall_const, Bool.false_eq_true, false_implies, eq_self] at hs); (try (exfalso; omega)); (try simp (disch := omega) only [go_sem, hr, tk, nl, h0, hn, u, hz, hl, hb, hs])) | (refine z_seqr rfl ?_) | (refine w_seq rfl fun K hK => ?_) | (refine z_reg rfl ?_) | (refine z_cond rfl ?_) | (refine w_skip rfl ?_; ((repeat ((fail_if_success (refine hK _ _ (cl_id ?_))); clear hK)); refine hK _ _ (cl_id ?_); clear hK)) | (refine w_ret rfl ?_; (try dsimp only [anorm, ablock, astay]); refine z_end ?_) | (refine z_end0 ?_) | (refine w_block rfl ?_) | (refine w_scope rfl ?_) | (refine w_label rfl ?_; ((repeat ((fail_if_success (refine hK _ _ (cl_id ?_))); clear hK)); refine hK _ _ (cl_id ?_); clear hK)) | (refine w_exit rfl ?_; (try dsimp only [anorm, ablock, astay]); (try simp only [reduceIte, ↓reduceIte, Nat.reduceEqDiff]); ((repeat ((fail_if_success (refine hK _ _ (cl_id ?_))); clear hK)); refine hK _ _ (cl_id ?_); clear hK)) | (refine w_exit rfl ?_; (try dsimp only [anorm, ablock, astay]); (try simp only [reduceIte, ↓reduceIte, Nat.reduceEqDiff]); refine z_end0 ?_) | (refine jend_go [(3, [2]), (2, [2]), (1, [0, 4]), (0, [0])] ?_; simp only [tabAt_cons, sel_nil, sel_cons, put_at, ofl_cons, ofl_nil, T0_at, List.getElem?_cons_zero, List.getElem?_cons_succ, List.getElem?_nil, Option.getD_some, Option.getD_none, reduceIte, ↓reduceIte, Nat.reduceEqDiff]; refine jl_go ?_) | simp (disch := omega) only [go_sem, hr, tk, nl, h0, hn, u, hz, hl, hb] | (refine jc_t ?_) | (refine jc_f ?_) | (refine And.intro (by (first | omega | (simp; done) | (simp; omega))) ?_) | (refine mc_b (fun hs => ?_) fun hs => ?_) | (refine mg_st (fun hs => ?_) fun hs => ?_) | (refine mg_sf (fun hs => ?_) fun hs => ?_) | (refine mall_s (fun hs => ?_) fun hs => ?_) | (refine malln_s (fun hs => ?_) fun hs => ?_) | (refine mpk_s (fun hs => ?_) fun hs => ?_) | ((repeat ((fail_if_success (refine hK _ _ (cl_id ?_))); clear hK)); refine hK _ _ (cl_id ?_); clear hK)))
    exact cl_id fin
/-- The sort of no row. -/
theorem tsort0_am : ACalls E0 23 [.v (.slice none 0 0), .fn 24 [] []] H fun x H' => x = .tup [] ∧ H' = H := by
  refine acalls_raw Try.func23 rfl (by kernel_rfl) fun w M vs hG hv => ?_
  unfold VRt VRt VRt at hv
  obtain ⟨v0, r0, rfl, k0, v1, r1, rfl, k1, rfl⟩ := hv
  unfold VR at k0 k1
  obtain ⟨us1, ks1, rfl, k2, k3⟩ := k1
  unfold VRt at k2 k3
  subst k2 k3 k0
  refine (sortT0 none 0 w).mono ?_
  rintro e w' ⟨rfl, rfl⟩
  exact ⟨_, _, _, M, rfl, ⟨rfl, rfl⟩, hG, by unfold VR; exact ⟨[], rfl, by unfold VRt; rfl⟩, Ext.refl _ _ _⟩
/-- The row of timers, in order. -/
theorem le3_b (x y : It) : (!(ltOf cmp3 y x)) = true ↔ ¬ lt3 y x := by
  rw [ltT]
  by_cases h : lt3 y x
  · rw [decide_eq_true h]; simp [h]
  · rw [decide_eq_false h]; simp [h]
theorem srt_pw {p : List It} (nd : (p.map (·.2.1)).Nodup) : (kt (srtT p)).Pairwise lt2 := by
  have tot : ∀ x y : It, (!(ltOf cmp3 y x) || !(ltOf cmp3 x y)) = true := fun x y => by
    rw [Bool.or_eq_true, le3_b, le3_b]
    unfold lt3
    omega
  have tr : ∀ x y z : It, (!(ltOf cmp3 y x)) = true → (!(ltOf cmp3 z y)) = true → (!(ltOf cmp3 z x)) = true := fun x y z h1 h2 => by
    rw [le3_b] at *
    unfold lt3 at *
    omega
  have h := List.pairwise_mergeSort (le := fun x y => !(ltOf cmp3 y x)) tr tot p
  have nd2 : ((srtT p).map (·.2.1)).Nodup := (((srtT_perm p).map _).nodup_iff).2 nd
  unfold kt
  rw [List.pairwise_map]
  have nd3 := List.pairwise_map.1 nd2
  refine (h.and nd3).imp ?_
  rintro x y ⟨h1, h2⟩
  have h1 := (le3_b x y).1 h1
  unfold lt3 at h1
  unfold lt2
  omega
/-- One row alone is in order. -/
theorem pw_one {l l2 : List (Int × Int)} (h1 : l.Pairwise lt2) (h2 : l2.Pairwise lt2) (pm : l.Perm l2) : l = l2 := by
  refine List.Perm.eq_of_pairwise (fun x y _ _ a b => ?_) h1 h2 pm
  unfold lt2 at a b
  omega
end
end Go.Proofs.Ytmafdnbdaaedgaa
