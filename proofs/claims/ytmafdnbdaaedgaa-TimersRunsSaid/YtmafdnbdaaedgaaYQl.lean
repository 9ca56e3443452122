/- Timers: the comparison, told as the library's sort wants it. No condition. -/
import Derived.Shelf.SlSortCmp.NoneTotal
import Derived.Test.YtmafdnbdaaedgaaYQk
import Derived.Test.YtmafdnbdaaedgaaYb1
import Derived.Test.YtmafdnbdaaedgaaYgs
set_option linter.unusedSectionVars false
set_option linter.unusedVariables false
set_option linter.unusedSimpArgs false
set_option linter.deprecated false
namespace Go.Am
open Go.RowKit Go.Cx
/-- As calls_top, and the draws. -/
theorem calls_topD {E : Env} {f : FuncId} {al : List AV} {r : Value} {w : World} {vs : List Value} (h : ACalls E f al [] fun v _ => v = .v r) (hgl : ∀ g, VR ⟨fun _ => none, fun _ => 0, fun b => b < w.heap.size⟩ 0 w (E.gl g) (.pointer (some ⟨g, 0, none⟩)))
    (hv : VRt ⟨fun _ => none, fun _ => 0, fun b => b < w.heap.size⟩ 0 w al vs) : Calls E.P f vs.toArray w fun e w' => e = .returned r ∧ Below w.heap.size w w' ∧ w.drawn ≤ w'.drawn := by
  refine (h.2 w ⟨fun _ => none, fun _ => 0, fun b => b < w.heap.size⟩ vs ⟨hgl, fun _ h => h, by simp, by simp, by simp⟩ hv).mono ?_
  rintro e w' ⟨v, H', u, M', rfl, rfl, hG, hv, hE⟩
  unfold VR at hv
  subst hv
  refine ⟨rfl, ⟨hE.os, hE.tape.1, hE.output, hE.size, fun k hk => hE.block k hk ?_⟩, hE.tape.2⟩
  rintro ⟨r, B, h1, _⟩
  simp at h1
theorem world_eq {w w' : World} (h : Below w.heap.size w w') (hd : w.drawn ≤ w'.drawn) : ∃ q os, w' = Go.Sort.grow (w.drewN q) os := by
  refine ⟨w'.drawn - w.drawn, w'.heap.extract w.heap.size w'.heap.size, ?_⟩
  obtain ⟨hp, tp, dr, os, out⟩ := w'
  have h1 := h.os
  have h2 := h.tape
  have h3 := h.output
  have h4 := h.size
  have h5 := h.block
  simp only at h1 h2 h3 h4 h5 hd ⊢
  unfold Go.Sort.grow World.drewN
  simp only
  subst h1 h2 h3
  congr 1
  · apply Array.ext_getElem?
    intro k
    by_cases hk : k < w.heap.size
    · rw [Array.getElem?_append_left hk]
      exact h5 k hk
    · rw [Array.getElem?_append_right (by omega), Array.getElem?_extract]
      split
      · congr 1
        omega
      · rw [Array.getElem?_eq_none (by omega)]
  · omega
end Go.Am
namespace Go.Proofs.Ytmafdnbdaaedgaa
open Go.RowKit Go.Cx Go.Am
set_option maxRecDepth 8000
set_option maxHeartbeats 2000000
attribute [local irreducible] ACalls jcall jsame jex jexg jexh jguard jconv jload jpart jstore jbin jslice jidxA jidx jfield jfieldA jbuild jbuildS jmake jappend jlen jpick jres jcnd jcopy jcap jborn jdraw jops jop jstr jstrc jlive jend jlenM jmmake jlook jmput jmdel jrange jnext jentry jlk jmp2 jmd2 jlm jrg jnx jny jen jeo jinvoke jmkI jtyA
attribute [local go_sem] reduceIte Nat.reduceEqDiff Nat.reduceAdd Nat.reduceMul Nat.reduceLT Nat.reduceLeDiff Nat.reduceSub Int.reduceLT Int.reduceLE Int.reduceToNat Int.reduceNeg Int.reduceAdd Int.reduceSub UInt8.reduceToNat Int.reduceEq reduceCtorEq Int.reducePow Int.reduceMul Nat.reducePow E0
attribute [local go_sem ↓] reduceIte
attribute [local go_sem high] chunks_bvs
attribute [local go_sem] jop_makeMap jop_lookup jop_mapUpdate jop_delete jop_range jop_next jop_entry jmmake_m jlook_m jlk_mI jmput_m jmdel_m jmd2_mB jlm_mB jrange_m jnext_m jnx_m jentry_m jen_m jeo_mS bmap_mI bmap_mSI mB_nil vI nbB_o nbB_r nbB_i bmap_o bmap_r bmap_i gfB_o gfB_r gfB_i jop_invoke jop_makeInterface jop_typeAssert jinvoke_m jmkI_m jtyA_m ifp_nb
attribute [local go_sem ←] List.map_take List.map_drop

theorem cmpC_am (k1 t1 p1 k2 t2 p2 : Int) : ACalls E0 24 [.cptr [.v (.int .i64 k1), .v (.int .i64 t1), .v (.int .i64 p1)], .cptr [.v (.int .i64 k2), .v (.int .i64 t2), .v (.int .i64 p2)]] [] fun r H' => r = .v (.int .i64 (cmp3 (0, k1, t1) (0, k2, t2))) ∧ H' = [] := by
  unfold cmp3
  simp only
  have a1 := cmpI_am t1 t2
  have a2 := cmpI_am k1 k2
  have a3 := or2_am (cmpI t1 t2) (cmpI k1 k2)
  generalize cmpI t1 t2 = u at *
  generalize cmpI k1 k2 = v at *
  refine calls_q (calls_of Try.func24 rfl (by kernel_rfl) (by kernel_rfl) (by rw [Try.ntmps24]; exact Nat.le_of_ble_eq_true rfl) (fun hH0 hA0 => ?_)); rw [Try.results24]
  (repeat' (first | (have hs := Mk.out hs; (try simp only [decide_eq_true_eq, decide_eq_false_iff_not, Bool.not_eq_true, Bool.not_eq_false, Bool.not_true, Bool.not_false, Bool.not_eq_eq_eq_not, Bool.and_eq_true, Bool.or_eq_true, beq_iff_eq, bne_iff_ne, beq_eq_false_iff_ne, ne_eq, Classical.not_not, not_true_eq_false, not_false_eq_true, forall_const, Bool.false_eq_true, false_implies, eq_self] at hs); (try (exfalso; omega)); (try simp (disch := omega) only [go_sem, hs])) | (refine z_seqr rfl ?_) | (refine z_seqd 1 [.q, .q, .q, .q, .q, .q, .q, .q, .q, .q, .q, .q, .q, .q, .q, .q, .q, .q, .q, .q, .q, .q, .b, .q, .q] rfl (by kernel_rfl) (by kernel_rfl) ?_) | (refine w_seq rfl fun K hK => ?_) | (refine z_reg rfl ?_) | (refine z_cond rfl ?_) | (refine w_skip rfl ?_; ((repeat ((fail_if_success (refine hK _ _ (cl_id ?_))); clear hK)); refine hK _ _ (cl_id ?_); clear hK)) | (refine w_ret rfl ?_; (try dsimp only [anorm, ablock, astay]); refine z_end ?_) | (refine z_end0 ?_) | (refine w_block rfl ?_) | (refine w_scope rfl ?_) | (refine w_label rfl ?_; ((repeat ((fail_if_success (refine hK _ _ (cl_id ?_))); clear hK)); refine hK _ _ (cl_id ?_); clear hK)) | (refine w_exit rfl ?_; (try dsimp only [anorm, ablock, astay]); (try simp only [reduceIte, ↓reduceIte, Nat.reduceEqDiff]); ((repeat ((fail_if_success (refine hK _ _ (cl_id ?_))); clear hK)); refine hK _ _ (cl_id ?_); clear hK)) | (refine w_exit rfl ?_; (try dsimp only [anorm, ablock, astay]); (try simp only [reduceIte, ↓reduceIte, Nat.reduceEqDiff]); refine z_end0 ?_) | (refine jend_go [(1, [4]), (0, [0, 1])] ?_; simp only [tabAt_cons, sel_nil, sel_cons, put_at, ofl_cons, ofl_nil, T0_at, List.getElem?_cons_zero, List.getElem?_cons_succ, List.getElem?_nil, Option.getD_some, Option.getD_none, reduceIte, ↓reduceIte, Nat.reduceEqDiff]; refine jl_go ?_) | simp (disch := omega) only [go_sem] | (refine jc_t ?_) | (refine jc_f ?_) | (refine jx rfl ?_) | (refine jx (fun _ => rfl) ?_) | (refine jxg ⟨rfl, rfl⟩ ?_) | (refine jxh ⟨rfl, rfl⟩ ?_) | (refine jx ⟨by (first | omega | (simp; done) | (simp; omega)), rfl⟩ ?_) | (refine jx (fun _ => ⟨by (first | omega | (simp; done) | (simp; omega)), rfl⟩) ?_) | (refine jxg ⟨by (first | omega | (simp; done) | (simp; omega)), rfl, rfl⟩ ?_) | (refine jxh ⟨by (first | omega | (simp; done) | (simp; omega)), rfl, rfl⟩ ?_) | (refine jx ⟨by (first | omega | (simp; done) | (simp; omega)), by (first | omega | (simp; done) | (simp; omega)), rfl⟩ ?_) | ((first | apply zc (a1) [] | apply jxc (a1) [] | apply jxgc (a1) | apply jxhc (a1) [] | apply jxcl (a1)); (case ok => simp (disch := omega) only [go_sem, cok, sgOk, bcl, implies_true, ])) | ((first | apply zc (a2) [] | apply jxc (a2) [] | apply jxgc (a2) | apply jxhc (a2) [] | apply jxcl (a2)); (case ok => simp (disch := omega) only [go_sem, cok, sgOk, bcl, implies_true, ])) | ((first | apply zc (a3) [] | apply jxc (a3) [] | apply jxgc (a3) | apply jxhc (a3) [] | apply jxcl (a3)); (case ok => simp (disch := omega) only [go_sem, cok, sgOk, bcl, implies_true, ])) | (refine And.intro (by (first | omega | (simp; done) | (simp; omega))) ?_) | (refine mc_b (fun hs => ?_) fun hs => ?_) | (refine mg_st (fun hs => ?_) fun hs => ?_) | (refine mg_sf (fun hs => ?_) fun hs => ?_) | (refine mall_s (fun hs => ?_) fun hs => ?_) | (refine malln_s (fun hs => ?_) fun hs => ?_) | (refine mpk_s (fun hs => ?_) fun hs => ?_) | ((repeat ((fail_if_success (refine hK _ _ (cl_id ?_))); clear hK)); refine hK _ _ (cl_id ?_); clear hK)))
  exact cl_id ⟨rfl, rfl⟩
end Go.Proofs.Ytmafdnbdaaedgaa
