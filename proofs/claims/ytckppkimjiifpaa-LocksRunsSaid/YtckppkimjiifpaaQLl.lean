/- Law 21's awake, by the machine. No condition. -/
import Derived.Test.YtckppkimjiifpaaQLj
import Derived.Test.YtckppkimjiifpaaQb1
import Derived.Test.YtckppkimjiifpaaQgs
set_option linter.unusedSectionVars false
set_option linter.unusedVariables false
set_option linter.unusedSimpArgs false
set_option linter.deprecated false
namespace Go.Proofs.Ytckppkimjiifpaa
open Go.RowKit Go.Cx Go.Am
set_option maxRecDepth 8000
set_option maxHeartbeats 2000000
attribute [local irreducible] ACalls jcall jsame jex jexg jexh jguard jconv jload jpart jstore jbin jslice jidxA jidx jfield jfieldA jbuild jbuildS jmake jappend jlen jpick jres jcnd jcopy jcap jborn jdraw jops jop jstr jstrc jlive jend jlenM jmmake jlook jmput jmdel jrange jnext jentry jlk jmp2 jmd2 jlm jrg jnx jny jen jeo
attribute [local go_sem] reduceIte Nat.reduceEqDiff Nat.reduceAdd Nat.reduceMul Nat.reduceLT Nat.reduceLeDiff Nat.reduceSub Int.reduceLT Int.reduceLE Int.reduceToNat Int.reduceNeg Int.reduceAdd Int.reduceSub UInt8.reduceToNat Int.reduceEq reduceCtorEq Int.reducePow Int.reduceMul Nat.reducePow E0
attribute [local go_sem ↓] reduceIte
attribute [local go_sem high] chunks_bvs
attribute [local go_sem] tgs_nil tgs_snoc tagC_eq rwb_nil jop_makeMap jop_lookup jop_mapUpdate jop_delete jop_range jop_next jop_entry jmmake_m jlook_m jlk_mI jmput_m jmp2_mI jmdel_m jmd2_mB jlenM_m jlm_mB jrange_m jnext_m jnx_m jentry_m jen_m jeo_mS nbB_mI nbB_mSI bmap_mI bmap_mSI mB_nil vI nbB_o nbB_r nbB_i bmap_o bmap_r bmap_i gfB_o gfB_r gfB_i cl1_iiib
attribute [local go_sem ←] List.map_take List.map_drop

deriving instance DecidableEq for Lk
def sk (k : Lk) : List Lk := [lk0, lk0, lk0, k]
theorem awake_am : ACalls E0 9 [] [] fun r H' => r = .v (.bool true) ∧ H' = [] := by
  have h1 : ACalls E0 8 [.v (.int .i64 4)] [] fun r H' => r = .tup [.ptr 0 0, .v (.int .i64 0)] ∧ H' = LH (sk lk0) := lnew_am 4 (by omega)
  have t3 : ∀ k j, 3 < j → j < (sk k).length → how (lk (sk k) j).held 0 = 0 ∧ how (lk (sk k) j).held 1 = 0 ∧ how (lk (sk k) j).held 2 = 0 := fun k j h1 h2 => by
    have : (sk k).length = 4 := rfl
    omega
  have hr : ∀ k : Lk, k.row.length ≤ 2 → ∀ i, (lk (sk k) i).row.length ≤ 1000000 := fun k hk i => by
    match i with
    | 0 => exact Nat.zero_le _
    | 1 => exact Nat.zero_le _
    | 2 => exact Nat.zero_le _
    | 3 => exact Nat.le_trans hk (by omega)
    | i + 4 => exact Nat.zero_le _
  have a1 := lask3_am (sk lk0) 0 3 false (by decide) ⟨by decide, by decide⟩ (by decide) (hr _ (by decide)) rfl rfl (fun j h1 h2 => (t3 _ j h1 h2).1) rfl rfl
  have a2 := lask4_am (sk ⟨[(0, 1)], []⟩) 1 3 true (by decide) ⟨by decide, by decide⟩ (by decide) (hr _ (by decide)) rfl rfl (fun j h1 h2 => (t3 _ j h1 h2).2.1) (.inr rfl)
  have a3 := lask4_am (sk ⟨[(0, 1)], [(1, true)]⟩) 2 3 false (by decide) ⟨by decide, by decide⟩ (by decide) (hr _ (by decide)) rfl rfl (fun j h1 h2 => (t3 _ j h1 h2).2.2) (.inl (by decide))
  have b1 := lgive2_am (sk ⟨[(0, 1)], [(1, true), (2, false)]⟩) 0 3 (by decide) ⟨by decide, by decide⟩ (by decide) (by decide)
  have b2 := lgive2_am (sk ⟨[(1, 2)], [(2, false)]⟩) 1 3 (by decide) ⟨by decide, by decide⟩ (by decide) (by decide)
  have l1 := llen_am (sk ⟨[(2, 1)], []⟩)
  have e1 : (sk lk0).set 3 ⟨holdM (lk (sk lk0) 3).held 0 false, (lk (sk lk0) 3).row⟩ = sk ⟨[(0, 1)], []⟩ := rfl
  have e2 : (sk ⟨[(0, 1)], []⟩).set 3 ⟨(lk (sk ⟨[(0, 1)], []⟩) 3).held, (lk (sk ⟨[(0, 1)], []⟩) 3).row ++ [(1, true)]⟩ = sk ⟨[(0, 1)], [(1, true)]⟩ := rfl
  have e3 : (sk ⟨[(0, 1)], [(1, true)]⟩).set 3 ⟨(lk (sk ⟨[(0, 1)], [(1, true)]⟩) 3).held, (lk (sk ⟨[(0, 1)], [(1, true)]⟩) 3).row ++ [(2, false)]⟩ = sk ⟨[(0, 1)], [(1, true), (2, false)]⟩ := rfl
  have e4 : (sk ⟨[(0, 1)], [(1, true), (2, false)]⟩).set 3 (gaveK (lk (sk ⟨[(0, 1)], [(1, true), (2, false)]⟩) 3) 0) = sk ⟨[(1, 2)], [(2, false)]⟩ := by decide
  have e5 : (sk ⟨[(1, 2)], [(2, false)]⟩).set 3 (gaveK (lk (sk ⟨[(1, 2)], [(2, false)]⟩) 3) 1) = sk ⟨[(2, 1)], []⟩ := by decide
  have g1 : gaveIn (lk (sk ⟨[(0, 1)], [(1, true), (2, false)]⟩) 3) 0 = [1] := by decide
  have g2 : gaveIn (lk (sk ⟨[(1, 2)], [(2, false)]⟩) 3) 1 = [2] := by decide
  rw [e1] at a1
  rw [e2] at a2
  rw [e3] at a3
  rw [e4, g1] at b1
  rw [e5, g2] at b2
  have ll : (sk ⟨[(2, 1)], []⟩).length = 4 := rfl
  rw [ll] at l1
  have c1 : cels [(1 : Int)] = [[.v (.int .i64 1)]] := rfl
  have c2 : cels [(2 : Int)] = [[.v (.int .i64 2)]] := rfl
  rw [c1] at b1
  rw [c2] at b2
  have i3 : ((3 : Nat) : Int) = 3 := rfl
  rw [i3] at a1 a2 a3 b1 b2
  have i4 : ((4 : Nat) : Int) = 4 := rfl
  rw [i4] at l1
  have lz : (LH (sk lk0)).length = 9 := rfl
  generalize LH (sk lk0) = H0 at *
  generalize LH (sk ⟨[(0, 1)], []⟩) = H1 at *
  generalize LH (sk ⟨[(0, 1)], [(1, true)]⟩) = H2 at *
  generalize LH (sk ⟨[(0, 1)], [(1, true), (2, false)]⟩) = H3 at *
  generalize LH (sk ⟨[(1, 2)], [(2, false)]⟩) = H4 at *
  have hz := LH_nbs (sk ⟨[(2, 1)], []⟩)
  generalize LH (sk ⟨[(2, 1)], []⟩) = H5 at *
  clear e1 e2 e3 e4 e5 g1 g2 t3 hr
  refine calls_q (calls_of Try.func9 rfl (by kernel_rfl) (by kernel_rfl) (by rw [Try.ntmps9]; exact Nat.le_of_ble_eq_true rfl) (fun hH0 hA0 => ?_)); rw [Try.results9]
  (repeat' (first | (have hs := Mk.out hs; (try simp only [decide_eq_true_eq, decide_eq_false_iff_not, Bool.not_eq_true, Bool.not_eq_false, Bool.not_true, Bool.not_false, Bool.not_eq_eq_eq_not, Bool.and_eq_true, Bool.or_eq_true, beq_iff_eq, bne_iff_ne, beq_eq_false_iff_ne, ne_eq, Classical.not_not, not_true_eq_false, not_false_eq_true, forall_const, Bool.false_eq_true, false_implies, eq_self] at hs); (try (exfalso; omega)); (try simp (disch := omega) only [go_sem, hs])) | (refine z_seqr rfl ?_) | (refine w_seq rfl fun K hK => ?_) | (refine z_reg rfl ?_) | (refine z_cond rfl ?_) | (refine w_skip rfl ?_; ((repeat ((fail_if_success (refine hK _ _ (cl_id ?_))); clear hK)); refine hK _ _ (cl_id ?_); clear hK)) | (refine w_ret rfl ?_; (try dsimp only [anorm, ablock, astay]); refine z_end ?_) | (refine z_end0 ?_) | (refine w_block rfl ?_) | (refine w_scope rfl ?_) | (refine w_label rfl ?_; ((repeat ((fail_if_success (refine hK _ _ (cl_id ?_))); clear hK)); refine hK _ _ (cl_id ?_); clear hK)) | (refine w_exit rfl ?_; (try dsimp only [anorm, ablock, astay]); (try simp only [reduceIte, ↓reduceIte, Nat.reduceEqDiff]); ((repeat ((fail_if_success (refine hK _ _ (cl_id ?_))); clear hK)); refine hK _ _ (cl_id ?_); clear hK)) | (refine jend_go [(9, [0]), (8, [1, 3, 4, 5, 6, 7, 8, 9, 10, 11, 12]), (7, [1, 3, 4, 5, 6, 7, 8, 9, 10]), (6, [1, 3, 4, 5, 6, 7, 8]), (5, [1, 3, 4, 5, 6]), (4, [1, 3, 4]), (3, [0]), (2, [1, 22]), (1, [1, 2]), (0, [])] ?_; simp only [tabAt_cons, sel_nil, sel_cons, put_at, ofl_cons, ofl_nil, T0_at, List.getElem?_cons_zero, List.getElem?_cons_succ, List.getElem?_nil, Option.getD_some, Option.getD_none, reduceIte, ↓reduceIte, Nat.reduceEqDiff]; refine jl_go ?_) | simp (disch := omega) only [go_sem] | (refine jc_t ?_) | (refine jc_f ?_) | (refine z_ret (h1) ?_) | (refine z_ret (a1) ?_) | (refine z_ret (a2) ?_) | (refine z_ret (a3) ?_) | (refine z_ret (b1) ?_) | (refine z_ret (b2) ?_) | (refine z_ret (l1) ?_) | (refine And.intro (by (first | omega | (simp; done) | (simp; omega))) ?_) | (refine mc_b (fun hs => ?_) fun hs => ?_) | (refine mg_st (fun hs => ?_) fun hs => ?_) | (refine mg_sf (fun hs => ?_) fun hs => ?_) | (refine mall_s (fun hs => ?_) fun hs => ?_) | (refine malln_s (fun hs => ?_) fun hs => ?_) | (refine mpk_s (fun hs => ?_) fun hs => ?_) | ((repeat ((fail_if_success (refine hK _ _ (cl_id ?_))); clear hK)); refine hK _ _ (cl_id ?_); clear hK)))
  exact end_d 0 ⟨rfl, rfl⟩ ⟨trivial, Wk.refl _⟩
end Go.Proofs.Ytckppkimjiifpaa
