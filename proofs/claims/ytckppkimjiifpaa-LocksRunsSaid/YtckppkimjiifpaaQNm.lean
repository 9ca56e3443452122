/- Law 21's LocksRuns, by the machine, over the library's sort: any calls of any locks stand as the reference's. No condition. -/
import Derived.Test.YtckppkimjiifpaaQNl
import Derived.Test.YtckppkimjiifpaaQLl
import Derived.Test.YtckppkimjiifpaaQb1
import Derived.Test.YtckppkimjiifpaaQgs
set_option linter.unusedSectionVars false
set_option linter.unusedVariables false
set_option linter.unusedSimpArgs false
set_option linter.deprecated false
namespace Go.Proofs.Ytckppkimjiifpaa
open Go.RowKit Go.Cx Go.Am
set_option maxRecDepth 8000
set_option maxHeartbeats 2000000
attribute [local irreducible] ACalls jcall jsame jex jexg jexh jguard jconv jload jpart jstore jbin jslice jidxA jidx jfield jfieldA jbuild jbuildS jmake jappend jlen jpick jres jcnd jcopy jcap jborn jdraw jops jop jstr jstrc jlive jend jlenM jmmake jlook jmput jmdel jrange jnext jentry jlk jmp2 jmd2 jlm jrg jnx jny jen jeo
attribute [local go_sem] reduceIte Nat.reduceEqDiff Nat.reduceAdd Nat.reduceMul Nat.reduceLT Nat.reduceLeDiff Nat.reduceSub Int.reduceLT Int.reduceLE Int.reduceToNat Int.reduceNeg Int.reduceAdd Int.reduceSub UInt8.reduceToNat Int.reduceEq reduceCtorEq Int.reducePow Int.reduceMul Nat.reducePow E0
attribute [local go_sem ↓] reduceIte
attribute [local go_sem high] chunks_bvs
attribute [local go_sem] tgs_nil tgs_snoc tagC_eq rwb_nil jop_makeMap jop_lookup jop_mapUpdate jop_delete jop_range jop_next jop_entry jmmake_m jlook_m jlk_mI jmput_m jmp2_mI jmdel_m jmd2_mB jlenM_m jlm_mB jrange_m jnext_m jnx_m jentry_m jen_m jeo_mS nbB_mI nbB_mSI bmap_mI bmap_mSI mB_nil vI nbB_o nbB_r nbB_i bmap_o bmap_r bmap_i gfB_o gfB_r gfB_i cl1_iiib
attribute [local go_sem ←] List.map_take List.map_drop

theorem cq_first {T : Nat → AV} {tl : List (Nat × AV)} {n : Nat} {st : List Lk} {h r : List One} (hst : st.length = n) (hT : ∀ x ∈ tl, (nb 0 x.2 ∧ Wk (T x.1) x.2) ∨ (x.2 = .ptr 0 0 ∧ T x.1 = .ptr (2 * n + 2) 0)) : Cq E0 0 T (LH st ++ [some (.obj [.v (.int .i64 (n : Int)), .sl 3 (cels h), .sl 3 (cels r)]), some (.obj [.ptr 0 0, .ptr (2 * n + 1) 0])]) (ofl tl) (CG 2 1 n st h r) := by
  have l0 := CG_len (b := 2) (c := 1) (h := h) (r := r) hst
  have l1 := LH_len st
  have l3 := LHb_len 2 st
  obtain ⟨f, hf⟩ : ∃ f : Nat → Nat, f = fun q => if q = 0 then 2 * n + 2 else if q = 1 then 2 * n + 1 else q - 2 := ⟨_, rfl⟩
  have f0 : f 0 = 2 * n + 2 := by rw [hf]; rfl
  have f1 : f 1 = 2 * n + 1 := by rw [hf]; rfl
  have f2 : ∀ q, f (2 + q) = q := fun q => by rw [hf]; simp only; rw [if_neg (by omega), if_neg (by omega)]; omega
  have hhi : ∀ k, (LH st ++ [some (.obj [.v (.int .i64 (n : Int)), .sl 3 (cels h), .sl 3 (cels r)]), some (.obj [.ptr 0 0, .ptr (2 * n + 1) 0])])[2 * n + 1 + k]? = [some (.obj [.v (.int .i64 (n : Int)), .sl 3 (cels h), .sl 3 (cels r)]), some (Blk.obj [.ptr 0 0, .ptr (2 * n + 1) 0])][k]? := fun k => by
    rw [List.getElem?_append_right (by omega), l1, hst, Nat.add_sub_cancel_left]
  refine Cq.ren f (fun _ => Nat.zero_le _) (fun r hr => absurd hr (Nat.not_lt_zero r)) (fun q B hq => ?_) (fun q q' B B' hq hq' e => ?_) (fun j => ?_)
  · have hql := (List.getElem?_eq_some_iff.1 hq).1
    refine ⟨CG_nbs hst (by omega) (by omega) (by omega) q B hq, ?_⟩
    match q, hq with
    | 0, hq =>
      cases hq
      rw [f0]
      have := hhi 1
      rw [show 2 * n + 1 + 1 = 2 * n + 2 by omega] at this
      rw [this]
      show some (some (Blk.obj [.ptr 0 0, .ptr (2 * n + 1) 0])) = some (some (.obj [.ptr (f 2) 0, .ptr (f 1) 0]))
      have := f2 0
      rw [Nat.add_zero] at this
      rw [this, f1]
    | 1, hq =>
      cases hq
      have := hhi 0
      rw [Nat.add_zero] at this
      rw [f1, this, bmap_id (n := 0) (fun r hr => absurd hr (Nat.not_lt_zero r)) nbB_ro]
      rfl
    | q + 2, hq =>
      have hq2 : (LHb 2 st)[q]? = some (some B) := hq
      rw [l0] at hql
      rw [Nat.add_comm q 2, f2, List.getElem?_append_left (by omega)]
      rw [LHb_get] at hq2
      cases hB : (LH st)[q]? with
      | none => rw [hB] at hq2; cases hq2
      | some y =>
        cases y with
        | none => rw [hB] at hq2; cases hq2
        | some B0 =>
          rw [hB] at hq2
          have e : bmap (fun r => 2 + r) B0 = B := Option.some.inj (Option.some.inj hq2)
          rw [← e, bmap_comp, bmap_id (n := (LH st).length) (fun r _ => f2 r) (LH_nbs st q B0 hB)]
  · rw [hf] at e
    have h1 := (List.getElem?_eq_some_iff.1 hq).1
    have h3 := (List.getElem?_eq_some_iff.1 hq').1
    rw [l0] at h1 h3
    simp only at e
    split at e <;> split at e <;> (try split at e) <;> (try split at e) <;> omega
  · refine ofl_all (p := fun j x => nb (CG 2 1 n st h r).length x ∧ Wk (T j) (amap f x)) ⟨trivial, Wk.any _⟩ fun x hx => ?_
    rcases hT x hx with ⟨x1, x2⟩ | ⟨x1, x2⟩
    · refine ⟨nb.mono (Nat.zero_le _) x1, ?_⟩
      rw [amap_id (n := 0) (fun r hr => absurd hr (Nat.not_lt_zero r)) x1]
      exact x2
    · rw [x1, x2]
      refine ⟨by unfold nb; omega, ?_⟩
      show Wk _ (.ptr (f 0) 0)
      rw [f0]
      exact Wk.refl _
theorem runs21_am (hso : SortOk) (n : Int) (ops : List Opr) : ACalls E0 6 [.v (.int .i64 n), .sl 4 (cels ops)] [] fun r _ => r = .v (.bool true) := by
  have ha := awake_am
  have e0 : ∀ z : Int, decide (z = z) = true := fun z => decide_eq_true rfl
  by_cases hn : 1 ≤ n ∧ n ≤ 67
  · obtain ⟨m, rfl⟩ := Int.eq_ofNat_of_zero_le (show 0 ≤ n by omega)
    have hm : 1 ≤ m ∧ m ≤ 67 := by omega
    have h1 := lnew_am m hm
    have h2 := fnew_am m hm
    have lr : (reps m).length = m := by simp [reps]
    have ll := LH_len (reps m)
    rw [lr] at ll
    have hR0 := rel_init hm
    have ht0 := (reps_inv (N := 4096) m).2
    refine calls_q (calls_of Try.func6 rfl (by kernel_rfl) (by kernel_rfl) (by rw [Try.ntmps6]; exact Nat.le_of_ble_eq_true rfl) (fun hH0 hA0 => ?_)); rw [Try.results6]
    refine z_mid (α := Unit) rfl (fun _ => True) (fun _ => [(0, .v (.int .i64 (m : Int))), (1, .sl 4 (cels ops))]) (fun _ => []) ?_ ?_
    · intro Ko hKo
      have hKo := fun T' H' => hKo T' H' () trivial
      (repeat' (first | (have hs := Mk.out hs; (try simp only [decide_eq_true_eq, decide_eq_false_iff_not, Bool.not_eq_true, Bool.not_eq_false, Bool.not_true, Bool.not_false, Bool.not_eq_eq_eq_not, Bool.and_eq_true, Bool.or_eq_true, beq_iff_eq, bne_iff_ne, beq_eq_false_iff_ne, ne_eq, Classical.not_not, not_true_eq_false, not_false_eq_true, forall_const, Bool.false_eq_true, false_implies, eq_self] at hs); (try (exfalso; omega)); (try simp (disch := omega) only [go_sem, hs])) | (refine z_seqr rfl ?_) | (refine w_seq rfl fun K hK => ?_) | (refine z_reg rfl ?_) | (refine z_cond rfl ?_) | (refine w_skip rfl ?_; ((repeat ((fail_if_success (refine hK _ _ (cl_id ?_))); clear hK)); refine hK _ _ (cl_id ?_); clear hK)) | (refine w_ret rfl ?_; (try dsimp only [anorm, ablock, astay]); refine z_end ?_) | (refine z_end0 ?_) | (refine w_block rfl ?_) | (refine w_scope rfl ?_) | (refine w_label rfl ?_; ((repeat ((fail_if_success (refine hK _ _ (cl_id ?_))); clear hK)); refine hK _ _ (cl_id ?_); clear hK)) | (refine w_exit rfl ?_; (try dsimp only [anorm, ablock, astay]); (try simp only [reduceIte, ↓reduceIte, Nat.reduceEqDiff]); ((repeat ((fail_if_success (refine hK _ _ (cl_id ?_))); clear hK)); refine hK _ _ (cl_id ?_); clear hK)) | (refine jend_go [(15, [4]), (12, [1, 9, 10]), (14, [4]), (13, [1, 9, 10, 60]), (11, [1, 9, 10, 46]), (10, [1, 9, 10]), (9, [1, 9]), (8, [4]), (7, [1, 5, 7, 34]), (6, [4]), (5, [1, 5, 7, 32]), (4, [1, 5, 6, 7, 8]), (3, [0, 1, 5, 6]), (2, [4]), (1, [0, 1, 12]), (0, [0, 1])] ?_; simp only [tabAt_cons, sel_nil, sel_cons, put_at, ofl_cons, ofl_nil, T0_at, List.getElem?_cons_zero, List.getElem?_cons_succ, List.getElem?_nil, Option.getD_some, Option.getD_none, reduceIte, ↓reduceIte, Nat.reduceEqDiff]; refine jl_go ?_) | simp (disch := omega) only [go_sem] | (refine jc_t ?_) | (refine jc_f ?_) | (refine And.intro (by (first | omega | (simp; done) | (simp; omega))) ?_) | (refine mc_b (fun hs => ?_) fun hs => ?_) | (refine mg_st (fun hs => ?_) fun hs => ?_) | (refine mg_sf (fun hs => ?_) fun hs => ?_) | (refine mall_s (fun hs => ?_) fun hs => ?_) | (refine malln_s (fun hs => ?_) fun hs => ?_) | (refine mpk_s (fun hs => ?_) fun hs => ?_) | ((repeat ((fail_if_success (refine hK _ _ (cl_id ?_))); clear hK)); refine hK _ _ (cl_id ?_); clear hK)))
      refine hKo _ _ (cq_s ?_)
      (simp (disch := omega) only [go_sem])
    intro _ _
    refine z_mid (α := Unit) rfl (fun _ => True) (fun _ => [(0, .v (.int .i64 (m : Int))), (1, .sl 4 (cels ops))]) (fun _ => []) ?_ ?_
    · intro Ko hKo
      have hKo := fun T' H' => hKo T' H' () trivial
      (repeat' (first | (have hs := Mk.out hs; (try simp only [decide_eq_true_eq, decide_eq_false_iff_not, Bool.not_eq_true, Bool.not_eq_false, Bool.not_true, Bool.not_false, Bool.not_eq_eq_eq_not, Bool.and_eq_true, Bool.or_eq_true, beq_iff_eq, bne_iff_ne, beq_eq_false_iff_ne, ne_eq, Classical.not_not, not_true_eq_false, not_false_eq_true, forall_const, Bool.false_eq_true, false_implies, eq_self] at hs); (try (exfalso; omega)); (try simp (disch := omega) only [go_sem, hs])) | (refine z_seqr rfl ?_) | (refine w_seq rfl fun K hK => ?_) | (refine z_reg rfl ?_) | (refine z_cond rfl ?_) | (refine w_skip rfl ?_; ((repeat ((fail_if_success (refine hK _ _ (cl_id ?_))); clear hK)); refine hK _ _ (cl_id ?_); clear hK)) | (refine w_ret rfl ?_; (try dsimp only [anorm, ablock, astay]); refine z_end ?_) | (refine z_end0 ?_) | (refine w_block rfl ?_) | (refine w_scope rfl ?_) | (refine w_label rfl ?_; ((repeat ((fail_if_success (refine hK _ _ (cl_id ?_))); clear hK)); refine hK _ _ (cl_id ?_); clear hK)) | (refine w_exit rfl ?_; (try dsimp only [anorm, ablock, astay]); (try simp only [reduceIte, ↓reduceIte, Nat.reduceEqDiff]); ((repeat ((fail_if_success (refine hK _ _ (cl_id ?_))); clear hK)); refine hK _ _ (cl_id ?_); clear hK)) | (refine jend_go [(15, [4]), (12, [1, 9, 10]), (14, [4]), (13, [1, 9, 10, 60]), (11, [1, 9, 10, 46]), (10, [1, 9, 10]), (9, [1, 9]), (8, [4]), (7, [1, 5, 7, 34]), (6, [4]), (5, [1, 5, 7, 32]), (4, [1, 5, 6, 7, 8]), (3, [0, 1, 5, 6]), (2, [4]), (1, [0, 1, 12]), (0, [0, 1])] ?_; simp only [tabAt_cons, sel_nil, sel_cons, put_at, ofl_cons, ofl_nil, T0_at, List.getElem?_cons_zero, List.getElem?_cons_succ, List.getElem?_nil, Option.getD_some, Option.getD_none, reduceIte, ↓reduceIte, Nat.reduceEqDiff]; refine jl_go ?_) | simp (disch := omega) only [go_sem] | (refine jc_t ?_) | (refine jc_f ?_) | (apply zc (ha) []; (case ok => simp (disch := omega) only [go_sem, cok, sgOk, bcl, ])) | (refine And.intro (by (first | omega | (simp; done) | (simp; omega))) ?_) | (refine mc_b (fun hs => ?_) fun hs => ?_) | (refine mg_st (fun hs => ?_) fun hs => ?_) | (refine mg_sf (fun hs => ?_) fun hs => ?_) | (refine mall_s (fun hs => ?_) fun hs => ?_) | (refine malln_s (fun hs => ?_) fun hs => ?_) | (refine mpk_s (fun hs => ?_) fun hs => ?_) | ((repeat ((fail_if_success (refine hK _ _ (cl_id ?_))); clear hK)); refine hK _ _ (cl_id ?_); clear hK)))
      refine hKo _ _ (cq_s ?_)
      (simp (disch := omega) only [go_sem])
    intro _ _
    (repeat' (first | (have hs := Mk.out hs; (try simp only [decide_eq_true_eq, decide_eq_false_iff_not, Bool.not_eq_true, Bool.not_eq_false, Bool.not_true, Bool.not_false, Bool.not_eq_eq_eq_not, Bool.and_eq_true, Bool.or_eq_true, beq_iff_eq, bne_iff_ne, beq_eq_false_iff_ne, ne_eq, Classical.not_not, not_true_eq_false, not_false_eq_true, forall_const, Bool.false_eq_true, false_implies, eq_self] at hs); (try (exfalso; omega)); (try simp (disch := omega) only [go_sem, e0, ll, hs])) | (refine z_seqr rfl ?_) | (refine w_seq rfl fun K hK => ?_) | (refine z_reg rfl ?_) | (refine z_cond rfl ?_) | (refine w_skip rfl ?_; ((repeat ((fail_if_success (refine hK _ _ (cl_id ?_))); clear hK)); refine hK _ _ (cl_id ?_); clear hK)) | (refine w_ret rfl ?_; (try dsimp only [anorm, ablock, astay]); refine z_end ?_) | (refine z_end0 ?_) | (refine w_block rfl ?_) | (refine w_scope rfl ?_) | (refine w_label rfl ?_; ((repeat ((fail_if_success (refine hK _ _ (cl_id ?_))); clear hK)); refine hK _ _ (cl_id ?_); clear hK)) | (refine w_exit rfl ?_; (try dsimp only [anorm, ablock, astay]); (try simp only [reduceIte, ↓reduceIte, Nat.reduceEqDiff]); ((repeat ((fail_if_success (refine hK _ _ (cl_id ?_))); clear hK)); refine hK _ _ (cl_id ?_); clear hK)) | (refine jend_go [(15, [4]), (12, [1, 9, 10]), (14, [4]), (13, [1, 9, 10, 60]), (11, [1, 9, 10, 46]), (10, [1, 9, 10]), (9, [1, 9]), (8, [4]), (7, [1, 5, 7, 34]), (6, [4]), (5, [1, 5, 7, 32]), (4, [1, 5, 6, 7, 8]), (3, [0, 1, 5, 6]), (2, [4]), (1, [0, 1, 12]), (0, [0, 1])] ?_; simp only [tabAt_cons, sel_nil, sel_cons, put_at, ofl_cons, ofl_nil, T0_at, List.getElem?_cons_zero, List.getElem?_cons_succ, List.getElem?_nil, Option.getD_some, Option.getD_none, reduceIte, ↓reduceIte, Nat.reduceEqDiff]; refine jl_go ?_) | simp (disch := omega) only [go_sem, e0, ll] | (refine jc_t ?_) | (refine jc_f ?_) | (refine z_ret (h1) ?_) | (apply zc (h2) []; (case ok => simp (disch := omega) only [go_sem, cok, sgOk, bcl, e0, ll])) | (refine And.intro (by (first | omega | (simp; done) | (simp; omega))) ?_) | (refine mc_b (fun hs => ?_) fun hs => ?_) | (refine mg_st (fun hs => ?_) fun hs => ?_) | (refine mg_sf (fun hs => ?_) fun hs => ?_) | (refine mall_s (fun hs => ?_) fun hs => ?_) | (refine malln_s (fun hs => ?_) fun hs => ?_) | (refine mpk_s (fun hs => ?_) fun hs => ?_) | ((repeat ((fail_if_success (refine hK _ _ (cl_id ?_))); clear hK)); refine hK _ _ (cl_id ?_); clear hK)))
    have hstep : ∀ (st : List Lk) (h r : List One) (o : Opr) (i : Nat), Rel m st h r → tot st ≤ i → h.length + r.length ≤ i → i ≤ 60 → ∃ H1 st' h' r', (ACalls E0 20 [.ptr 0 0, .agg (cl1 o)] (CG 2 1 m st h r) fun x H' => x = .v (.bool true) ∧ H' = H1) ∧ (ACalls E0 21 [.ptr 0 0] H1 fun x H' => x = .v (.bool true) ∧ H' = H1) ∧ (Rel m st' h' r' ∧ tot st' ≤ i + 1 ∧ h'.length + r'.length ≤ i + 1) ∧ ∀ (T : Nat → AV) tl, (∀ x ∈ tl, nb 1 x.2 ∧ Wk (T x.1) x.2) → Cq E0 0 T H1 (ofl tl) (CG 2 1 m st' h' r') := fun st h r o i R q1 q2 q3 => by
      obtain ⟨q, t, k, w⟩ := o
      rw [cl1_iiib]
      simp only
      have hsame : ∀ (T : Nat → AV) tl st' h' r', (∀ x ∈ tl, nb 1 x.2 ∧ Wk (T x.1) x.2) → st'.length = m → Cq E0 0 T (CG 2 1 m st' h' r') (ofl tl) (CG 2 1 m st' h' r') := fun T tl st' h' r' hT hl => by
        have := CG_len (b := 2) (c := 1) (h := h') (r := r') hl
        refine Cq.ren id (fun _ => Nat.zero_le _) (fun _ _ => rfl) (fun q B hq => ⟨?_, ?_⟩) (fun q q' _ _ _ _ e => e) (fun j => ?_)
        · rw [this]
          exact CG_nbs hl (Nat.le_refl _) (by omega) (by omega) q B hq
        · have hb := CG_nbs (N := 2 * m + 3) hl (Nat.le_refl _) (by omega) (by omega) q B hq
          rw [bmap_id (f := id) (fun _ _ => rfl) hb]
          exact hq
        · refine ofl_all (p := fun j x => nb (CG 2 1 m st' h' r').length x ∧ Wk (T j) (amap id x)) ⟨trivial, Wk.any _⟩ fun x hx => ?_
          obtain ⟨x1, x2⟩ := hT x hx
          refine ⟨nb.mono (by omega) x1, ?_⟩
          rw [amap_id (f := id) (fun _ _ => rfl) x1]
          exact x2
      by_cases c1 : q = 1
      · subst c1
        obtain ⟨st', k1, R', k2, k3⟩ := step1_am R hm (by omega) (by omega) t k w
        exact ⟨_, st', _, _, k1, same_am hso (std0 R'.len) R' hm (by omega) (by omega), ⟨R', by omega, by omega⟩, fun T tl hT => hsame T tl _ _ _ hT R'.len⟩
      by_cases c2 : q = 2
      · subst c2
        obtain ⟨st', k1, R', k2, k3⟩ := step2_am R hm (by omega) (by omega) t k w
        exact ⟨_, st', _, _, k1, same_am hso (std0 R'.len) R' hm (by omega) (by omega), ⟨R', by omega, by omega⟩, fun T tl hT => hsame T tl _ _ _ hT R'.len⟩
      by_cases c3 : q = 3
      · subst c3
        obtain ⟨st', h', r', hl', k1⟩ := step3_am R hm (by omega) (by omega) t k w
        exact ⟨_, st, h, r, k1, same_am hso (std1 R.len hl' fun B hB => by cases hB; exact ⟨trivial, trivial, trivial, trivial, trivial⟩) R hm (by omega) (by omega), ⟨R, by omega, by omega⟩, fun T tl hT => cq_fork R.len hl' hT⟩
      · exact ⟨_, st, h, r, step4_am R.len q t k w c1 c2 c3, same_am hso (std0 R.len) R hm (by omega) (by omega), ⟨R, by omega, by omega⟩, fun T tl hT => hsame T tl _ _ _ hT R.len⟩
    refine z_loop (α := Nat × List Lk × List One × List One) rfl (fun x => x.1 ≤ ops.length ∧ x.1 ≤ 60 ∧ Rel m x.2.1 x.2.2.1 x.2.2.2 ∧ tot x.2.1 ≤ x.1 ∧ x.2.2.1.length + x.2.2.2.length ≤ x.1) (fun x => 60 - x.1) (fun x => [(1, .sl 4 (cels ops)), (9, .ptr 0 0), (10, .v (.int .i64 (x.1 : Int)))]) (fun x => CG 2 1 m x.2.1 x.2.2.1 x.2.2.2) (0, reps m, [], []) ⟨Nat.zero_le _, Nat.zero_le _, hR0, by simp only; omega, by simp⟩ (cq_first (h := []) (r := []) lr ?_) ?_
    · intro x hx
      simp only [List.mem_cons, List.not_mem_nil, or_false] at hx
      rcases hx with rfl | rfl | rfl
      · exact .inl ⟨of_eq_true (cels_nbss _), Wk.refl _⟩
      · exact .inr ⟨rfl, rfl⟩
      · exact .inl ⟨trivial, Wk.refl _⟩
    clear hR0 ht0
    rintro ⟨i, st, h, r⟩ ⟨p1, p2, p3, p4, p5⟩ Ko hKo
    simp only at p1 p2 p3 p4 p5 ⊢
    by_cases c1 : (i : Int) < ops.length
    · by_cases c2 : (i : Int) < 60
      · obtain ⟨H1, st', h', r', k1, k2, k3, k4⟩ := hstep st h r (gt ops i) i p3 p4 p5 p2
        have hKo2 := fun T' H' => hKo T' H' (i + 1, st', h', r') ⟨by omega, by omega, k3.1, k3.2.1, k3.2.2⟩ (by simp only; omega)
        clear hKo hstep
        simp only at hKo2
        generalize CG 2 1 m st h r = C0 at *
        (repeat' (first | (have hs := Mk.out hs; (try simp only [decide_eq_true_eq, decide_eq_false_iff_not, Bool.not_eq_true, Bool.not_eq_false, Bool.not_true, Bool.not_false, Bool.not_eq_eq_eq_not, Bool.and_eq_true, Bool.or_eq_true, beq_iff_eq, bne_iff_ne, beq_eq_false_iff_ne, ne_eq, Classical.not_not, not_true_eq_false, not_false_eq_true, forall_const, Bool.false_eq_true, false_implies, eq_self] at hs); (try (exfalso; omega)); (try simp (disch := omega) only [go_sem, c1, c2, hs])) | (refine z_seqr rfl ?_) | (refine w_seq rfl fun K hK => ?_) | (refine z_reg rfl ?_) | (refine z_cond rfl ?_) | (refine w_skip rfl ?_; ((repeat ((fail_if_success (refine hK _ _ (cl_id ?_))); clear hK)); refine hK _ _ (cl_id ?_); clear hK)) | (refine w_ret rfl ?_; (try dsimp only [anorm, ablock, astay]); refine z_end ?_) | (refine z_end0 ?_) | (refine w_block rfl ?_) | (refine w_scope rfl ?_) | (refine w_label rfl ?_; ((repeat ((fail_if_success (refine hK _ _ (cl_id ?_))); clear hK)); refine hK _ _ (cl_id ?_); clear hK)) | (refine w_exit rfl ?_; (try dsimp only [anorm, ablock, astay]); (try simp only [reduceIte, ↓reduceIte, Nat.reduceEqDiff]); ((repeat ((fail_if_success (refine hK _ _ (cl_id ?_))); clear hK)); refine hK _ _ (cl_id ?_); clear hK)) | (refine jend_go [(15, [4]), (12, [1, 9, 10]), (14, [4]), (13, [1, 9, 10, 60]), (11, [1, 9, 10, 46]), (10, [1, 9, 10]), (9, [1, 9]), (8, [4]), (7, [1, 5, 7, 34]), (6, [4]), (5, [1, 5, 7, 32]), (4, [1, 5, 6, 7, 8]), (3, [0, 1, 5, 6]), (2, [4]), (1, [0, 1, 12]), (0, [0, 1])] ?_; simp only [tabAt_cons, sel_nil, sel_cons, put_at, ofl_cons, ofl_nil, T0_at, List.getElem?_cons_zero, List.getElem?_cons_succ, List.getElem?_nil, Option.getD_some, Option.getD_none, reduceIte, ↓reduceIte, Nat.reduceEqDiff]; refine jl_go ?_) | simp (disch := omega) only [go_sem, c1, c2] | (refine jc_t ?_) | (refine jc_f ?_) | (refine z_ret (k1) ?_) | (refine z_ret (k2) ?_) | (refine And.intro (by (first | omega | (simp; done) | (simp; omega))) ?_) | (refine mc_b (fun hs => ?_) fun hs => ?_) | (refine mg_st (fun hs => ?_) fun hs => ?_) | (refine mg_sf (fun hs => ?_) fun hs => ?_) | (refine mall_s (fun hs => ?_) fun hs => ?_) | (refine malln_s (fun hs => ?_) fun hs => ?_) | (refine mpk_s (fun hs => ?_) fun hs => ?_) | ((repeat ((fail_if_success (refine hK _ _ (cl_id ?_))); clear hK)); refine hK _ _ (cl_id ?_); clear hK)))
        refine hKo2 _ _ (k4 _ _ ?_)
        intro x hx
        simp only [List.mem_cons, List.not_mem_nil, or_false] at hx
        rcases hx with rfl | rfl | rfl
        · exact ⟨of_eq_true (cels_nbss _), by (simp (disch := omega) only [go_sem])⟩
        · exact ⟨Nat.zero_lt_one, by (simp (disch := omega) only [go_sem])⟩
        · refine ⟨trivial, ?_⟩
          (simp (disch := omega) only [go_sem])
          omega
      · clear hKo hstep
        (repeat' (first | (have hs := Mk.out hs; (try simp only [decide_eq_true_eq, decide_eq_false_iff_not, Bool.not_eq_true, Bool.not_eq_false, Bool.not_true, Bool.not_false, Bool.not_eq_eq_eq_not, Bool.and_eq_true, Bool.or_eq_true, beq_iff_eq, bne_iff_ne, beq_eq_false_iff_ne, ne_eq, Classical.not_not, not_true_eq_false, not_false_eq_true, forall_const, Bool.false_eq_true, false_implies, eq_self] at hs); (try (exfalso; omega)); (try simp (disch := omega) only [go_sem, c1, c2, hs])) | (refine z_seqr rfl ?_) | (refine w_seq rfl fun K hK => ?_) | (refine z_reg rfl ?_) | (refine z_cond rfl ?_) | (refine w_skip rfl ?_; ((repeat ((fail_if_success (refine hK _ _ (cl_id ?_))); clear hK)); refine hK _ _ (cl_id ?_); clear hK)) | (refine w_ret rfl ?_; (try dsimp only [anorm, ablock, astay]); refine z_end ?_) | (refine z_end0 ?_) | (refine w_block rfl ?_) | (refine w_scope rfl ?_) | (refine w_label rfl ?_; ((repeat ((fail_if_success (refine hK _ _ (cl_id ?_))); clear hK)); refine hK _ _ (cl_id ?_); clear hK)) | (refine w_exit rfl ?_; (try dsimp only [anorm, ablock, astay]); (try simp only [reduceIte, ↓reduceIte, Nat.reduceEqDiff]); ((repeat ((fail_if_success (refine hK _ _ (cl_id ?_))); clear hK)); refine hK _ _ (cl_id ?_); clear hK)) | (refine jend_go [(15, [4]), (12, [1, 9, 10]), (14, [4]), (13, [1, 9, 10, 60]), (11, [1, 9, 10, 46]), (10, [1, 9, 10]), (9, [1, 9]), (8, [4]), (7, [1, 5, 7, 34]), (6, [4]), (5, [1, 5, 7, 32]), (4, [1, 5, 6, 7, 8]), (3, [0, 1, 5, 6]), (2, [4]), (1, [0, 1, 12]), (0, [0, 1])] ?_; simp only [tabAt_cons, sel_nil, sel_cons, put_at, ofl_cons, ofl_nil, T0_at, List.getElem?_cons_zero, List.getElem?_cons_succ, List.getElem?_nil, Option.getD_some, Option.getD_none, reduceIte, ↓reduceIte, Nat.reduceEqDiff]; refine jl_go ?_) | simp (disch := omega) only [go_sem, c1, c2] | (refine jc_t ?_) | (refine jc_f ?_) | (refine And.intro (by (first | omega | (simp; done) | (simp; omega))) ?_) | (refine mc_b (fun hs => ?_) fun hs => ?_) | (refine mg_st (fun hs => ?_) fun hs => ?_) | (refine mg_sf (fun hs => ?_) fun hs => ?_) | (refine mall_s (fun hs => ?_) fun hs => ?_) | (refine malln_s (fun hs => ?_) fun hs => ?_) | (refine mpk_s (fun hs => ?_) fun hs => ?_) | ((repeat ((fail_if_success (refine hK _ _ (cl_id ?_))); clear hK)); refine hK _ _ (cl_id ?_); clear hK)))
        exact cl_id rfl
    · clear hKo hstep
      (repeat' (first | (have hs := Mk.out hs; (try simp only [decide_eq_true_eq, decide_eq_false_iff_not, Bool.not_eq_true, Bool.not_eq_false, Bool.not_true, Bool.not_false, Bool.not_eq_eq_eq_not, Bool.and_eq_true, Bool.or_eq_true, beq_iff_eq, bne_iff_ne, beq_eq_false_iff_ne, ne_eq, Classical.not_not, not_true_eq_false, not_false_eq_true, forall_const, Bool.false_eq_true, false_implies, eq_self] at hs); (try (exfalso; omega)); (try simp (disch := omega) only [go_sem, c1, hs])) | (refine z_seqr rfl ?_) | (refine w_seq rfl fun K hK => ?_) | (refine z_reg rfl ?_) | (refine z_cond rfl ?_) | (refine w_skip rfl ?_; ((repeat ((fail_if_success (refine hK _ _ (cl_id ?_))); clear hK)); refine hK _ _ (cl_id ?_); clear hK)) | (refine w_ret rfl ?_; (try dsimp only [anorm, ablock, astay]); refine z_end ?_) | (refine z_end0 ?_) | (refine w_block rfl ?_) | (refine w_scope rfl ?_) | (refine w_label rfl ?_; ((repeat ((fail_if_success (refine hK _ _ (cl_id ?_))); clear hK)); refine hK _ _ (cl_id ?_); clear hK)) | (refine w_exit rfl ?_; (try dsimp only [anorm, ablock, astay]); (try simp only [reduceIte, ↓reduceIte, Nat.reduceEqDiff]); ((repeat ((fail_if_success (refine hK _ _ (cl_id ?_))); clear hK)); refine hK _ _ (cl_id ?_); clear hK)) | (refine jend_go [(15, [4]), (12, [1, 9, 10]), (14, [4]), (13, [1, 9, 10, 60]), (11, [1, 9, 10, 46]), (10, [1, 9, 10]), (9, [1, 9]), (8, [4]), (7, [1, 5, 7, 34]), (6, [4]), (5, [1, 5, 7, 32]), (4, [1, 5, 6, 7, 8]), (3, [0, 1, 5, 6]), (2, [4]), (1, [0, 1, 12]), (0, [0, 1])] ?_; simp only [tabAt_cons, sel_nil, sel_cons, put_at, ofl_cons, ofl_nil, T0_at, List.getElem?_cons_zero, List.getElem?_cons_succ, List.getElem?_nil, Option.getD_some, Option.getD_none, reduceIte, ↓reduceIte, Nat.reduceEqDiff]; refine jl_go ?_) | simp (disch := omega) only [go_sem, c1] | (refine jc_t ?_) | (refine jc_f ?_) | (refine And.intro (by (first | omega | (simp; done) | (simp; omega))) ?_) | (refine mc_b (fun hs => ?_) fun hs => ?_) | (refine mg_st (fun hs => ?_) fun hs => ?_) | (refine mg_sf (fun hs => ?_) fun hs => ?_) | (refine mall_s (fun hs => ?_) fun hs => ?_) | (refine malln_s (fun hs => ?_) fun hs => ?_) | (refine mpk_s (fun hs => ?_) fun hs => ?_) | ((repeat ((fail_if_success (refine hK _ _ (cl_id ?_))); clear hK)); refine hK _ _ (cl_id ?_); clear hK)))
      exact cl_id rfl
  · have h1 := lnew0_am n hn
    have h2 := fnew0_am n hn
    refine calls_q (calls_of Try.func6 rfl (by kernel_rfl) (by kernel_rfl) (by rw [Try.ntmps6]; exact Nat.le_of_ble_eq_true rfl) (fun hH0 hA0 => ?_)); rw [Try.results6]
    (repeat' (first | (have hs := Mk.out hs; (try simp only [decide_eq_true_eq, decide_eq_false_iff_not, Bool.not_eq_true, Bool.not_eq_false, Bool.not_true, Bool.not_false, Bool.not_eq_eq_eq_not, Bool.and_eq_true, Bool.or_eq_true, beq_iff_eq, bne_iff_ne, beq_eq_false_iff_ne, ne_eq, Classical.not_not, not_true_eq_false, not_false_eq_true, forall_const, Bool.false_eq_true, false_implies, eq_self] at hs); (try (exfalso; omega)); (try simp (disch := omega) only [go_sem, e0, hs])) | (refine z_seqr rfl ?_) | (refine w_seq rfl fun K hK => ?_) | (refine z_reg rfl ?_) | (refine z_cond rfl ?_) | (refine w_skip rfl ?_; ((repeat ((fail_if_success (refine hK _ _ (cl_id ?_))); clear hK)); refine hK _ _ (cl_id ?_); clear hK)) | (refine w_ret rfl ?_; (try dsimp only [anorm, ablock, astay]); refine z_end ?_) | (refine z_end0 ?_) | (refine w_block rfl ?_) | (refine w_scope rfl ?_) | (refine w_label rfl ?_; ((repeat ((fail_if_success (refine hK _ _ (cl_id ?_))); clear hK)); refine hK _ _ (cl_id ?_); clear hK)) | (refine w_exit rfl ?_; (try dsimp only [anorm, ablock, astay]); (try simp only [reduceIte, ↓reduceIte, Nat.reduceEqDiff]); ((repeat ((fail_if_success (refine hK _ _ (cl_id ?_))); clear hK)); refine hK _ _ (cl_id ?_); clear hK)) | (refine jend_go [(15, [4]), (12, [1, 9, 10]), (14, [4]), (13, [1, 9, 10, 60]), (11, [1, 9, 10, 46]), (10, [1, 9, 10]), (9, [1, 9]), (8, [4]), (7, [1, 5, 7, 34]), (6, [4]), (5, [1, 5, 7, 32]), (4, [1, 5, 6, 7, 8]), (3, [0, 1, 5, 6]), (2, [4]), (1, [0, 1, 12]), (0, [0, 1])] ?_; simp only [tabAt_cons, sel_nil, sel_cons, put_at, ofl_cons, ofl_nil, T0_at, List.getElem?_cons_zero, List.getElem?_cons_succ, List.getElem?_nil, Option.getD_some, Option.getD_none, reduceIte, ↓reduceIte, Nat.reduceEqDiff]; refine jl_go ?_) | simp (disch := omega) only [go_sem, e0] | (refine jc_t ?_) | (refine jc_f ?_) | (apply zc (ha) []; (case ok => simp (disch := omega) only [go_sem, cok, sgOk, bcl, e0])) | (apply zc (h1) []; (case ok => simp (disch := omega) only [go_sem, cok, sgOk, bcl, e0])) | (apply zc (h2) []; (case ok => simp (disch := omega) only [go_sem, cok, sgOk, bcl, e0])) | (refine And.intro (by (first | omega | (simp; done) | (simp; omega))) ?_) | (refine mc_b (fun hs => ?_) fun hs => ?_) | (refine mg_st (fun hs => ?_) fun hs => ?_) | (refine mg_sf (fun hs => ?_) fun hs => ?_) | (refine mall_s (fun hs => ?_) fun hs => ?_) | (refine malln_s (fun hs => ?_) fun hs => ?_) | (refine mpk_s (fun hs => ?_) fun hs => ?_) | ((repeat ((fail_if_success (refine hK _ _ (cl_id ?_))); clear hK)); refine hK _ _ (cl_id ?_); clear hK)))
    exact cl_id rfl
end Go.Proofs.Ytckppkimjiifpaa
