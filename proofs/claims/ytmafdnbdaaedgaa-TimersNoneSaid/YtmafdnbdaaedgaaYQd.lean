/- Timers: the heap's up and down, by the machine. No condition. -/
import Derived.Test.YtmafdnbdaaedgaaYQc
import Derived.Test.YtmafdnbdaaedgaaYb1
import Derived.Test.YtmafdnbdaaedgaaYgs
set_option linter.unusedSectionVars false
set_option linter.unusedVariables false
set_option linter.unusedSimpArgs false
set_option linter.deprecated false
namespace Go.Proofs.Ytmafdnbdaaedgaa
open Go.RowKit Go.Cx Go.Am
set_option maxRecDepth 8000
set_option maxHeartbeats 2000000
attribute [local irreducible] ACalls jcall jsame jex jexg jexh jguard jconv jload jpart jstore jbin jslice jidxA jidx jfield jfieldA jbuild jbuildS jmake jappend jlen jpick jres jcnd jcopy jcap jborn jdraw jops jop jstr jstrc jlive jend jlenM jmmake jlook jmput jmdel jrange jnext jentry jlk jmp2 jmd2 jlm jrg jnx jny jen jeo jinvoke jmkI jtyA
attribute [local go_sem] reduceIte Nat.reduceEqDiff Nat.reduceAdd Nat.reduceMul Nat.reduceLT Nat.reduceLeDiff Nat.reduceSub Int.reduceLT Int.reduceLE Int.reduceToNat Int.reduceNeg Int.reduceAdd Int.reduceSub UInt8.reduceToNat Int.reduceEq reduceCtorEq Int.reducePow Int.reduceMul Nat.reducePow E0
attribute [local go_sem ↓] reduceIte
attribute [local go_sem high] chunks_bvs
attribute [local go_sem] jop_makeMap jop_lookup jop_mapUpdate jop_delete jop_range jop_next jop_entry jmmake_m jlook_m jlk_mI jmput_m jmdel_m jmd2_mB jlm_mB jrange_m jnext_m jnx_m jentry_m jen_m jeo_mS bmap_mI bmap_mSI mB_nil vI nbB_o nbB_r nbB_i bmap_o bmap_r bmap_i gfB_o gfB_r gfB_i jop_invoke jop_makeInterface jop_typeAssert jinvoke_m jmkI_m jtyA_m ifp_nb
attribute [local go_sem ←] List.map_take List.map_drop

/-- Up, as lists. -/
def upS (q : Nat) (Z : List (List AV)) : Nat → Heap → List It → Nat → Heap × List It
  | 0, H, p, _ => (H, p)
  | f + 1, H, p, j => if j = 0 ∨ ¬ lt3 (at3 p j) (at3 p ((j - 1) / 2)) then (H, p) else upS q Z f (swH H q p Z ((j - 1) / 2) j) (swP p ((j - 1) / 2) j) ((j - 1) / 2)
theorem upS_stop {q : Nat} {Z : List (List AV)} {f : Nat} {H : Heap} {p : List It} {j : Nat} (h : j = 0 ∨ ¬ lt3 (at3 p j) (at3 p ((j - 1) / 2))) : upS q Z f H p j = (H, p) := by
  cases f with
  | zero => rfl
  | succ f => unfold upS; rw [if_pos h]
theorem upS_step {q : Nat} {Z : List (List AV)} {f : Nat} {H : Heap} {p : List It} {j : Nat} (h : ¬ (j = 0 ∨ ¬ lt3 (at3 p j) (at3 p ((j - 1) / 2)))) : upS q Z (f + 1) H p j = upS q Z f (swH H q p Z ((j - 1) / 2) j) (swP p ((j - 1) / 2) j) ((j - 1) / 2) := by
  conv => lhs; unfold upS
  rw [if_neg h]
/-- Down, as lists. -/
def dnM (p : List It) (n i : Nat) : Nat := if 2 * i + 1 + 1 < n ∧ lt3 (at3 p (2 * i + 1 + 1)) (at3 p (2 * i + 1)) then 2 * i + 1 + 1 else 2 * i + 1
def dnS (q : Nat) (Z : List (List AV)) (n : Nat) : Nat → Heap → List It → Nat → Heap × List It × Nat
  | 0, H, p, i => (H, p, i)
  | f + 1, H, p, i => if n ≤ 2 * i + 1 ∨ ¬ lt3 (at3 p (dnM p n i)) (at3 p i) then (H, p, i) else dnS q Z n f (swH H q p Z i (dnM p n i)) (swP p i (dnM p n i)) (dnM p n i)
theorem dnS_stop {q n : Nat} {Z : List (List AV)} {f : Nat} {H : Heap} {p : List It} {i : Nat} (h : n ≤ 2 * i + 1 ∨ ¬ lt3 (at3 p (dnM p n i)) (at3 p i)) : dnS q Z n f H p i = (H, p, i) := by
  cases f with
  | zero => rfl
  | succ f => unfold dnS; rw [if_pos h]
theorem dnS_step {q n : Nat} {Z : List (List AV)} {f : Nat} {H : Heap} {p : List It} {i : Nat} (h : ¬ (n ≤ 2 * i + 1 ∨ ¬ lt3 (at3 p (dnM p n i)) (at3 p i))) : dnS q Z n (f + 1) H p i = dnS q Z n f (swH H q p Z i (dnM p n i)) (swP p i (dnM p n i)) (dnM p n i) := by
  conv => lhs; unfold dnS
  rw [if_neg h]
section
variable {H : Heap} {b c q : Nat} {p : List It} {Z : List (List AV)}
theorem less_d (T : Tm H b c q p Z) {i j : Nat} (hi : i < p.length) (hj : j < p.length) : ACalls E0 66 [.hs q 1 0 p.length, .v (.int .i64 (i : Int)), .v (.int .i64 (j : Int))] H fun r H' => r = .v (.bool (decide (lt3 (at3 p i) (at3 p j)))) ∧ H' = H := by
  have := less_am T hi hj
  simp only [cmp3_lt] at this
  exact this
theorem wrap_i {x : Int} (h0 : -9223372036854775808 ≤ x) (h1 : x < 9223372036854775808) : IntKind.wrap .i64 x = x := by
  simp (disch := omega) only [go_sem]
theorem half (j : Nat) (h : 0 < j) (hl : j ≤ 1099511627776) : IntKind.wrap .i64 (Int.tdiv ((j : Int) - 1) 2) = (((j - 1) / 2 : Nat) : Int) := by
  have e : (j : Int) - 1 = ((j - 1 : Nat) : Int) := by omega
  rw [e, Int.tdiv_eq_ediv_of_nonneg (by omega), wrap_i (by omega) (by omega)]
  omega
theorem upS_ok {n : Nat} : ∀ (f : Nat) {H : Heap} {p : List It} {j : Nat}, j ≤ f → Tm H b c q p Z → j < n → n ≤ p.length → UpI p n j → Tm (upS q Z f H p j).1 b c q (upS q Z f H p j).2 Z ∧ Fr n H q p (upS q Z f H p j).1 (upS q Z f H p j).2 ∧ Hp (upS q Z f H p j).2 n := by
  intro f
  induction f with
  | zero =>
    intro H p j hf T hj hn hu
    exact ⟨T, Fr.rfl' _ _ _ _, up_stop hu (.inl (by omega))⟩
  | succ f ih =>
    intro H p j hf T hj hn hu
    by_cases h : j = 0 ∨ ¬ lt3 (at3 p j) (at3 p ((j - 1) / 2))
    · rw [upS_stop h]
      exact ⟨T, Fr.rfl' _ _ _ _, up_stop hu h⟩
    · rw [upS_step h]
      rw [not_or, Classical.not_not] at h
      have F := Fr.swap (n := n) (H := H) (q := q) (p := p) Z (i := (j - 1) / 2) (j := j) hn (by omega) hj
      have := ih (j := (j - 1) / 2) (by omega) (swT T (i := (j - 1) / 2) (j := j) (by omega) (by omega) (by omega)) (by omega) (by rw [swP_len]; exact hn) (up_step hn hj (by omega) hu h.2)
      exact ⟨this.1, F.trans this.2.1, this.2.2⟩
theorem up_am (T : Tm H b c q p Z) {n j : Nat} (hn : n ≤ p.length) (hj : j < n) (hl : p.length ≤ 1099511627776) : ACalls E0 26 [.ifp 60 b 0, .v (.int .i64 (j : Int))] H fun r H' => r = .tup [] ∧ H' = (upS q Z j H p j).1 := by
  obtain ⟨Fn, hFn⟩ : ∃ Fn, upS q Z j H p j = Fn := ⟨_, rfl⟩
  rw [hFn]
  refine calls_q (calls_of Try.func26 rfl (by kernel_rfl) (by kernel_rfl) (by rw [Try.ntmps26]; exact Nat.le_of_ble_eq_true rfl) (fun hH0 hA0 => ?_)); rw [Try.results26]
  (repeat' (first | (have hs := Mk.out hs; (try simp only [decide_eq_true_eq, decide_eq_false_iff_not, Bool.not_eq_true, Bool.not_eq_false, Bool.not_true, Bool.not_false, Bool.not_eq_eq_eq_not, Bool.and_eq_true, Bool.or_eq_true, beq_iff_eq, bne_iff_ne, beq_eq_false_iff_ne, ne_eq, Classical.not_not, not_true_eq_false, not_false_eq_true, forall_const, Bool.false_eq_true, false_implies, eq_self] at hs); (try (exfalso; omega)); (try simp (disch := omega) only [go_sem, hs])) | (refine z_seqr rfl ?_) | (refine w_seq rfl fun K hK => ?_) | (refine z_reg rfl ?_) | (refine z_cond rfl ?_) | (refine w_skip rfl ?_; ((repeat ((fail_if_success (refine hK _ _ (cl_id ?_))); clear hK)); refine hK _ _ (cl_id ?_); clear hK)) | (refine w_ret rfl ?_; (try dsimp only [anorm, ablock, astay]); refine z_end ?_) | (refine z_end0 ?_) | (refine w_block rfl ?_) | (refine w_scope rfl ?_) | (refine w_label rfl ?_; ((repeat ((fail_if_success (refine hK _ _ (cl_id ?_))); clear hK)); refine hK _ _ (cl_id ?_); clear hK)) | (refine w_exit rfl ?_; (try dsimp only [anorm, ablock, astay]); (try simp only [reduceIte, ↓reduceIte, Nat.reduceEqDiff]); ((repeat ((fail_if_success (refine hK _ _ (cl_id ?_))); clear hK)); refine hK _ _ (cl_id ?_); clear hK)) | (refine w_exit rfl ?_; (try dsimp only [anorm, ablock, astay]); (try simp only [reduceIte, ↓reduceIte, Nat.reduceEqDiff]); refine z_end0 ?_) | (refine jend_go [(3, [0, 1]), (2, [0, 4]), (1, [0, 1, 4, 17]), (0, [0, 1, 4])] ?_; simp only [tabAt_cons, sel_nil, sel_cons, put_at, ofl_cons, ofl_nil, T0_at, List.getElem?_cons_zero, List.getElem?_cons_succ, List.getElem?_nil, Option.getD_some, Option.getD_none, reduceIte, ↓reduceIte, Nat.reduceEqDiff]; refine jl_go ?_) | simp (disch := omega) only [go_sem] | (refine jc_t ?_) | (refine jc_f ?_) | (refine And.intro (by (first | omega | (simp; done) | (simp; omega))) ?_) | (refine mc_b (fun hs => ?_) fun hs => ?_) | (refine mg_st (fun hs => ?_) fun hs => ?_) | (refine mg_sf (fun hs => ?_) fun hs => ?_) | (refine mall_s (fun hs => ?_) fun hs => ?_) | (refine malln_s (fun hs => ?_) fun hs => ?_) | (refine mpk_s (fun hs => ?_) fun hs => ?_) | ((repeat ((fail_if_success (refine hK _ _ (cl_id ?_))); clear hK)); refine hK _ _ (cl_id ?_); clear hK)))
  refine z_loop rfl (fun (s : Heap × List It × Nat) => Tm s.1 b c q s.2.1 Z ∧ Fr n H q p s.1 s.2.1 ∧ s.2.2 < n ∧ ∃ f, s.2.2 ≤ f ∧ upS q Z f s.1 s.2.1 s.2.2 = Fn) (fun s => s.2.2) (fun s => [(0, .ifp 60 b 0), (1, .v (.int .i64 (s.2.2 : Int)))]) (fun s => s.1) (H, p, j) ⟨T, Fr.rfl' _ _ _ _, hj, j, Nat.le_refl _, hFn⟩ (cq_s ?_) ?_
  · (simp (disch := omega) only [go_sem])
  rintro ⟨H1, p1, j1⟩ ⟨T1, F1, hj1, f, hf, hU⟩ Ko hKo
  simp only at T1 F1 hj1 hf hU ⊢
  have hpl := F1.perm.length_eq
  have hB := T1.o
  by_cases e : j1 = 0
  · rw [upS_stop (.inl e)] at hU
    subst e hU
    clear hKo
    have e1 : IntKind.wrap .i64 (Int.tdiv (-1) 2) = 0 := by decide
    (repeat' (first | (have hs := Mk.out hs; (try simp only [decide_eq_true_eq, decide_eq_false_iff_not, Bool.not_eq_true, Bool.not_eq_false, Bool.not_true, Bool.not_false, Bool.not_eq_eq_eq_not, Bool.and_eq_true, Bool.or_eq_true, beq_iff_eq, bne_iff_ne, beq_eq_false_iff_ne, ne_eq, Classical.not_not, not_true_eq_false, not_false_eq_true, forall_const, Bool.false_eq_true, false_implies, eq_self] at hs); (try (exfalso; omega)); (try simp (disch := omega) only [go_sem, hB, e1, hs])) | (refine z_seqr rfl ?_) | (refine w_seq rfl fun K hK => ?_) | (refine z_reg rfl ?_) | (refine z_cond rfl ?_) | (refine w_skip rfl ?_; ((repeat ((fail_if_success (refine hK _ _ (cl_id ?_))); clear hK)); refine hK _ _ (cl_id ?_); clear hK)) | (refine w_ret rfl ?_; (try dsimp only [anorm, ablock, astay]); refine z_end ?_) | (refine z_end0 ?_) | (refine w_block rfl ?_) | (refine w_scope rfl ?_) | (refine w_label rfl ?_; ((repeat ((fail_if_success (refine hK _ _ (cl_id ?_))); clear hK)); refine hK _ _ (cl_id ?_); clear hK)) | (refine w_exit rfl ?_; (try dsimp only [anorm, ablock, astay]); (try simp only [reduceIte, ↓reduceIte, Nat.reduceEqDiff]); ((repeat ((fail_if_success (refine hK _ _ (cl_id ?_))); clear hK)); refine hK _ _ (cl_id ?_); clear hK)) | (refine w_exit rfl ?_; (try dsimp only [anorm, ablock, astay]); (try simp only [reduceIte, ↓reduceIte, Nat.reduceEqDiff]); refine z_end0 ?_) | (refine jend_go [(3, [0, 1]), (2, [0, 4]), (1, [0, 1, 4, 17]), (0, [0, 1, 4])] ?_; simp only [tabAt_cons, sel_nil, sel_cons, put_at, ofl_cons, ofl_nil, T0_at, List.getElem?_cons_zero, List.getElem?_cons_succ, List.getElem?_nil, Option.getD_some, Option.getD_none, reduceIte, ↓reduceIte, Nat.reduceEqDiff]; refine jl_go ?_) | simp (disch := omega) only [go_sem, hB, e1] | (refine jc_t ?_) | (refine jc_f ?_) | (refine And.intro (by (first | omega | (simp; done) | (simp; omega))) ?_) | (refine mc_b (fun hs => ?_) fun hs => ?_) | (refine mg_st (fun hs => ?_) fun hs => ?_) | (refine mg_sf (fun hs => ?_) fun hs => ?_) | (refine mall_s (fun hs => ?_) fun hs => ?_) | (refine malln_s (fun hs => ?_) fun hs => ?_) | (refine mpk_s (fun hs => ?_) fun hs => ?_) | ((repeat ((fail_if_success (refine hK _ _ (cl_id ?_))); clear hK)); refine hK _ _ (cl_id ?_); clear hK)))
    exact cl_id ⟨rfl, rfl⟩
  · have e1 := half j1 (by omega) (by omega)
    have h1 := less_d T1 (i := j1) (j := (j1 - 1) / 2) (by omega) (by omega)
    have hs := swap_am T1 (i := (j1 - 1) / 2) (j := j1) (by omega) (by omega) (by omega)
    have e2 : ¬ (((j1 - 1) / 2 : Nat) : Int) = (j1 : Int) := by omega
    by_cases hlt : lt3 (at3 p1 j1) (at3 p1 ((j1 - 1) / 2))
    · have hk := hKo
      clear hKo
      obtain ⟨f', rfl⟩ : ∃ f', f = f' + 1 := ⟨f - 1, by omega⟩
      rw [upS_step (by rw [not_or, Classical.not_not]; exact ⟨e, hlt⟩)] at hU
      have sT := swT T1 (i := (j1 - 1) / 2) (j := j1) (by omega) (by omega) (by omega)
      have sF := F1.trans (Fr.swap (n := n) (H := H1) (q := q) (p := p1) Z (i := (j1 - 1) / 2) (j := j1) (by omega) (by omega) hj1)
      have sl : (j1 - 1) / 2 < j1 := by omega
      generalize (j1 - 1) / 2 = i at *
      have hlt' := decide_eq_true hlt
      rw [hlt'] at h1
      (repeat' (first | (have hs := Mk.out hs; (try simp only [decide_eq_true_eq, decide_eq_false_iff_not, Bool.not_eq_true, Bool.not_eq_false, Bool.not_true, Bool.not_false, Bool.not_eq_eq_eq_not, Bool.and_eq_true, Bool.or_eq_true, beq_iff_eq, bne_iff_ne, beq_eq_false_iff_ne, ne_eq, Classical.not_not, not_true_eq_false, not_false_eq_true, forall_const, Bool.false_eq_true, false_implies, eq_self] at hs); (try (exfalso; omega)); (try simp (disch := omega) only [go_sem, hB, e1, e2, hs])) | (refine z_seqr rfl ?_) | (refine w_seq rfl fun K hK => ?_) | (refine z_reg rfl ?_) | (refine z_cond rfl ?_) | (refine w_skip rfl ?_; ((repeat ((fail_if_success (refine hK _ _ (cl_id ?_))); clear hK)); refine hK _ _ (cl_id ?_); clear hK)) | (refine w_ret rfl ?_; (try dsimp only [anorm, ablock, astay]); refine z_end ?_) | (refine z_end0 ?_) | (refine w_block rfl ?_) | (refine w_scope rfl ?_) | (refine w_label rfl ?_; ((repeat ((fail_if_success (refine hK _ _ (cl_id ?_))); clear hK)); refine hK _ _ (cl_id ?_); clear hK)) | (refine w_exit rfl ?_; (try dsimp only [anorm, ablock, astay]); (try simp only [reduceIte, ↓reduceIte, Nat.reduceEqDiff]); ((repeat ((fail_if_success (refine hK _ _ (cl_id ?_))); clear hK)); refine hK _ _ (cl_id ?_); clear hK)) | (refine w_exit rfl ?_; (try dsimp only [anorm, ablock, astay]); (try simp only [reduceIte, ↓reduceIte, Nat.reduceEqDiff]); refine z_end0 ?_) | (refine jend_go [(3, [0, 1]), (2, [0, 4]), (1, [0, 1, 4, 17]), (0, [0, 1, 4])] ?_; simp only [tabAt_cons, sel_nil, sel_cons, put_at, ofl_cons, ofl_nil, T0_at, List.getElem?_cons_zero, List.getElem?_cons_succ, List.getElem?_nil, Option.getD_some, Option.getD_none, reduceIte, ↓reduceIte, Nat.reduceEqDiff]; refine jl_go ?_) | simp (disch := omega) only [go_sem, hB, e1, e2] | (refine jc_t ?_) | (refine jc_f ?_) | (refine z_ret (h1) ?_) | (refine z_ret (hs) ?_) | (refine And.intro (by (first | omega | (simp; done) | (simp; omega))) ?_) | (refine mc_b (fun hs => ?_) fun hs => ?_) | (refine mg_st (fun hs => ?_) fun hs => ?_) | (refine mg_sf (fun hs => ?_) fun hs => ?_) | (refine mall_s (fun hs => ?_) fun hs => ?_) | (refine malln_s (fun hs => ?_) fun hs => ?_) | (refine mpk_s (fun hs => ?_) fun hs => ?_) | ((repeat ((fail_if_success (refine hK _ _ (cl_id ?_))); clear hK)); refine hK _ _ (cl_id ?_); clear hK)))
      refine hk _ _ (swH H1 q p1 Z i j1, swP p1 i j1, i) ⟨sT, sF, by simp only; omega, f', by simp only; omega, hU⟩ sl (cq_s ?_)
      (simp (disch := omega) only [go_sem])
    · clear hKo
      rw [upS_stop (.inr hlt)] at hU
      subst hU
      generalize (j1 - 1) / 2 = i at *
      have hlt' := decide_eq_false hlt
      rw [hlt'] at h1
      (repeat' (first | (have hs := Mk.out hs; (try simp only [decide_eq_true_eq, decide_eq_false_iff_not, Bool.not_eq_true, Bool.not_eq_false, Bool.not_true, Bool.not_false, Bool.not_eq_eq_eq_not, Bool.and_eq_true, Bool.or_eq_true, beq_iff_eq, bne_iff_ne, beq_eq_false_iff_ne, ne_eq, Classical.not_not, not_true_eq_false, not_false_eq_true, forall_const, Bool.false_eq_true, false_implies, eq_self] at hs); (try (exfalso; omega)); (try simp (disch := omega) only [go_sem, hB, e1, e2, hs])) | (refine z_seqr rfl ?_) | (refine w_seq rfl fun K hK => ?_) | (refine z_reg rfl ?_) | (refine z_cond rfl ?_) | (refine w_skip rfl ?_; ((repeat ((fail_if_success (refine hK _ _ (cl_id ?_))); clear hK)); refine hK _ _ (cl_id ?_); clear hK)) | (refine w_ret rfl ?_; (try dsimp only [anorm, ablock, astay]); refine z_end ?_) | (refine z_end0 ?_) | (refine w_block rfl ?_) | (refine w_scope rfl ?_) | (refine w_label rfl ?_; ((repeat ((fail_if_success (refine hK _ _ (cl_id ?_))); clear hK)); refine hK _ _ (cl_id ?_); clear hK)) | (refine w_exit rfl ?_; (try dsimp only [anorm, ablock, astay]); (try simp only [reduceIte, ↓reduceIte, Nat.reduceEqDiff]); ((repeat ((fail_if_success (refine hK _ _ (cl_id ?_))); clear hK)); refine hK _ _ (cl_id ?_); clear hK)) | (refine w_exit rfl ?_; (try dsimp only [anorm, ablock, astay]); (try simp only [reduceIte, ↓reduceIte, Nat.reduceEqDiff]); refine z_end0 ?_) | (refine jend_go [(3, [0, 1]), (2, [0, 4]), (1, [0, 1, 4, 17]), (0, [0, 1, 4])] ?_; simp only [tabAt_cons, sel_nil, sel_cons, put_at, ofl_cons, ofl_nil, T0_at, List.getElem?_cons_zero, List.getElem?_cons_succ, List.getElem?_nil, Option.getD_some, Option.getD_none, reduceIte, ↓reduceIte, Nat.reduceEqDiff]; refine jl_go ?_) | simp (disch := omega) only [go_sem, hB, e1, e2] | (refine jc_t ?_) | (refine jc_f ?_) | (refine z_ret (h1) ?_) | (refine z_ret (hs) ?_) | (refine And.intro (by (first | omega | (simp; done) | (simp; omega))) ?_) | (refine mc_b (fun hs => ?_) fun hs => ?_) | (refine mg_st (fun hs => ?_) fun hs => ?_) | (refine mg_sf (fun hs => ?_) fun hs => ?_) | (refine mall_s (fun hs => ?_) fun hs => ?_) | (refine malln_s (fun hs => ?_) fun hs => ?_) | (refine mpk_s (fun hs => ?_) fun hs => ?_) | ((repeat ((fail_if_success (refine hK _ _ (cl_id ?_))); clear hK)); refine hK _ _ (cl_id ?_); clear hK)))
      exact cl_id ⟨rfl, rfl⟩
theorem dnM_ok {p : List It} {n i : Nat} (h : ¬ n ≤ 2 * i + 1) : dnM p n i < n ∧ 0 < dnM p n i ∧ (dnM p n i - 1) / 2 = i ∧ i < dnM p n i ∧ ∀ x, 0 < x → x < n → (x - 1) / 2 = i → le3 (at3 p (dnM p n i)) (at3 p x) := by
  unfold dnM
  split
  · next hh =>
    refine ⟨by omega, by omega, by omega, by omega, fun x x0 xn xi => ?_⟩
    rcases (by omega : x = 2 * i + 1 ∨ x = 2 * i + 1 + 1) with h | h
    · rw [h]; exact le3_of_lt hh.2
    · rw [h]; exact le3_rfl _
  · next hh =>
    refine ⟨by omega, by omega, by omega, by omega, fun x x0 xn xi => ?_⟩
    rcases (by omega : x = 2 * i + 1 ∨ x = 2 * i + 1 + 1) with h | h
    · rw [h]; exact le3_rfl _
    · rw [h] at xn ⊢
      rw [not_and] at hh
      exact hh xn
theorem dnS_ok {p0 : List It} {n i0 : Nat} : ∀ (f : Nat) {H : Heap} {p : List It} {i : Nat}, n - i ≤ f → Tm H b c q p Z → i < n → n ≤ p.length → DnI p0 p n i0 i →
    Tm (dnS q Z n f H p i).1 b c q (dnS q Z n f H p i).2.1 Z ∧ Fr n H q p (dnS q Z n f H p i).1 (dnS q Z n f H p i).2.1 ∧ (i0 < (dnS q Z n f H p i).2.2 → Hp (dnS q Z n f H p i).2.1 n) ∧ (¬ i0 < (dnS q Z n f H p i).2.2 → UpI (dnS q Z n f H p i).2.1 n i0) := by
  intro f
  induction f with
  | zero =>
    intro H p i hf T hi hn hd
    omega
  | succ f ih =>
    intro H p i hf T hi hn hd
    by_cases h : n ≤ 2 * i + 1 ∨ ¬ lt3 (at3 p (dnM p n i)) (at3 p i)
    · rw [dnS_stop h]
      have st := dn_stop hd (fun m h0 hm hmi => by
        rcases h with h | h
        · omega
        · by_cases h2 : n ≤ 2 * i + 1
          · omega
          · exact le3_trans h ((dnM_ok h2).2.2.2.2 m h0 hm hmi))
      exact ⟨T, Fr.rfl' _ _ _ _, st.1, fun e => (st.2 e).2⟩
    · rw [dnS_step h]
      rw [not_or, Classical.not_not] at h
      obtain ⟨m1, m2, m3, m4, m5⟩ := dnM_ok (p := p) h.1
      have F := Fr.swap (n := n) (H := H) (q := q) (p := p) Z (i := i) (j := dnM p n i) hn hi m1
      have := ih (i := dnM p n i) (by omega) (swT T (i := i) (j := dnM p n i) (by omega) (by omega) (by omega)) m1 (by rw [swP_len]; exact hn) (dn_step hn m1 m2 m3 hd h.2 m5)
      exact ⟨this.1, F.trans this.2.1, this.2.2⟩
theorem down_am (T : Tm H b c q p Z) {n i0 : Nat} (hn : n ≤ p.length) (hi : i0 < n) (hl : p.length ≤ 1099511627776) (f0 : Nat) (hf0 : n - i0 ≤ f0) : ACalls E0 31 [.ifp 60 b 0, .v (.int .i64 (i0 : Int)), .v (.int .i64 (n : Int))] H fun r H' => r = .v (.bool (decide ((i0 : Int) < ((dnS q Z n f0 H p i0).2.2 : Int)))) ∧ H' = (dnS q Z n f0 H p i0).1 := by
  obtain ⟨Fn, hFn⟩ : ∃ Fn, dnS q Z n f0 H p i0 = Fn := ⟨_, rfl⟩
  rw [hFn]
  refine calls_q (calls_of Try.func31 rfl (by kernel_rfl) (by kernel_rfl) (by rw [Try.ntmps31]; exact Nat.le_of_ble_eq_true rfl) (fun hH0 hA0 => ?_)); rw [Try.results31]
  (repeat' (first | (have hs := Mk.out hs; (try simp only [decide_eq_true_eq, decide_eq_false_iff_not, Bool.not_eq_true, Bool.not_eq_false, Bool.not_true, Bool.not_false, Bool.not_eq_eq_eq_not, Bool.and_eq_true, Bool.or_eq_true, beq_iff_eq, bne_iff_ne, beq_eq_false_iff_ne, ne_eq, Classical.not_not, not_true_eq_false, not_false_eq_true, forall_const, Bool.false_eq_true, false_implies, eq_self] at hs); (try (exfalso; omega)); (try simp (disch := omega) only [go_sem, hs])) | (refine z_seqr rfl ?_) | (refine w_seq rfl fun K hK => ?_) | (refine z_reg rfl ?_) | (refine z_cond rfl ?_) | (refine w_skip rfl ?_; ((repeat ((fail_if_success (refine hK _ _ (cl_id ?_))); clear hK)); refine hK _ _ (cl_id ?_); clear hK)) | (refine w_ret rfl ?_; (try dsimp only [anorm, ablock, astay]); refine z_end ?_) | (refine z_end0 ?_) | (refine w_block rfl ?_) | (refine w_scope rfl ?_) | (refine w_label rfl ?_; ((repeat ((fail_if_success (refine hK _ _ (cl_id ?_))); clear hK)); refine hK _ _ (cl_id ?_); clear hK)) | (refine w_exit rfl ?_; (try dsimp only [anorm, ablock, astay]); (try simp only [reduceIte, ↓reduceIte, Nat.reduceEqDiff]); ((repeat ((fail_if_success (refine hK _ _ (cl_id ?_))); clear hK)); refine hK _ _ (cl_id ?_); clear hK)) | (refine w_exit rfl ?_; (try dsimp only [anorm, ablock, astay]); (try simp only [reduceIte, ↓reduceIte, Nat.reduceEqDiff]); refine z_end0 ?_) | (refine jend_go [(11, [6]), (10, [0, 1, 2, 7]), (9, [0, 1, 2, 9]), (8, [0, 1, 2, 7, 9, 39]), (7, [0, 1, 2, 7, 9]), (6, [0, 1, 2, 7, 9, 10, 33]), (5, [0, 1, 2, 7, 8, 9, 10]), (4, [0, 1, 2, 7, 8, 9]), (3, [0, 1, 2, 7, 8, 21]), (2, [0, 1, 2, 7, 8]), (1, [0, 1, 2, 7]), (0, [0, 1, 2])] ?_; simp only [tabAt_cons, sel_nil, sel_cons, put_at, ofl_cons, ofl_nil, T0_at, List.getElem?_cons_zero, List.getElem?_cons_succ, List.getElem?_nil, Option.getD_some, Option.getD_none, reduceIte, ↓reduceIte, Nat.reduceEqDiff]; refine jl_go ?_) | simp (disch := omega) only [go_sem] | (refine jc_t ?_) | (refine jc_f ?_) | (refine And.intro (by (first | omega | (simp; done) | (simp; omega))) ?_) | (refine mc_b (fun hs => ?_) fun hs => ?_) | (refine mg_st (fun hs => ?_) fun hs => ?_) | (refine mg_sf (fun hs => ?_) fun hs => ?_) | (refine mall_s (fun hs => ?_) fun hs => ?_) | (refine malln_s (fun hs => ?_) fun hs => ?_) | (refine mpk_s (fun hs => ?_) fun hs => ?_) | ((repeat ((fail_if_success (refine hK _ _ (cl_id ?_))); clear hK)); refine hK _ _ (cl_id ?_); clear hK)))
  refine z_loop rfl (fun (s : Heap × List It × Nat) => Tm s.1 b c q s.2.1 Z ∧ Fr n H q p s.1 s.2.1 ∧ s.2.2 < n ∧ ∃ f, n - s.2.2 ≤ f ∧ dnS q Z n f s.1 s.2.1 s.2.2 = Fn) (fun s => n - s.2.2) (fun s => [(0, .ifp 60 b 0), (1, .v (.int .i64 (i0 : Int))), (2, .v (.int .i64 (n : Int))), (7, .v (.int .i64 (s.2.2 : Int)))]) (fun s => s.1) (H, p, i0) ⟨T, Fr.rfl' _ _ _ _, hi, f0, hf0, hFn⟩ (cq_s ?_) ?_
  · (simp (disch := omega) only [go_sem])
  rintro ⟨H1, p1, i⟩ ⟨T1, F1, hi1, f, hf, hU⟩ Ko hKo
  simp only at T1 F1 hi1 hf hU ⊢
  obtain ⟨f', rfl⟩ : ∃ f', f = f' + 1 := ⟨f - 1, by omega⟩
  have hpl := F1.perm.length_eq
  have hB := T1.o
  obtain ⟨j, ej⟩ : ∃ j, j = 2 * i + 1 := ⟨_, rfl⟩
  obtain ⟨k, ek⟩ : ∃ k, k = j + 1 := ⟨_, rfl⟩
  have e1 : 2 * (i : Int) + 1 = (j : Int) := by omega
  have e2 : (j : Int) + 1 = (k : Int) := by omega
  have fin (hs : n ≤ 2 * i + 1 ∨ ¬ lt3 (at3 p1 (dnM p1 n i)) (at3 p1 i)) : (AV.v (.bool (decide ((i0 : Int) < (i : Int))))) = .v (.bool (decide ((i0 : Int) < (Fn.2.2 : Int)))) ∧ H1 = Fn.1 := by
    rw [dnS_stop hs] at hU
    rw [← hU]
    exact ⟨rfl, rfl⟩
  have go (m : Nat) (em : dnM p1 n i = m) (hm : m < n) (mi : i < m) (c1 : ¬ n ≤ 2 * i + 1) (hs : lt3 (at3 p1 m) (at3 p1 i)) :
      Tm (swH H1 q p1 Z i m) b c q (swP p1 i m) Z ∧ Fr n H q p (swH H1 q p1 Z i m) (swP p1 i m) ∧ m < n ∧ ∃ f, n - m ≤ f ∧ dnS q Z n f (swH H1 q p1 Z i m) (swP p1 i m) m = Fn := by
    rw [dnS_step (by rw [not_or, Classical.not_not, em]; exact ⟨c1, hs⟩), em] at hU
    exact ⟨swT T1 (by omega) (by omega) (by omega), F1.trans (Fr.swap Z (by omega) hi1 hm), hm, f', by omega, hU⟩
  have swp (m : Nat) (hm : m < n) (mi : i ≠ m) := swap_am T1 (i := i) (j := m) (by omega) (by omega) mi
  have l1 (x y : Nat) (hx : x < n) (hy : y < n) (h : lt3 (at3 p1 x) (at3 p1 y)) : ACalls E0 66 [.hs q 1 0 p1.length, .v (.int .i64 (x : Int)), .v (.int .i64 (y : Int))] H1 fun r H' => r = .v (.bool true) ∧ H' = H1 := by
    have := less_d T1 (i := x) (j := y) (by omega) (by omega)
    rwa [decide_eq_true h] at this
  have l0 (x y : Nat) (hx : x < n) (hy : y < n) (h : ¬ lt3 (at3 p1 x) (at3 p1 y)) : ACalls E0 66 [.hs q 1 0 p1.length, .v (.int .i64 (x : Int)), .v (.int .i64 (y : Int))] H1 fun r H' => r = .v (.bool false) ∧ H' = H1 := by
    have := less_d T1 (i := x) (j := y) (by omega) (by omega)
    rwa [decide_eq_false h] at this
  by_cases c1 : n ≤ j
  · clear hKo
    have st := fin (.inl (by omega))
    have d1 : (n : Int) ≤ (j : Int) := by omega
    clear fin go swp l0 l1
    (repeat' (first | (have hs := Mk.out hs; (try simp only [decide_eq_true_eq, decide_eq_false_iff_not, Bool.not_eq_true, Bool.not_eq_false, Bool.not_true, Bool.not_false, Bool.not_eq_eq_eq_not, Bool.and_eq_true, Bool.or_eq_true, beq_iff_eq, bne_iff_ne, beq_eq_false_iff_ne, ne_eq, Classical.not_not, not_true_eq_false, not_false_eq_true, forall_const, Bool.false_eq_true, false_implies, eq_self] at hs); (try (exfalso; omega)); (try simp (disch := omega) only [go_sem, hB, e1, d1, hs])) | (refine z_seqr rfl ?_) | (refine w_seq rfl fun K hK => ?_) | (refine z_reg rfl ?_) | (refine z_cond rfl ?_) | (refine w_skip rfl ?_; ((repeat ((fail_if_success (refine hK _ _ (cl_id ?_))); clear hK)); refine hK _ _ (cl_id ?_); clear hK)) | (refine w_ret rfl ?_; (try dsimp only [anorm, ablock, astay]); refine z_end ?_) | (refine z_end0 ?_) | (refine w_block rfl ?_) | (refine w_scope rfl ?_) | (refine w_label rfl ?_; ((repeat ((fail_if_success (refine hK _ _ (cl_id ?_))); clear hK)); refine hK _ _ (cl_id ?_); clear hK)) | (refine w_exit rfl ?_; (try dsimp only [anorm, ablock, astay]); (try simp only [reduceIte, ↓reduceIte, Nat.reduceEqDiff]); ((repeat ((fail_if_success (refine hK _ _ (cl_id ?_))); clear hK)); refine hK _ _ (cl_id ?_); clear hK)) | (refine w_exit rfl ?_; (try dsimp only [anorm, ablock, astay]); (try simp only [reduceIte, ↓reduceIte, Nat.reduceEqDiff]); refine z_end0 ?_) | (refine jend_go [(11, [6]), (10, [0, 1, 2, 7]), (9, [0, 1, 2, 9]), (8, [0, 1, 2, 7, 9, 39]), (7, [0, 1, 2, 7, 9]), (6, [0, 1, 2, 7, 9, 10, 33]), (5, [0, 1, 2, 7, 8, 9, 10]), (4, [0, 1, 2, 7, 8, 9]), (3, [0, 1, 2, 7, 8, 21]), (2, [0, 1, 2, 7, 8]), (1, [0, 1, 2, 7]), (0, [0, 1, 2])] ?_; simp only [tabAt_cons, sel_nil, sel_cons, put_at, ofl_cons, ofl_nil, T0_at, List.getElem?_cons_zero, List.getElem?_cons_succ, List.getElem?_nil, Option.getD_some, Option.getD_none, reduceIte, ↓reduceIte, Nat.reduceEqDiff]; refine jl_go ?_) | simp (disch := omega) only [go_sem, hB, e1, d1] | (refine jc_t ?_) | (refine jc_f ?_) | (refine And.intro (by (first | omega | (simp; done) | (simp; omega))) ?_) | (refine mc_b (fun hs => ?_) fun hs => ?_) | (refine mg_st (fun hs => ?_) fun hs => ?_) | (refine mg_sf (fun hs => ?_) fun hs => ?_) | (refine mall_s (fun hs => ?_) fun hs => ?_) | (refine malln_s (fun hs => ?_) fun hs => ?_) | (refine mpk_s (fun hs => ?_) fun hs => ?_) | ((repeat ((fail_if_success (refine hK _ _ (cl_id ?_))); clear hK)); refine hK _ _ (cl_id ?_); clear hK)))
    exact cl_id st
  · have d1 : ¬ (n : Int) ≤ (j : Int) := by omega
    have d0 : ¬ (j : Int) < 0 := by omega
    by_cases c2 : k < n
    · have d2 : (k : Int) < (n : Int) := by omega
      by_cases c3 : lt3 (at3 p1 k) (at3 p1 j)
      · have g1 := l1 k j c2 (by omega) c3
        by_cases c4 : lt3 (at3 p1 k) (at3 p1 i)
        · have hk := hKo
          clear hKo
          have g2 := l1 k i c2 hi1 c4
          have g3 := swp k c2 (by omega)
          have st := go k (by unfold dnM; rw [← ej, ← ek, if_pos ⟨c2, c3⟩]) c2 (by omega) (by omega) c4
          clear fin go swp l0 l1
          (repeat' (first | (have hs := Mk.out hs; (try simp only [decide_eq_true_eq, decide_eq_false_iff_not, Bool.not_eq_true, Bool.not_eq_false, Bool.not_true, Bool.not_false, Bool.not_eq_eq_eq_not, Bool.and_eq_true, Bool.or_eq_true, beq_iff_eq, bne_iff_ne, beq_eq_false_iff_ne, ne_eq, Classical.not_not, not_true_eq_false, not_false_eq_true, forall_const, Bool.false_eq_true, false_implies, eq_self] at hs); (try (exfalso; omega)); (try simp (disch := omega) only [go_sem, hB, e1, e2, d1, d0, d2, hs])) | (refine z_seqr rfl ?_) | (refine w_seq rfl fun K hK => ?_) | (refine z_reg rfl ?_) | (refine z_cond rfl ?_) | (refine w_skip rfl ?_; ((repeat ((fail_if_success (refine hK _ _ (cl_id ?_))); clear hK)); refine hK _ _ (cl_id ?_); clear hK)) | (refine w_ret rfl ?_; (try dsimp only [anorm, ablock, astay]); refine z_end ?_) | (refine z_end0 ?_) | (refine w_block rfl ?_) | (refine w_scope rfl ?_) | (refine w_label rfl ?_; ((repeat ((fail_if_success (refine hK _ _ (cl_id ?_))); clear hK)); refine hK _ _ (cl_id ?_); clear hK)) | (refine w_exit rfl ?_; (try dsimp only [anorm, ablock, astay]); (try simp only [reduceIte, ↓reduceIte, Nat.reduceEqDiff]); ((repeat ((fail_if_success (refine hK _ _ (cl_id ?_))); clear hK)); refine hK _ _ (cl_id ?_); clear hK)) | (refine w_exit rfl ?_; (try dsimp only [anorm, ablock, astay]); (try simp only [reduceIte, ↓reduceIte, Nat.reduceEqDiff]); refine z_end0 ?_) | (refine jend_go [(11, [6]), (10, [0, 1, 2, 7]), (9, [0, 1, 2, 9]), (8, [0, 1, 2, 7, 9, 39]), (7, [0, 1, 2, 7, 9]), (6, [0, 1, 2, 7, 9, 10, 33]), (5, [0, 1, 2, 7, 8, 9, 10]), (4, [0, 1, 2, 7, 8, 9]), (3, [0, 1, 2, 7, 8, 21]), (2, [0, 1, 2, 7, 8]), (1, [0, 1, 2, 7]), (0, [0, 1, 2])] ?_; simp only [tabAt_cons, sel_nil, sel_cons, put_at, ofl_cons, ofl_nil, T0_at, List.getElem?_cons_zero, List.getElem?_cons_succ, List.getElem?_nil, Option.getD_some, Option.getD_none, reduceIte, ↓reduceIte, Nat.reduceEqDiff]; refine jl_go ?_) | simp (disch := omega) only [go_sem, hB, e1, e2, d1, d0, d2] | (refine jc_t ?_) | (refine jc_f ?_) | (refine z_ret (g1) ?_) | (refine z_ret (g2) ?_) | (refine z_ret (g3) ?_) | (refine And.intro (by (first | omega | (simp; done) | (simp; omega))) ?_) | (refine mc_b (fun hs => ?_) fun hs => ?_) | (refine mg_st (fun hs => ?_) fun hs => ?_) | (refine mg_sf (fun hs => ?_) fun hs => ?_) | (refine mall_s (fun hs => ?_) fun hs => ?_) | (refine malln_s (fun hs => ?_) fun hs => ?_) | (refine mpk_s (fun hs => ?_) fun hs => ?_) | ((repeat ((fail_if_success (refine hK _ _ (cl_id ?_))); clear hK)); refine hK _ _ (cl_id ?_); clear hK)))
          refine hk _ _ (swH H1 q p1 Z i k, swP p1 i k, k) st (by simp only; omega) (cq_s ?_)
          (simp (disch := omega) only [go_sem])
        · clear hKo
          have g2 := l0 k i c2 hi1 c4
          have st := fin (.inr (by unfold dnM; rw [← ej, ← ek, if_pos ⟨c2, c3⟩]; exact c4))
          clear fin go swp l0 l1
          (repeat' (first | (have hs := Mk.out hs; (try simp only [decide_eq_true_eq, decide_eq_false_iff_not, Bool.not_eq_true, Bool.not_eq_false, Bool.not_true, Bool.not_false, Bool.not_eq_eq_eq_not, Bool.and_eq_true, Bool.or_eq_true, beq_iff_eq, bne_iff_ne, beq_eq_false_iff_ne, ne_eq, Classical.not_not, not_true_eq_false, not_false_eq_true, forall_const, Bool.false_eq_true, false_implies, eq_self] at hs); (try (exfalso; omega)); (try simp (disch := omega) only [go_sem, hB, e1, e2, d1, d0, d2, hs])) | (refine z_seqr rfl ?_) | (refine w_seq rfl fun K hK => ?_) | (refine z_reg rfl ?_) | (refine z_cond rfl ?_) | (refine w_skip rfl ?_; ((repeat ((fail_if_success (refine hK _ _ (cl_id ?_))); clear hK)); refine hK _ _ (cl_id ?_); clear hK)) | (refine w_ret rfl ?_; (try dsimp only [anorm, ablock, astay]); refine z_end ?_) | (refine z_end0 ?_) | (refine w_block rfl ?_) | (refine w_scope rfl ?_) | (refine w_label rfl ?_; ((repeat ((fail_if_success (refine hK _ _ (cl_id ?_))); clear hK)); refine hK _ _ (cl_id ?_); clear hK)) | (refine w_exit rfl ?_; (try dsimp only [anorm, ablock, astay]); (try simp only [reduceIte, ↓reduceIte, Nat.reduceEqDiff]); ((repeat ((fail_if_success (refine hK _ _ (cl_id ?_))); clear hK)); refine hK _ _ (cl_id ?_); clear hK)) | (refine w_exit rfl ?_; (try dsimp only [anorm, ablock, astay]); (try simp only [reduceIte, ↓reduceIte, Nat.reduceEqDiff]); refine z_end0 ?_) | (refine jend_go [(11, [6]), (10, [0, 1, 2, 7]), (9, [0, 1, 2, 9]), (8, [0, 1, 2, 7, 9, 39]), (7, [0, 1, 2, 7, 9]), (6, [0, 1, 2, 7, 9, 10, 33]), (5, [0, 1, 2, 7, 8, 9, 10]), (4, [0, 1, 2, 7, 8, 9]), (3, [0, 1, 2, 7, 8, 21]), (2, [0, 1, 2, 7, 8]), (1, [0, 1, 2, 7]), (0, [0, 1, 2])] ?_; simp only [tabAt_cons, sel_nil, sel_cons, put_at, ofl_cons, ofl_nil, T0_at, List.getElem?_cons_zero, List.getElem?_cons_succ, List.getElem?_nil, Option.getD_some, Option.getD_none, reduceIte, ↓reduceIte, Nat.reduceEqDiff]; refine jl_go ?_) | simp (disch := omega) only [go_sem, hB, e1, e2, d1, d0, d2] | (refine jc_t ?_) | (refine jc_f ?_) | (refine z_ret (g1) ?_) | (refine z_ret (g2) ?_) | (refine And.intro (by (first | omega | (simp; done) | (simp; omega))) ?_) | (refine mc_b (fun hs => ?_) fun hs => ?_) | (refine mg_st (fun hs => ?_) fun hs => ?_) | (refine mg_sf (fun hs => ?_) fun hs => ?_) | (refine mall_s (fun hs => ?_) fun hs => ?_) | (refine malln_s (fun hs => ?_) fun hs => ?_) | (refine mpk_s (fun hs => ?_) fun hs => ?_) | ((repeat ((fail_if_success (refine hK _ _ (cl_id ?_))); clear hK)); refine hK _ _ (cl_id ?_); clear hK)))
          exact cl_id st
      · have g1 := l0 k j c2 (by omega) c3
        by_cases c4 : lt3 (at3 p1 j) (at3 p1 i)
        · have hk := hKo
          clear hKo
          have g2 := l1 j i (by omega) hi1 c4
          have g3 := swp j (by omega) (by omega)
          have st := go j (by unfold dnM; rw [← ej, ← ek, if_neg (fun h => c3 h.2)]) (by omega) (by omega) (by omega) c4
          clear fin go swp l0 l1
          (repeat' (first | (have hs := Mk.out hs; (try simp only [decide_eq_true_eq, decide_eq_false_iff_not, Bool.not_eq_true, Bool.not_eq_false, Bool.not_true, Bool.not_false, Bool.not_eq_eq_eq_not, Bool.and_eq_true, Bool.or_eq_true, beq_iff_eq, bne_iff_ne, beq_eq_false_iff_ne, ne_eq, Classical.not_not, not_true_eq_false, not_false_eq_true, forall_const, Bool.false_eq_true, false_implies, eq_self] at hs); (try (exfalso; omega)); (try simp (disch := omega) only [go_sem, hB, e1, e2, d1, d0, d2, hs])) | (refine z_seqr rfl ?_) | (refine w_seq rfl fun K hK => ?_) | (refine z_reg rfl ?_) | (refine z_cond rfl ?_) | (refine w_skip rfl ?_; ((repeat ((fail_if_success (refine hK _ _ (cl_id ?_))); clear hK)); refine hK _ _ (cl_id ?_); clear hK)) | (refine w_ret rfl ?_; (try dsimp only [anorm, ablock, astay]); refine z_end ?_) | (refine z_end0 ?_) | (refine w_block rfl ?_) | (refine w_scope rfl ?_) | (refine w_label rfl ?_; ((repeat ((fail_if_success (refine hK _ _ (cl_id ?_))); clear hK)); refine hK _ _ (cl_id ?_); clear hK)) | (refine w_exit rfl ?_; (try dsimp only [anorm, ablock, astay]); (try simp only [reduceIte, ↓reduceIte, Nat.reduceEqDiff]); ((repeat ((fail_if_success (refine hK _ _ (cl_id ?_))); clear hK)); refine hK _ _ (cl_id ?_); clear hK)) | (refine w_exit rfl ?_; (try dsimp only [anorm, ablock, astay]); (try simp only [reduceIte, ↓reduceIte, Nat.reduceEqDiff]); refine z_end0 ?_) | (refine jend_go [(11, [6]), (10, [0, 1, 2, 7]), (9, [0, 1, 2, 9]), (8, [0, 1, 2, 7, 9, 39]), (7, [0, 1, 2, 7, 9]), (6, [0, 1, 2, 7, 9, 10, 33]), (5, [0, 1, 2, 7, 8, 9, 10]), (4, [0, 1, 2, 7, 8, 9]), (3, [0, 1, 2, 7, 8, 21]), (2, [0, 1, 2, 7, 8]), (1, [0, 1, 2, 7]), (0, [0, 1, 2])] ?_; simp only [tabAt_cons, sel_nil, sel_cons, put_at, ofl_cons, ofl_nil, T0_at, List.getElem?_cons_zero, List.getElem?_cons_succ, List.getElem?_nil, Option.getD_some, Option.getD_none, reduceIte, ↓reduceIte, Nat.reduceEqDiff]; refine jl_go ?_) | simp (disch := omega) only [go_sem, hB, e1, e2, d1, d0, d2] | (refine jc_t ?_) | (refine jc_f ?_) | (refine z_ret (g1) ?_) | (refine z_ret (g2) ?_) | (refine z_ret (g3) ?_) | (refine And.intro (by (first | omega | (simp; done) | (simp; omega))) ?_) | (refine mc_b (fun hs => ?_) fun hs => ?_) | (refine mg_st (fun hs => ?_) fun hs => ?_) | (refine mg_sf (fun hs => ?_) fun hs => ?_) | (refine mall_s (fun hs => ?_) fun hs => ?_) | (refine malln_s (fun hs => ?_) fun hs => ?_) | (refine mpk_s (fun hs => ?_) fun hs => ?_) | ((repeat ((fail_if_success (refine hK _ _ (cl_id ?_))); clear hK)); refine hK _ _ (cl_id ?_); clear hK)))
          refine hk _ _ (swH H1 q p1 Z i j, swP p1 i j, j) st (by simp only; omega) (cq_s ?_)
          (simp (disch := omega) only [go_sem])
        · clear hKo
          have g2 := l0 j i (by omega) hi1 c4
          have st := fin (.inr (by unfold dnM; rw [← ej, ← ek, if_neg (fun h => c3 h.2)]; exact c4))
          clear fin go swp l0 l1
          (repeat' (first | (have hs := Mk.out hs; (try simp only [decide_eq_true_eq, decide_eq_false_iff_not, Bool.not_eq_true, Bool.not_eq_false, Bool.not_true, Bool.not_false, Bool.not_eq_eq_eq_not, Bool.and_eq_true, Bool.or_eq_true, beq_iff_eq, bne_iff_ne, beq_eq_false_iff_ne, ne_eq, Classical.not_not, not_true_eq_false, not_false_eq_true, forall_const, Bool.false_eq_true, false_implies, eq_self] at hs); (try (exfalso; omega)); (try simp (disch := omega) only [go_sem, hB, e1, e2, d1, d0, d2, hs])) | (refine z_seqr rfl ?_) | (refine w_seq rfl fun K hK => ?_) | (refine z_reg rfl ?_) | (refine z_cond rfl ?_) | (refine w_skip rfl ?_; ((repeat ((fail_if_success (refine hK _ _ (cl_id ?_))); clear hK)); refine hK _ _ (cl_id ?_); clear hK)) | (refine w_ret rfl ?_; (try dsimp only [anorm, ablock, astay]); refine z_end ?_) | (refine z_end0 ?_) | (refine w_block rfl ?_) | (refine w_scope rfl ?_) | (refine w_label rfl ?_; ((repeat ((fail_if_success (refine hK _ _ (cl_id ?_))); clear hK)); refine hK _ _ (cl_id ?_); clear hK)) | (refine w_exit rfl ?_; (try dsimp only [anorm, ablock, astay]); (try simp only [reduceIte, ↓reduceIte, Nat.reduceEqDiff]); ((repeat ((fail_if_success (refine hK _ _ (cl_id ?_))); clear hK)); refine hK _ _ (cl_id ?_); clear hK)) | (refine w_exit rfl ?_; (try dsimp only [anorm, ablock, astay]); (try simp only [reduceIte, ↓reduceIte, Nat.reduceEqDiff]); refine z_end0 ?_) | (refine jend_go [(11, [6]), (10, [0, 1, 2, 7]), (9, [0, 1, 2, 9]), (8, [0, 1, 2, 7, 9, 39]), (7, [0, 1, 2, 7, 9]), (6, [0, 1, 2, 7, 9, 10, 33]), (5, [0, 1, 2, 7, 8, 9, 10]), (4, [0, 1, 2, 7, 8, 9]), (3, [0, 1, 2, 7, 8, 21]), (2, [0, 1, 2, 7, 8]), (1, [0, 1, 2, 7]), (0, [0, 1, 2])] ?_; simp only [tabAt_cons, sel_nil, sel_cons, put_at, ofl_cons, ofl_nil, T0_at, List.getElem?_cons_zero, List.getElem?_cons_succ, List.getElem?_nil, Option.getD_some, Option.getD_none, reduceIte, ↓reduceIte, Nat.reduceEqDiff]; refine jl_go ?_) | simp (disch := omega) only [go_sem, hB, e1, e2, d1, d0, d2] | (refine jc_t ?_) | (refine jc_f ?_) | (refine z_ret (g1) ?_) | (refine z_ret (g2) ?_) | (refine And.intro (by (first | omega | (simp; done) | (simp; omega))) ?_) | (refine mc_b (fun hs => ?_) fun hs => ?_) | (refine mg_st (fun hs => ?_) fun hs => ?_) | (refine mg_sf (fun hs => ?_) fun hs => ?_) | (refine mall_s (fun hs => ?_) fun hs => ?_) | (refine malln_s (fun hs => ?_) fun hs => ?_) | (refine mpk_s (fun hs => ?_) fun hs => ?_) | ((repeat ((fail_if_success (refine hK _ _ (cl_id ?_))); clear hK)); refine hK _ _ (cl_id ?_); clear hK)))
          exact cl_id st
    · have d2 : ¬ (k : Int) < (n : Int) := by omega
      by_cases c4 : lt3 (at3 p1 j) (at3 p1 i)
      · have hk := hKo
        clear hKo
        have g2 := l1 j i (by omega) hi1 c4
        have g3 := swp j (by omega) (by omega)
        have st := go j (by unfold dnM; rw [← ej, ← ek, if_neg (fun h => c2 h.1)]) (by omega) (by omega) (by omega) c4
        clear fin go swp l0 l1
        (repeat' (first | (have hs := Mk.out hs; (try simp only [decide_eq_true_eq, decide_eq_false_iff_not, Bool.not_eq_true, Bool.not_eq_false, Bool.not_true, Bool.not_false, Bool.not_eq_eq_eq_not, Bool.and_eq_true, Bool.or_eq_true, beq_iff_eq, bne_iff_ne, beq_eq_false_iff_ne, ne_eq, Classical.not_not, not_true_eq_false, not_false_eq_true, forall_const, Bool.false_eq_true, false_implies, eq_self] at hs); (try (exfalso; omega)); (try simp (disch := omega) only [go_sem, hB, e1, e2, d1, d0, d2, hs])) | (refine z_seqr rfl ?_) | (refine w_seq rfl fun K hK => ?_) | (refine z_reg rfl ?_) | (refine z_cond rfl ?_) | (refine w_skip rfl ?_; ((repeat ((fail_if_success (refine hK _ _ (cl_id ?_))); clear hK)); refine hK _ _ (cl_id ?_); clear hK)) | (refine w_ret rfl ?_; (try dsimp only [anorm, ablock, astay]); refine z_end ?_) | (refine z_end0 ?_) | (refine w_block rfl ?_) | (refine w_scope rfl ?_) | (refine w_label rfl ?_; ((repeat ((fail_if_success (refine hK _ _ (cl_id ?_))); clear hK)); refine hK _ _ (cl_id ?_); clear hK)) | (refine w_exit rfl ?_; (try dsimp only [anorm, ablock, astay]); (try simp only [reduceIte, ↓reduceIte, Nat.reduceEqDiff]); ((repeat ((fail_if_success (refine hK _ _ (cl_id ?_))); clear hK)); refine hK _ _ (cl_id ?_); clear hK)) | (refine w_exit rfl ?_; (try dsimp only [anorm, ablock, astay]); (try simp only [reduceIte, ↓reduceIte, Nat.reduceEqDiff]); refine z_end0 ?_) | (refine jend_go [(11, [6]), (10, [0, 1, 2, 7]), (9, [0, 1, 2, 9]), (8, [0, 1, 2, 7, 9, 39]), (7, [0, 1, 2, 7, 9]), (6, [0, 1, 2, 7, 9, 10, 33]), (5, [0, 1, 2, 7, 8, 9, 10]), (4, [0, 1, 2, 7, 8, 9]), (3, [0, 1, 2, 7, 8, 21]), (2, [0, 1, 2, 7, 8]), (1, [0, 1, 2, 7]), (0, [0, 1, 2])] ?_; simp only [tabAt_cons, sel_nil, sel_cons, put_at, ofl_cons, ofl_nil, T0_at, List.getElem?_cons_zero, List.getElem?_cons_succ, List.getElem?_nil, Option.getD_some, Option.getD_none, reduceIte, ↓reduceIte, Nat.reduceEqDiff]; refine jl_go ?_) | simp (disch := omega) only [go_sem, hB, e1, e2, d1, d0, d2] | (refine jc_t ?_) | (refine jc_f ?_) | (refine z_ret (g2) ?_) | (refine z_ret (g3) ?_) | (refine And.intro (by (first | omega | (simp; done) | (simp; omega))) ?_) | (refine mc_b (fun hs => ?_) fun hs => ?_) | (refine mg_st (fun hs => ?_) fun hs => ?_) | (refine mg_sf (fun hs => ?_) fun hs => ?_) | (refine mall_s (fun hs => ?_) fun hs => ?_) | (refine malln_s (fun hs => ?_) fun hs => ?_) | (refine mpk_s (fun hs => ?_) fun hs => ?_) | ((repeat ((fail_if_success (refine hK _ _ (cl_id ?_))); clear hK)); refine hK _ _ (cl_id ?_); clear hK)))
        refine hk _ _ (swH H1 q p1 Z i j, swP p1 i j, j) st (by simp only; omega) (cq_s ?_)
        (simp (disch := omega) only [go_sem])
      · clear hKo
        have g2 := l0 j i (by omega) hi1 c4
        have st := fin (.inr (by unfold dnM; rw [← ej, ← ek, if_neg (fun h => c2 h.1)]; exact c4))
        clear fin go swp l0 l1
        (repeat' (first | (have hs := Mk.out hs; (try simp only [decide_eq_true_eq, decide_eq_false_iff_not, Bool.not_eq_true, Bool.not_eq_false, Bool.not_true, Bool.not_false, Bool.not_eq_eq_eq_not, Bool.and_eq_true, Bool.or_eq_true, beq_iff_eq, bne_iff_ne, beq_eq_false_iff_ne, ne_eq, Classical.not_not, not_true_eq_false, not_false_eq_true, forall_const, Bool.false_eq_true, false_implies, eq_self] at hs); (try (exfalso; omega)); (try simp (disch := omega) only [go_sem, hB, e1, e2, d1, d0, d2, hs])) | (refine z_seqr rfl ?_) | (refine w_seq rfl fun K hK => ?_) | (refine z_reg rfl ?_) | (refine z_cond rfl ?_) | (refine w_skip rfl ?_; ((repeat ((fail_if_success (refine hK _ _ (cl_id ?_))); clear hK)); refine hK _ _ (cl_id ?_); clear hK)) | (refine w_ret rfl ?_; (try dsimp only [anorm, ablock, astay]); refine z_end ?_) | (refine z_end0 ?_) | (refine w_block rfl ?_) | (refine w_scope rfl ?_) | (refine w_label rfl ?_; ((repeat ((fail_if_success (refine hK _ _ (cl_id ?_))); clear hK)); refine hK _ _ (cl_id ?_); clear hK)) | (refine w_exit rfl ?_; (try dsimp only [anorm, ablock, astay]); (try simp only [reduceIte, ↓reduceIte, Nat.reduceEqDiff]); ((repeat ((fail_if_success (refine hK _ _ (cl_id ?_))); clear hK)); refine hK _ _ (cl_id ?_); clear hK)) | (refine w_exit rfl ?_; (try dsimp only [anorm, ablock, astay]); (try simp only [reduceIte, ↓reduceIte, Nat.reduceEqDiff]); refine z_end0 ?_) | (refine jend_go [(11, [6]), (10, [0, 1, 2, 7]), (9, [0, 1, 2, 9]), (8, [0, 1, 2, 7, 9, 39]), (7, [0, 1, 2, 7, 9]), (6, [0, 1, 2, 7, 9, 10, 33]), (5, [0, 1, 2, 7, 8, 9, 10]), (4, [0, 1, 2, 7, 8, 9]), (3, [0, 1, 2, 7, 8, 21]), (2, [0, 1, 2, 7, 8]), (1, [0, 1, 2, 7]), (0, [0, 1, 2])] ?_; simp only [tabAt_cons, sel_nil, sel_cons, put_at, ofl_cons, ofl_nil, T0_at, List.getElem?_cons_zero, List.getElem?_cons_succ, List.getElem?_nil, Option.getD_some, Option.getD_none, reduceIte, ↓reduceIte, Nat.reduceEqDiff]; refine jl_go ?_) | simp (disch := omega) only [go_sem, hB, e1, e2, d1, d0, d2] | (refine jc_t ?_) | (refine jc_f ?_) | (refine z_ret (g2) ?_) | (refine And.intro (by (first | omega | (simp; done) | (simp; omega))) ?_) | (refine mc_b (fun hs => ?_) fun hs => ?_) | (refine mg_st (fun hs => ?_) fun hs => ?_) | (refine mg_sf (fun hs => ?_) fun hs => ?_) | (refine mall_s (fun hs => ?_) fun hs => ?_) | (refine malln_s (fun hs => ?_) fun hs => ?_) | (refine mpk_s (fun hs => ?_) fun hs => ?_) | ((repeat ((fail_if_success (refine hK _ _ (cl_id ?_))); clear hK)); refine hK _ _ (cl_id ?_); clear hK)))
        exact cl_id st
end
end Go.Proofs.Ytmafdnbdaaedgaa
