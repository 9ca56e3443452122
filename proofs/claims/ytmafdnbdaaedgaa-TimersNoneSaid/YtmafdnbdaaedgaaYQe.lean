/- Timers: the heap's row: one at the end, the last one out, by the machine. No condition. -/
import Derived.Test.YtmafdnbdaaedgaaYQd
import Derived.Test.YtmafdnbdaaedgaaYb1
import Derived.Test.YtmafdnbdaaedgaaYgs
set_option linter.unusedSectionVars false
set_option linter.unusedVariables false
set_option linter.unusedSimpArgs false
set_option linter.deprecated false
namespace Go.Proofs.Ytmafdnbdaaedgaa
open Go.RowKit Go.Cx Go.Am
set_option maxRecDepth 8000
set_option maxHeartbeats 2000000
attribute [local irreducible] ACalls jcall jsame jex jexg jexh jguard jconv jload jpart jstore jbin jslice jidxA jidx jfield jfieldA jbuild jbuildS jmake jappend jlen jpick jres jcnd jcopy jcap jborn jdraw jops jop jstr jstrc jlive jend jlenM jmmake jlook jmput jmdel jrange jnext jentry jlk jmp2 jmd2 jlm jrg jnx jny jen jeo jinvoke jmkI jtyA
attribute [local go_sem] reduceIte Nat.reduceEqDiff Nat.reduceAdd Nat.reduceMul Nat.reduceLT Nat.reduceLeDiff Nat.reduceSub Int.reduceLT Int.reduceLE Int.reduceToNat Int.reduceNeg Int.reduceAdd Int.reduceSub UInt8.reduceToNat Int.reduceEq reduceCtorEq Int.reducePow Int.reduceMul Nat.reducePow E0
attribute [local go_sem ↓] reduceIte
attribute [local go_sem high] chunks_bvs
attribute [local go_sem] jop_makeMap jop_lookup jop_mapUpdate jop_delete jop_range jop_next jop_entry jmmake_m jlook_m jlk_mI jmput_m jmdel_m jmd2_mB jlm_mB jrange_m jnext_m jnx_m jentry_m jen_m jeo_mS bmap_mI bmap_mSI mB_nil vI nbB_o nbB_r nbB_i bmap_o bmap_r bmap_i gfB_o gfB_r gfB_i jop_invoke jop_makeInterface jop_typeAssert jinvoke_m jmkI_m jtyA_m ifp_nb
attribute [local go_sem ←] List.map_take List.map_drop

def nilP : AV := .v (.pointer none)
section
variable {H : Heap} {b c q : Nat} {p : List It} {Z : List (List AV)}
theorem nmz_last {n : Nat} (h : p.length = n + 1) : (nmz p Z).set n [.v (.pointer none)] = nmz (p.take n) ([.v (.pointer none)] :: Z) := by
  unfold nmz nms
  apply List.ext_getElem?
  intro k
  rw [List.getElem?_set, List.map_take]
  by_cases e : n = k
  · subst e
    rw [if_pos rfl, if_pos (by simp; omega), List.getElem?_append_right (by simp; omega), List.length_take, List.length_map, show n - min n p.length = 0 by omega]
    rfl
  · rw [if_neg e]
    by_cases e1 : k < n
    · rw [List.getElem?_append_left (by simp; omega), List.getElem?_append_left (by simp; omega), List.getElem?_take, if_pos e1]
    · rw [List.getElem?_append_right (by simp; omega), List.getElem?_append_right (by simp; omega), List.length_take, List.length_map, show k - min n p.length = (k - p.length) + 1 by omega]
      rfl
theorem pop_am (T : Tm H b c q p Z) {n : Nat} (hn : p.length = n + 1) (hl : n ≤ 1099511627776) : ACalls E0 68 [.ptr b 0] H fun r H' => r = .ifp 56 (at3 p n).1 0 ∧ H' = (H.set q (some (.row true 1 (nmz (p.take n) ([.v (.pointer none)] :: Z))))).set b (some (.obj [.hs q 1 0 n, .mp c])) := by
  have hB := T.o
  have hr := T.row
  have g1 := nmz_get (Z := Z) (p := p) (i := n) (by omega)
  have g3 := nmz_I (Z := Z) (p := p) (i := n) (by omega)
  have s1 := nmz_last (Z := Z) hn
  have nl := nmz_len p Z
  rw [hn] at hB nl
  generalize (at3 p n).1 = x at *
  generalize nmz p Z = R0 at *
  generalize nmz (p.take n) ([.v (.pointer none)] :: Z) = R1 at *
  have nqb : q ≠ b := fun e => by
    rw [← e, hr] at hB
    cases hB
  have hB2 : (H.set q (some (.row true 1 R1)))[b]? = some (some (.obj [.hs q 1 0 (n + 1), .mp c])) := by
    rw [List.getElem?_set_ne nqb]
    exact hB
  have w1 : IntKind.wrap .i64 (((n + 1 : Nat) : Int) - 1) = (n : Int) := by
    rw [wrap_i (by omega) (by omega)]
    omega
  have w2 : (0 : Int) ≤ (n : Int) := by omega
  have w3 : (n : Int) < ((n + 1 : Nat) : Int) := by omega
  refine calls_q (calls_of Try.func68 rfl (by kernel_rfl) (by kernel_rfl) (by rw [Try.ntmps68]; exact Nat.le_of_ble_eq_true rfl) (fun hH0 hA0 => ?_)); rw [Try.results68]
  (repeat' (first | (have hs := Mk.out hs; (try simp only [decide_eq_true_eq, decide_eq_false_iff_not, Bool.not_eq_true, Bool.not_eq_false, Bool.not_true, Bool.not_false, Bool.not_eq_eq_eq_not, Bool.and_eq_true, Bool.or_eq_true, beq_iff_eq, bne_iff_ne, beq_eq_false_iff_ne, ne_eq, Classical.not_not, not_true_eq_false, not_false_eq_true, forall_const, Bool.false_eq_true, false_implies, eq_self] at hs); (try (exfalso; omega)); (try simp (disch := omega) only [go_sem, hB, hB2, hr, g1, g3, s1, nl, w1, w2, w3, hs])) | (refine z_seqr rfl ?_) | (refine w_seq rfl fun K hK => ?_) | (refine z_reg rfl ?_) | (refine z_cond rfl ?_) | (refine w_skip rfl ?_; ((repeat ((fail_if_success (refine hK _ _ (cl_id ?_))); clear hK)); refine hK _ _ (cl_id ?_); clear hK)) | (refine w_ret rfl ?_; (try dsimp only [anorm, ablock, astay]); refine z_end ?_) | (refine z_end0 ?_) | (refine w_block rfl ?_) | (refine w_scope rfl ?_) | (refine w_label rfl ?_; ((repeat ((fail_if_success (refine hK _ _ (cl_id ?_))); clear hK)); refine hK _ _ (cl_id ?_); clear hK)) | (refine w_exit rfl ?_; (try dsimp only [anorm, ablock, astay]); (try simp only [reduceIte, ↓reduceIte, Nat.reduceEqDiff]); ((repeat ((fail_if_success (refine hK _ _ (cl_id ?_))); clear hK)); refine hK _ _ (cl_id ?_); clear hK)) | (refine w_exit rfl ?_; (try dsimp only [anorm, ablock, astay]); (try simp only [reduceIte, ↓reduceIte, Nat.reduceEqDiff]); refine z_end0 ?_) | (refine jend_go [(6, [2]), (5, [5]), (4, [0, 3, 4, 5]), (3, [0, 3, 4, 5]), (2, [0, 3, 4]), (1, [0, 3]), (0, [0])] ?_; simp only [tabAt_cons, sel_nil, sel_cons, put_at, ofl_cons, ofl_nil, T0_at, List.getElem?_cons_zero, List.getElem?_cons_succ, List.getElem?_nil, Option.getD_some, Option.getD_none, reduceIte, ↓reduceIte, Nat.reduceEqDiff]; refine jl_go ?_) | simp (disch := omega) only [go_sem, hB, hB2, hr, g1, g3, s1, nl, w1, w2, w3] | (refine jc_t ?_) | (refine jc_f ?_) | (refine And.intro (by (first | omega | (simp; done) | (simp; omega))) ?_) | (refine mc_b (fun hs => ?_) fun hs => ?_) | (refine mg_st (fun hs => ?_) fun hs => ?_) | (refine mg_sf (fun hs => ?_) fun hs => ?_) | (refine mall_s (fun hs => ?_) fun hs => ?_) | (refine malln_s (fun hs => ?_) fun hs => ?_) | (refine mpk_s (fun hs => ?_) fun hs => ?_) | ((repeat ((fail_if_success (refine hK _ _ (cl_id ?_))); clear hK)); refine hK _ _ (cl_id ?_); clear hK)))
  exact cl_id ⟨rfl, rfl⟩
theorem rpush_am {x : Nat} {kx tx px : Int} {n : Nat} {R0 : List (List AV)} (hB : H[b]? = some (some (.obj [.hs q 1 0 n, .mp c]))) (hr : H[q]? = some (some (.row true 1 R0))) (hn : n ≤ R0.length) (hx : H[x]? = some (itO (x, kx, tx) px)) (hl : n ≤ 1000000) : ACalls E0 69 [.ptr b 0, .ifp 56 x 0] H fun r H' => r = .tup [] ∧ H' = ((((H.set x (itO (x, kx, tx) n)).set q none ++ [some (Blk.row true 1 [[.ptr x 0]])]) ++ [some (Blk.row true 1 (R0.take n ++ [[.ptr x 0]]))]).set b (some (.obj [.hs (H.length + 1) 1 0 (n + 1), .mp c]))) := by
  unfold itO at *
  simp only at hx ⊢
  have nbx : x ≠ b := fun e => by
    rw [e, hB] at hx
    simp at hx
  have nqx : x ≠ q := fun e => by
    rw [e, hr] at hx
    simp at hx
  have nqb : q ≠ b := fun e => by
    rw [e, hB] at hr
    simp at hr
  obtain ⟨H1, eH1⟩ : ∃ H1, H1 = H.set x (some (.obj [.v (.int .i64 kx), .v (.int .i64 tx), .v (.int .i64 (n : Int))])) := ⟨_, rfl⟩
  have hB1 : H1[b]? = some (some (.obj [.hs q 1 0 n, .mp c])) := by rw [eH1, List.getElem?_set_ne nbx]; exact hB
  have hr1 : H1[q]? = some (some (.row true 1 R0)) := by rw [eH1, List.getElem?_set_ne nqx]; exact hr
  have el : H1.length = H.length := by rw [eH1, List.length_set]
  rw [← eH1, ← el]
  have eH1' := eH1.symm
  clear eH1
  have lq : q < H1.length := (List.getElem?_eq_some_iff.1 hr1).1
  have lb : b < H1.length := (List.getElem?_eq_some_iff.1 hB1).1
  have k1 : (H1 ++ [some (Blk.row true 1 [[.ptr x 0]])])[q]? = some (some (.row true 1 R0)) := by rw [List.getElem?_append_left lq]; exact hr1
  obtain ⟨H2, eH2⟩ : ∃ H2, H2 = H1.set q none ++ [some (Blk.row true 1 [[.ptr x 0]])] := ⟨_, rfl⟩
  have k2 : (H1 ++ [some (Blk.row true 1 [[.ptr x 0]])]).set q none = H2 := by rw [eH2, List.set_append_left _ _ lq]
  have k3 : (H2 ++ [some (Blk.row true 1 (R0.take n ++ [[.ptr x 0]]))])[b]? = some (some (.obj [.hs q 1 0 n, .mp c])) := by
    rw [eH2, List.append_assoc, List.getElem?_append_left (by simpa using lb), List.getElem?_set_ne nqb]
    exact hB1
  rw [← eH2]
  have lt : (R0.take n).length = n := by rw [List.length_take]; omega
  generalize hR : R0.take n = R1 at *
  have u : Try.prog.underlying 50 = some (.slice 56) := by kernel_rfl
  clear eH2 lq lb
  refine calls_q (calls_of Try.func69 rfl (by kernel_rfl) (by kernel_rfl) (by rw [Try.ntmps69]; exact Nat.le_of_ble_eq_true rfl) (fun hH0 hA0 => ?_)); rw [Try.results69]
  (repeat' (first | (have hs := Mk.out hs; (try simp only [decide_eq_true_eq, decide_eq_false_iff_not, Bool.not_eq_true, Bool.not_eq_false, Bool.not_true, Bool.not_false, Bool.not_eq_eq_eq_not, Bool.and_eq_true, Bool.or_eq_true, beq_iff_eq, bne_iff_ne, beq_eq_false_iff_ne, ne_eq, Classical.not_not, not_true_eq_false, not_false_eq_true, forall_const, Bool.false_eq_true, false_implies, eq_self] at hs); (try (exfalso; omega)); (try simp (disch := omega) only [go_sem, hB, hx, eH1', hB1, hr1, hn, k1, k2, k3, lt, hR, u, hs])) | (refine z_seqr rfl ?_) | (refine w_seq rfl fun K hK => ?_) | (refine z_reg rfl ?_) | (refine z_cond rfl ?_) | (refine w_skip rfl ?_; ((repeat ((fail_if_success (refine hK _ _ (cl_id ?_))); clear hK)); refine hK _ _ (cl_id ?_); clear hK)) | (refine w_ret rfl ?_; (try dsimp only [anorm, ablock, astay]); refine z_end ?_) | (refine z_end0 ?_) | (refine w_block rfl ?_) | (refine w_scope rfl ?_) | (refine w_label rfl ?_; ((repeat ((fail_if_success (refine hK _ _ (cl_id ?_))); clear hK)); refine hK _ _ (cl_id ?_); clear hK)) | (refine w_exit rfl ?_; (try dsimp only [anorm, ablock, astay]); (try simp only [reduceIte, ↓reduceIte, Nat.reduceEqDiff]); ((repeat ((fail_if_success (refine hK _ _ (cl_id ?_))); clear hK)); refine hK _ _ (cl_id ?_); clear hK)) | (refine w_exit rfl ?_; (try dsimp only [anorm, ablock, astay]); (try simp only [reduceIte, ↓reduceIte, Nat.reduceEqDiff]); refine z_end0 ?_) | (refine jend_go [(3, []), (2, [0, 4]), (1, [0, 4, 12]), (0, [0, 4, 5])] ?_; simp only [tabAt_cons, sel_nil, sel_cons, put_at, ofl_cons, ofl_nil, T0_at, List.getElem?_cons_zero, List.getElem?_cons_succ, List.getElem?_nil, Option.getD_some, Option.getD_none, reduceIte, ↓reduceIte, Nat.reduceEqDiff]; refine jl_go ?_) | simp (disch := omega) only [go_sem, hB, hx, eH1', hB1, hr1, hn, k1, k2, k3, lt, hR, u] | (refine jc_t ?_) | (refine jc_f ?_) | (refine And.intro (by (first | omega | (simp; done) | (simp; omega))) ?_) | (refine mc_b (fun hs => ?_) fun hs => ?_) | (refine mg_st (fun hs => ?_) fun hs => ?_) | (refine mg_sf (fun hs => ?_) fun hs => ?_) | (refine mall_s (fun hs => ?_) fun hs => ?_) | (refine malln_s (fun hs => ?_) fun hs => ?_) | (refine mpk_s (fun hs => ?_) fun hs => ?_) | ((repeat ((fail_if_success (refine hK _ _ (cl_id ?_))); clear hK)); refine hK _ _ (cl_id ?_); clear hK)))
  exact cl_id ⟨rfl, rfl⟩
theorem rpush_nil {x : Nat} {kx tx px : Int} (hB : H[b]? = some (some (.obj [.v (.slice none 0 0), .mp c]))) (hx : H[x]? = some (itO (x, kx, tx) px)) : ACalls E0 69 [.ptr b 0, .ifp 56 x 0] H fun r H' => r = .tup [] ∧ H' = (((H.set x (itO (x, kx, tx) 0)) ++ [some (Blk.row true 1 [[.ptr x 0]]), some (Blk.row true 1 [[.ptr x 0]])]).set b (some (.obj [.hs (H.length + 1) 1 0 1, .mp c]))) := by
  unfold itO at *
  simp only at hx ⊢
  have nbx : x ≠ b := fun e => by
    rw [e, hB] at hx
    simp at hx
  obtain ⟨H1, eH1⟩ : ∃ H1, H1 = H.set x (some (.obj [.v (.int .i64 kx), .v (.int .i64 tx), .v (.int .i64 (0 : Int))])) := ⟨_, rfl⟩
  have hB1 : H1[b]? = some (some (.obj [.v (.slice none 0 0), .mp c])) := by rw [eH1, List.getElem?_set_ne nbx]; exact hB
  have el : H1.length = H.length := by rw [eH1, List.length_set]
  rw [← eH1, ← el]
  have eH1' := eH1.symm
  clear eH1
  have lb : b < H1.length := (List.getElem?_eq_some_iff.1 hB1).1
  have k3 : (H1 ++ [some (Blk.row true 1 [[.ptr x 0]]), some (Blk.row true 1 [[.ptr x 0]])])[b]? = some (some (.obj [.v (.slice none 0 0), .mp c])) := by
    rw [List.getElem?_append_left lb]
    exact hB1
  refine calls_q (calls_of Try.func69 rfl (by kernel_rfl) (by kernel_rfl) (by rw [Try.ntmps69]; exact Nat.le_of_ble_eq_true rfl) (fun hH0 hA0 => ?_)); rw [Try.results69]
  (repeat' (first | (have hs := Mk.out hs; (try simp only [decide_eq_true_eq, decide_eq_false_iff_not, Bool.not_eq_true, Bool.not_eq_false, Bool.not_true, Bool.not_false, Bool.not_eq_eq_eq_not, Bool.and_eq_true, Bool.or_eq_true, beq_iff_eq, bne_iff_ne, beq_eq_false_iff_ne, ne_eq, Classical.not_not, not_true_eq_false, not_false_eq_true, forall_const, Bool.false_eq_true, false_implies, eq_self] at hs); (try (exfalso; omega)); (try simp (disch := omega) only [go_sem, hB, hx, eH1', hB1, k3, hs])) | (refine z_seqr rfl ?_) | (refine w_seq rfl fun K hK => ?_) | (refine z_reg rfl ?_) | (refine z_cond rfl ?_) | (refine w_skip rfl ?_; ((repeat ((fail_if_success (refine hK _ _ (cl_id ?_))); clear hK)); refine hK _ _ (cl_id ?_); clear hK)) | (refine w_ret rfl ?_; (try dsimp only [anorm, ablock, astay]); refine z_end ?_) | (refine z_end0 ?_) | (refine w_block rfl ?_) | (refine w_scope rfl ?_) | (refine w_label rfl ?_; ((repeat ((fail_if_success (refine hK _ _ (cl_id ?_))); clear hK)); refine hK _ _ (cl_id ?_); clear hK)) | (refine w_exit rfl ?_; (try dsimp only [anorm, ablock, astay]); (try simp only [reduceIte, ↓reduceIte, Nat.reduceEqDiff]); ((repeat ((fail_if_success (refine hK _ _ (cl_id ?_))); clear hK)); refine hK _ _ (cl_id ?_); clear hK)) | (refine w_exit rfl ?_; (try dsimp only [anorm, ablock, astay]); (try simp only [reduceIte, ↓reduceIte, Nat.reduceEqDiff]); refine z_end0 ?_) | (refine jend_go [(3, []), (2, [0, 4]), (1, [0, 4, 12]), (0, [0, 4, 5])] ?_; simp only [tabAt_cons, sel_nil, sel_cons, put_at, ofl_cons, ofl_nil, T0_at, List.getElem?_cons_zero, List.getElem?_cons_succ, List.getElem?_nil, Option.getD_some, Option.getD_none, reduceIte, ↓reduceIte, Nat.reduceEqDiff]; refine jl_go ?_) | simp (disch := omega) only [go_sem, hB, hx, eH1', hB1, k3] | (refine jc_t ?_) | (refine jc_f ?_) | (refine And.intro (by (first | omega | (simp; done) | (simp; omega))) ?_) | (refine mc_b (fun hs => ?_) fun hs => ?_) | (refine mg_st (fun hs => ?_) fun hs => ?_) | (refine mg_sf (fun hs => ?_) fun hs => ?_) | (refine mall_s (fun hs => ?_) fun hs => ?_) | (refine malln_s (fun hs => ?_) fun hs => ?_) | (refine mpk_s (fun hs => ?_) fun hs => ?_) | ((repeat ((fail_if_success (refine hK _ _ (cl_id ?_))); clear hK)); refine hK _ _ (cl_id ?_); clear hK)))
  exact cl_id ⟨rfl, rfl⟩
end
end Go.Proofs.Ytmafdnbdaaedgaa
