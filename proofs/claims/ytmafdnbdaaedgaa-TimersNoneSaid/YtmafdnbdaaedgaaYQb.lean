/- Timers: the heap's row: less, how many, two change places, by the machine. No condition. -/
import Derived.Test.YtmafdnbdaaedgaaYQa
import Derived.Test.YtmafdnbdaaedgaaYb1
import Derived.Test.YtmafdnbdaaedgaaYgs
set_option linter.unusedSectionVars false
set_option linter.unusedVariables false
set_option linter.unusedSimpArgs false
set_option linter.deprecated false
namespace Go.Proofs.Ytmafdnbdaaedgaa
open Go.RowKit Go.Cx Go.Am
set_option maxRecDepth 8000
set_option maxHeartbeats 2000000
attribute [local irreducible] ACalls jcall jsame jex jexg jexh jguard jconv jload jpart jstore jbin jslice jidxA jidx jfield jfieldA jbuild jbuildS jmake jappend jlen jpick jres jcnd jcopy jcap jborn jdraw jops jop jstr jstrc jlive jend jlenM jmmake jlook jmput jmdel jrange jnext jentry jlk jmp2 jmd2 jlm jrg jnx jny jen jeo jinvoke jmkI jtyA
attribute [local go_sem] reduceIte Nat.reduceEqDiff Nat.reduceAdd Nat.reduceMul Nat.reduceLT Nat.reduceLeDiff Nat.reduceSub Int.reduceLT Int.reduceLE Int.reduceToNat Int.reduceNeg Int.reduceAdd Int.reduceSub UInt8.reduceToNat Int.reduceEq reduceCtorEq Int.reducePow Int.reduceMul Nat.reducePow E0
attribute [local go_sem ↓] reduceIte
attribute [local go_sem high] chunks_bvs
attribute [local go_sem] jop_makeMap jop_lookup jop_mapUpdate jop_delete jop_range jop_next jop_entry jmmake_m jlook_m jlk_mI jmput_m jmdel_m jmd2_mB jlm_mB jrange_m jnext_m jnx_m jentry_m jen_m jeo_mS bmap_mI bmap_mSI mB_nil vI nbB_o nbB_r nbB_i bmap_o bmap_r bmap_i gfB_o gfB_r gfB_i jop_invoke jop_makeInterface jop_typeAssert jinvoke_m jmkI_m jtyA_m ifp_nb
attribute [local go_sem ←] List.map_take List.map_drop

/-- The cells of the heap's row: the timers' pointers, and what was left behind them. -/
def nmz (p : List It) (Z : List (List AV)) : List (List AV) := nms p ++ Z
/-- Timers in memory: the object b, its map c, the heap's row q; timer i of the heap stands at place i. -/
structure Tm (H : Heap) (b c q : Nat) (p : List It) (Z : List (List AV)) : Prop where
  o : H[b]? = some (some (.obj [.hs q 1 0 p.length, .mp c]))
  row : H[q]? = some (some (.row true 1 (nmz p Z)))
  it : ∀ i, i < p.length → H[(at3 p i).1]? = some (itO (at3 p i) i)
  nd : (p.map (·.1)).Nodup
def swP (p : List It) (i j : Nat) : List It := (p.set i (at3 p j)).set j (at3 p i)
def swH (H : Heap) (q : Nat) (p : List It) (Z : List (List AV)) (i j : Nat) : Heap := ((H.set q (some (.row true 1 (nmz (swP p i j) Z)))).set (at3 p j).1 (itO (at3 p j) i)).set (at3 p i).1 (itO (at3 p i) j)
theorem nmz_len (p : List It) (Z : List (List AV)) : (nmz p Z).length = p.length + Z.length := by simp [nmz, nms]
theorem nmz_I {p : List It} {Z : List (List AV)} {i : Nat} (h : i < p.length) : (nmz p Z)[i]? = some [.ptr (at3 p i).1 0] := by
  unfold nmz
  rw [List.getElem?_append_left (by rw [nms_len]; exact h), nms_I h]
theorem nmz_get {p : List It} {Z : List (List AV)} {i : Nat} (h : i < p.length) : (nmz p Z).getD i [] = [.ptr (at3 p i).1 0] := by
  rw [List.getD_eq_getElem?_getD, nmz_I h]
  rfl
theorem nmz_set {p : List It} {Z : List (List AV)} {i : Nat} (h : i < p.length) (a : It) : (nmz p Z).set i [.ptr a.1 0] = nmz (p.set i a) Z := by
  unfold nmz nms
  rw [List.set_append, if_pos (by simpa using h), List.map_set]
theorem swP_len (p : List It) (i j : Nat) : (swP p i j).length = p.length := by simp [swP]
theorem swP_at {p : List It} {i j : Nat} (hi : i < p.length) (hj : j < p.length) (k : Nat) : at3 (swP p i j) k = if k = j then at3 p i else if k = i then at3 p j else at3 p k := by
  unfold at3 swP
  simp only [List.getD_eq_getElem?_getD, List.getElem?_set, List.length_set]
  by_cases e1 : k = j
  · subst e1
    simp [hj, at3]
  · have e1' : ¬ j = k := fun e => e1 e.symm
    by_cases e2 : k = i
    · subst e2
      simp [hi, e1, e1', at3]
    · have e2' : ¬ i = k := fun e => e2 e.symm
      simp [e1, e1', e2, e2']
theorem set_at3 {p : List It} {i j : Nat} (h : i ≠ j) (a : It) : at3 (p.set i a) j = at3 p j := by
  unfold at3
  rw [List.getD_eq_getElem?_getD, List.getElem?_set_ne h, ← List.getD_eq_getElem?_getD]
theorem at3_inj {p : List It} (nd : (p.map (·.1)).Nodup) {i j : Nat} (hi : i < p.length) (hj : j < p.length) (e : (at3 p i).1 = (at3 p j).1) : i = j := by
  have := List.pairwise_iff_getElem.1 nd
  rw [at3_eq hi, at3_eq hj] at e
  rcases Nat.lt_trichotomy i j with h | h | h
  · exact absurd (by rw [List.getElem_map, List.getElem_map]; exact e) (this i j (by simpa using hi) (by simpa using hj) h)
  · exact h
  · exact absurd (by rw [List.getElem_map, List.getElem_map]; exact e.symm) (this j i (by simpa using hj) (by simpa using hi) h)
theorem swP_perm {p : List It} {i j : Nat} (hi : i < p.length) (hj : j < p.length) : (swP p i j).Perm p := by
  unfold swP
  rw [at3_eq hi, at3_eq hj]
  exact List.set_set_perm hi hj
section
variable {H : Heap} {b c q : Nat} {p : List It} {Z : List (List AV)}
theorem rlen_am (n : Nat) : ACalls E0 65 [.hs q 1 0 n] H fun r H' => r = .v (.int .i64 (n : Int)) ∧ H' = H := by
  refine calls_q (calls_of Try.func65 rfl (by kernel_rfl) (by kernel_rfl) (by rw [Try.ntmps65]; exact Nat.le_of_ble_eq_true rfl) (fun hH0 hA0 => ?_)); rw [Try.results65]
  (repeat' (first | (have hs := Mk.out hs; (try simp only [decide_eq_true_eq, decide_eq_false_iff_not, Bool.not_eq_true, Bool.not_eq_false, Bool.not_true, Bool.not_false, Bool.not_eq_eq_eq_not, Bool.and_eq_true, Bool.or_eq_true, beq_iff_eq, bne_iff_ne, beq_eq_false_iff_ne, ne_eq, Classical.not_not, not_true_eq_false, not_false_eq_true, forall_const, Bool.false_eq_true, false_implies, eq_self] at hs); (try (exfalso; omega)); (try simp (disch := omega) only [go_sem, hs])) | (refine z_seqr rfl ?_) | (refine w_seq rfl fun K hK => ?_) | (refine z_reg rfl ?_) | (refine z_cond rfl ?_) | (refine w_skip rfl ?_; ((repeat ((fail_if_success (refine hK _ _ (cl_id ?_))); clear hK)); refine hK _ _ (cl_id ?_); clear hK)) | (refine w_ret rfl ?_; (try dsimp only [anorm, ablock, astay]); refine z_end ?_) | (refine z_end0 ?_) | (refine w_block rfl ?_) | (refine w_scope rfl ?_) | (refine w_label rfl ?_; ((repeat ((fail_if_success (refine hK _ _ (cl_id ?_))); clear hK)); refine hK _ _ (cl_id ?_); clear hK)) | (refine w_exit rfl ?_; (try dsimp only [anorm, ablock, astay]); (try simp only [reduceIte, ↓reduceIte, Nat.reduceEqDiff]); ((repeat ((fail_if_success (refine hK _ _ (cl_id ?_))); clear hK)); refine hK _ _ (cl_id ?_); clear hK)) | (refine w_exit rfl ?_; (try dsimp only [anorm, ablock, astay]); (try simp only [reduceIte, ↓reduceIte, Nat.reduceEqDiff]); refine z_end0 ?_) | (refine jend_go [(1, [2]), (0, [0])] ?_; simp only [tabAt_cons, sel_nil, sel_cons, put_at, ofl_cons, ofl_nil, T0_at, List.getElem?_cons_zero, List.getElem?_cons_succ, List.getElem?_nil, Option.getD_some, Option.getD_none, reduceIte, ↓reduceIte, Nat.reduceEqDiff]; refine jl_go ?_) | simp (disch := omega) only [go_sem] | (refine jc_t ?_) | (refine jc_f ?_) | (refine And.intro (by (first | omega | (simp; done) | (simp; omega))) ?_) | (refine mc_b (fun hs => ?_) fun hs => ?_) | (refine mg_st (fun hs => ?_) fun hs => ?_) | (refine mg_sf (fun hs => ?_) fun hs => ?_) | (refine mall_s (fun hs => ?_) fun hs => ?_) | (refine malln_s (fun hs => ?_) fun hs => ?_) | (refine mpk_s (fun hs => ?_) fun hs => ?_) | ((repeat ((fail_if_success (refine hK _ _ (cl_id ?_))); clear hK)); refine hK _ _ (cl_id ?_); clear hK)))
  exact cl_id ⟨rfl, rfl⟩
theorem less_am (T : Tm H b c q p Z) {i j : Nat} (hi : i < p.length) (hj : j < p.length) : ACalls E0 66 [.hs q 1 0 p.length, .v (.int .i64 (i : Int)), .v (.int .i64 (j : Int))] H fun r H' => r = .v (.bool (decide (cmp3 (at3 p i) (at3 p j) < 0))) ∧ H' = H := by
  have h1 := T.row
  have g1 := nmz_get (Z := Z) hi
  have g2 := nmz_get (Z := Z) hj
  have g3 := nmz_I (Z := Z) hi
  have g4 := nmz_I (Z := Z) hj
  have hc := cmp_am (T.it i hi) (T.it j hj)
  have i1 : (i : Int) < p.length := by omega
  have j1 : (j : Int) < p.length := by omega
  have nl := nmz_len p Z
  refine calls_q (calls_of Try.func66 rfl (by kernel_rfl) (by kernel_rfl) (by rw [Try.ntmps66]; exact Nat.le_of_ble_eq_true rfl) (fun hH0 hA0 => ?_)); rw [Try.results66]
  (repeat' (first | (have hs := Mk.out hs; (try simp only [decide_eq_true_eq, decide_eq_false_iff_not, Bool.not_eq_true, Bool.not_eq_false, Bool.not_true, Bool.not_false, Bool.not_eq_eq_eq_not, Bool.and_eq_true, Bool.or_eq_true, beq_iff_eq, bne_iff_ne, beq_eq_false_iff_ne, ne_eq, Classical.not_not, not_true_eq_false, not_false_eq_true, forall_const, Bool.false_eq_true, false_implies, eq_self] at hs); (try (exfalso; omega)); (try simp (disch := omega) only [go_sem, h1, g1, g2, g3, g4, i1, j1, nl, hs])) | (refine z_seqr rfl ?_) | (refine z_seqd 2 [.q, .q, .q, .q, .q, .q, .q, .q, .q, .q, .q, .q] rfl (by kernel_rfl) (by kernel_rfl) ?_) | (refine w_seq rfl fun K hK => ?_) | (refine z_reg rfl ?_) | (refine z_cond rfl ?_) | (refine w_skip rfl ?_; ((repeat ((fail_if_success (refine hK _ _ (cl_id ?_))); clear hK)); refine hK _ _ (cl_id ?_); clear hK)) | (refine w_ret rfl ?_; (try dsimp only [anorm, ablock, astay]); refine z_end ?_) | (refine z_end0 ?_) | (refine w_block rfl ?_) | (refine w_scope rfl ?_) | (refine w_label rfl ?_; ((repeat ((fail_if_success (refine hK _ _ (cl_id ?_))); clear hK)); refine hK _ _ (cl_id ?_); clear hK)) | (refine w_exit rfl ?_; (try dsimp only [anorm, ablock, astay]); (try simp only [reduceIte, ↓reduceIte, Nat.reduceEqDiff]); ((repeat ((fail_if_success (refine hK _ _ (cl_id ?_))); clear hK)); refine hK _ _ (cl_id ?_); clear hK)) | (refine w_exit rfl ?_; (try dsimp only [anorm, ablock, astay]); (try simp only [reduceIte, ↓reduceIte, Nat.reduceEqDiff]); refine z_end0 ?_) | (refine jend_go [(2, [6]), (1, [0, 1, 2, 7]), (0, [0, 1, 2])] ?_; simp only [tabAt_cons, sel_nil, sel_cons, put_at, ofl_cons, ofl_nil, T0_at, List.getElem?_cons_zero, List.getElem?_cons_succ, List.getElem?_nil, Option.getD_some, Option.getD_none, reduceIte, ↓reduceIte, Nat.reduceEqDiff]; refine jl_go ?_) | simp (disch := omega) only [go_sem, h1, g1, g2, g3, g4, i1, j1, nl] | (refine jc_t ?_) | (refine jc_f ?_) | (refine jx rfl ?_) | (refine jx (fun _ => rfl) ?_) | (refine jxg ⟨rfl, rfl⟩ ?_) | (refine jxh ⟨rfl, rfl⟩ ?_) | (refine jx ⟨by (first | omega | (simp; done) | (simp; omega)), rfl⟩ ?_) | (refine jx (fun _ => ⟨by (first | omega | (simp; done) | (simp; omega)), rfl⟩) ?_) | (refine jxg ⟨by (first | omega | (simp; done) | (simp; omega)), rfl, rfl⟩ ?_) | (refine jxh ⟨by (first | omega | (simp; done) | (simp; omega)), rfl, rfl⟩ ?_) | (refine jx ⟨by (first | omega | (simp; done) | (simp; omega)), by (first | omega | (simp; done) | (simp; omega)), rfl⟩ ?_) | (refine jx (z_ret hc ⟨rfl, rfl⟩) ?_) | (refine And.intro (by (first | omega | (simp; done) | (simp; omega))) ?_) | (refine mc_b (fun hs => ?_) fun hs => ?_) | (refine mg_st (fun hs => ?_) fun hs => ?_) | (refine mg_sf (fun hs => ?_) fun hs => ?_) | (refine mall_s (fun hs => ?_) fun hs => ?_) | (refine malln_s (fun hs => ?_) fun hs => ?_) | (refine mpk_s (fun hs => ?_) fun hs => ?_) | ((repeat ((fail_if_success (refine hK _ _ (cl_id ?_))); clear hK)); refine hK _ _ (cl_id ?_); clear hK)))
  exact cl_id ⟨rfl, rfl⟩
theorem swap0 {i j n x y : Nat} {R0 R1 R2 : List (List AV)} {kx tx ky ty : Int} (hi : i < n) (hj : j < n) (hn : n ≤ R0.length) (l1 : R1.length = R0.length) (l2 : R2.length = R0.length) (hr : H[q]? = some (some (.row true 1 R0)))
    (g1 : R0.getD i [] = [.ptr x 0]) (g2 : R0.getD j [] = [.ptr y 0]) (g3 : R0[i]? = some [.ptr x 0]) (g4 : R0[j]? = some [.ptr y 0]) (s1 : R0.set i [.ptr y 0] = R1) (s2 : R1.set j [.ptr x 0] = R2)
    (m1 : R1.getD j [] = [.ptr y 0]) (k1 : R2.getD i [] = [.ptr y 0]) (k2 : R2.getD j [] = [.ptr x 0]) (k3 : R2[i]? = some [.ptr y 0]) (k4 : R2[j]? = some [.ptr x 0])
    (hx : H[x]? = some (itO (x, kx, tx) i)) (hy : H[y]? = some (itO (y, ky, ty) j)) (ne : x ≠ y) :
    ACalls E0 67 [.hs q 1 0 n, .v (.int .i64 (i : Int)), .v (.int .i64 (j : Int))] H fun r H' => r = .tup [] ∧ H' = ((H.set q (some (.row true 1 R2))).set y (itO (y, ky, ty) i)).set x (itO (x, kx, tx) j) := by
  unfold itO at *
  have nqx : q ≠ x := fun e => by rw [← e, hr] at hx; cases hx
  have nqy : q ≠ y := fun e => by rw [← e, hr] at hy; cases hy
  have lq : q < H.length := (List.getElem?_eq_some_iff.1 hr).1
  have i1 : (i : Int) < n := by omega
  have j1 : (j : Int) < n := by omega
  obtain ⟨H0, eH0⟩ : ∃ H0, H0 = H.set q (some (.row true 1 R1)) := ⟨_, rfl⟩
  obtain ⟨H1, eH1⟩ : ∃ H1, H1 = H.set q (some (.row true 1 R2)) := ⟨_, rfl⟩
  have b0 : H0[q]? = some (some (.row true 1 R1)) := by rw [eH0, List.getElem?_set, if_pos rfl, if_pos lq]
  have b1 : H0.set q (some (.row true 1 R2)) = H1 := by rw [eH0, eH1, List.set_set]
  have b2 : H1[q]? = some (some (.row true 1 R2)) := by rw [eH1, List.getElem?_set, if_pos rfl, if_pos lq]
  have b3 : H1[y]? = some (some (.obj [.v (.int .i64 ky), .v (.int .i64 ty), .v (.int .i64 (j : Int))])) := by rw [eH1, List.getElem?_set_ne nqy]; exact hy
  have b4 : H1[x]? = some (some (.obj [.v (.int .i64 kx), .v (.int .i64 tx), .v (.int .i64 (i : Int))])) := by rw [eH1, List.getElem?_set_ne nqx]; exact hx
  obtain ⟨H2, eH2⟩ : ∃ H2, H2 = H1.set y (some (.obj [.v (.int .i64 ky), .v (.int .i64 ty), .v (.int .i64 (i : Int))])) := ⟨_, rfl⟩
  have b5 : H2[q]? = some (some (.row true 1 R2)) := by rw [eH2, List.getElem?_set_ne (fun e => nqy e.symm)]; exact b2
  have b6 : H2[x]? = some (some (.obj [.v (.int .i64 kx), .v (.int .i64 tx), .v (.int .i64 (i : Int))])) := by rw [eH2, List.getElem?_set_ne (fun e => ne e.symm)]; exact b4
  simp only at hx hy ⊢
  rw [← eH1, ← eH2]
  have eH0' := eH0.symm
  have eH2' := eH2.symm
  clear eH0 eH1 eH2
  refine calls_q (calls_of Try.func67 rfl (by kernel_rfl) (by kernel_rfl) (by rw [Try.ntmps67]; exact Nat.le_of_ble_eq_true rfl) (fun hH0 hA0 => ?_)); rw [Try.results67]
  (repeat' (first | (have hs := Mk.out hs; (try simp only [decide_eq_true_eq, decide_eq_false_iff_not, Bool.not_eq_true, Bool.not_eq_false, Bool.not_true, Bool.not_false, Bool.not_eq_eq_eq_not, Bool.and_eq_true, Bool.or_eq_true, beq_iff_eq, bne_iff_ne, beq_eq_false_iff_ne, ne_eq, Classical.not_not, not_true_eq_false, not_false_eq_true, forall_const, Bool.false_eq_true, false_implies, eq_self] at hs); (try (exfalso; omega)); (try simp (disch := omega) only [go_sem, hr, g1, g2, g3, g4, i1, j1, s1, s2, l1, l2, m1, k1, k2, k3, k4, eH0', eH2', b0, b1, b2, b3, b4, b5, b6, hs])) | (refine z_seqr rfl ?_) | (refine z_seqd 0 [.q, .q, .q, .q, .q, .q, .q, .q, .q, .q, .q, .q, .q, .e, .q, .e] rfl (by kernel_rfl) (by kernel_rfl) ?_) | (refine w_seq rfl fun K hK => ?_) | (refine z_reg rfl ?_) | (refine z_draw 1 [.q, .q, .q, .q, .q, .q, .q, .q, .q, .q, .q, .q, .e, .q, .q, .e] rfl (by kernel_rfl) (by kernel_rfl) ?_) | (refine z_cond rfl ?_) | (refine w_skip rfl ?_; ((repeat ((fail_if_success (refine hK _ _ (cl_id ?_))); clear hK)); refine hK _ _ (cl_id ?_); clear hK)) | (refine w_ret rfl ?_; (try dsimp only [anorm, ablock, astay]); refine z_end ?_) | (refine z_end0 ?_) | (refine w_block rfl ?_) | (refine w_scope rfl ?_) | (refine w_label rfl ?_; ((repeat ((fail_if_success (refine hK _ _ (cl_id ?_))); clear hK)); refine hK _ _ (cl_id ?_); clear hK)) | (refine w_exit rfl ?_; (try dsimp only [anorm, ablock, astay]); (try simp only [reduceIte, ↓reduceIte, Nat.reduceEqDiff]); ((repeat ((fail_if_success (refine hK _ _ (cl_id ?_))); clear hK)); refine hK _ _ (cl_id ?_); clear hK)) | (refine w_exit rfl ?_; (try dsimp only [anorm, ablock, astay]); (try simp only [reduceIte, ↓reduceIte, Nat.reduceEqDiff]); refine z_end0 ?_) | (refine jend_go [(1, []), (0, [0, 1, 2])] ?_; simp only [tabAt_cons, sel_nil, sel_cons, put_at, ofl_cons, ofl_nil, T0_at, List.getElem?_cons_zero, List.getElem?_cons_succ, List.getElem?_nil, Option.getD_some, Option.getD_none, reduceIte, ↓reduceIte, Nat.reduceEqDiff]; refine jl_go ?_) | simp (disch := omega) only [go_sem, hr, g1, g2, g3, g4, i1, j1, s1, s2, l1, l2, m1, k1, k2, k3, k4, eH0', eH2', b0, b1, b2, b3, b4, b5, b6] | (refine jc_t ?_) | (refine jc_f ?_) | (refine jx rfl ?_) | (refine jx (fun _ => rfl) ?_) | (refine jxg ⟨rfl, rfl⟩ ?_) | (refine jxh ⟨rfl, rfl⟩ ?_) | (refine jx ⟨by (first | omega | (simp; done) | (simp; omega)), rfl⟩ ?_) | (refine jx (fun _ => ⟨by (first | omega | (simp; done) | (simp; omega)), rfl⟩) ?_) | (refine jxg ⟨by (first | omega | (simp; done) | (simp; omega)), rfl, rfl⟩ ?_) | (refine jxh ⟨by (first | omega | (simp; done) | (simp; omega)), rfl, rfl⟩ ?_) | (refine jx ⟨by (first | omega | (simp; done) | (simp; omega)), by (first | omega | (simp; done) | (simp; omega)), rfl⟩ ?_) | (refine And.intro (by (first | omega | (simp; done) | (simp; omega))) ?_) | (refine mc_b (fun hs => ?_) fun hs => ?_) | (refine mg_st (fun hs => ?_) fun hs => ?_) | (refine mg_sf (fun hs => ?_) fun hs => ?_) | (refine mall_s (fun hs => ?_) fun hs => ?_) | (refine malln_s (fun hs => ?_) fun hs => ?_) | (refine mpk_s (fun hs => ?_) fun hs => ?_) | ((repeat ((fail_if_success (refine hK _ _ (cl_id ?_))); clear hK)); refine hK _ _ (cl_id ?_); clear hK)))
  exact cl_id ⟨rfl, rfl⟩
theorem swap_am (T : Tm H b c q p Z) {i j : Nat} (hi : i < p.length) (hj : j < p.length) (hij : i ≠ j) : ACalls E0 67 [.hs q 1 0 p.length, .v (.int .i64 (i : Int)), .v (.int .i64 (j : Int))] H fun r H' => r = .tup [] ∧ H' = swH H q p Z i j := by
  have w1 : at3 (swP p i j) i = at3 p j := by rw [swP_at hi hj, if_neg hij, if_pos rfl]
  have w2 : at3 (swP p i j) j = at3 p i := by rw [swP_at hi hj, if_pos rfl]
  have l := swP_len p i j
  have k1 := nmz_get (Z := Z) (p := swP p i j) (i := i) (by omega)
  have k2 := nmz_get (Z := Z) (p := swP p i j) (i := j) (by omega)
  have k3 := nmz_I (Z := Z) (p := swP p i j) (i := i) (by omega)
  have k4 := nmz_I (Z := Z) (p := swP p i j) (i := j) (by omega)
  rw [w1] at k1 k3
  rw [w2] at k2 k4
  exact swap0 hi hj (by rw [nmz_len]; omega) (R1 := nmz (p.set i (at3 p j)) Z) (by rw [nmz_len, nmz_len, List.length_set]) (by rw [nmz_len, nmz_len, l]) T.row (nmz_get hi) (nmz_get hj) (nmz_I hi) (nmz_I hj) (nmz_set hi _) (nmz_set (by rw [List.length_set]; exact hj) _) (by rw [nmz_get (by rw [List.length_set]; exact hj), set_at3 hij]) k1 k2 k3 k4 (T.it i hi) (T.it j hj) (fun e => hij (at3_inj T.nd hi hj e))
theorem swH_len {i j : Nat} : (swH H q p Z i j).length = H.length := by simp [swH]
theorem swH_at {i j k : Nat} (n1 : k ≠ q) (n2 : k ≠ (at3 p i).1) (n3 : k ≠ (at3 p j).1) : (swH H q p Z i j)[k]? = H[k]? := by
  unfold swH
  rw [List.getElem?_set_ne (Ne.symm n2), List.getElem?_set_ne (Ne.symm n3), List.getElem?_set_ne (Ne.symm n1)]
theorem swT (T : Tm H b c q p Z) {i j : Nat} (hi : i < p.length) (hj : j < p.length) (hij : i ≠ j) : Tm (swH H q p Z i j) b c q (swP p i j) Z := by
  have hr := T.row
  have lq : q < H.length := (List.getElem?_eq_some_iff.1 hr).1
  have nq : ∀ k, k < p.length → q ≠ (at3 p k).1 := fun k hk e => by
    have := T.it k hk
    rw [← e, hr] at this
    unfold itO at this
    cases this
  have nb : ∀ k, k < p.length → b ≠ (at3 p k).1 := fun k hk e => by
    have := T.it k hk
    rw [← e, T.o] at this
    unfold itO at this
    cases this
  have nqb : b ≠ q := fun e => by
    rw [← e, T.o] at hr
    cases hr
  have lx := (List.getElem?_eq_some_iff.1 (T.it i hi)).1
  have ly := (List.getElem?_eq_some_iff.1 (T.it j hj)).1
  refine ⟨?_, ?_, ?_, ?_⟩
  · rw [swH_at nqb (nb i hi) (nb j hj), swP_len]
    exact T.o
  · unfold swH
    rw [List.getElem?_set_ne (Ne.symm (nq i hi)), List.getElem?_set_ne (Ne.symm (nq j hj)), List.getElem?_set, if_pos rfl, if_pos lq]
  · intro k hk
    rw [swP_len] at hk
    rw [swP_at hi hj]
    by_cases e1 : k = j
    · subst e1
      rw [if_pos rfl]
      unfold swH
      rw [List.getElem?_set, if_pos rfl, if_pos (by simpa using lx)]
    · rw [if_neg e1]
      by_cases e2 : k = i
      · subst e2
        rw [if_pos rfl]
        unfold swH
        rw [List.getElem?_set_ne (fun e => hij (at3_inj T.nd hi hj e)), List.getElem?_set, if_pos rfl, if_pos (by simpa using ly)]
      · rw [if_neg e2, swH_at (Ne.symm (nq k hk)) (fun e => e2 (at3_inj T.nd hk hi e)) (fun e => e1 (at3_inj T.nd hk hj e))]
        exact T.it k hk
  · exact (((swP_perm hi hj).map (·.1)).nodup_iff).2 T.nd
end
end Go.Proofs.Ytmafdnbdaaedgaa
