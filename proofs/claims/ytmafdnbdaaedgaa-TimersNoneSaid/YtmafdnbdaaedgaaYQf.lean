/- Timers: heap.Remove and heap.Push, by the machine. No condition. -/
import Derived.Test.YtmafdnbdaaedgaaYQe
import Derived.Test.YtmafdnbdaaedgaaYb1
import Derived.Test.YtmafdnbdaaedgaaYgs
set_option linter.unusedSectionVars false
set_option linter.unusedVariables false
set_option linter.unusedSimpArgs false
set_option linter.deprecated false
namespace Go.Proofs.Ytmafdnbdaaedgaa
open Go.RowKit Go.Cx Go.Am
set_option maxRecDepth 8000
set_option maxHeartbeats 2000000
attribute [local irreducible] ACalls jcall jsame jex jexg jexh jguard jconv jload jpart jstore jbin jslice jidxA jidx jfield jfieldA jbuild jbuildS jmake jappend jlen jpick jres jcnd jcopy jcap jborn jdraw jops jop jstr jstrc jlive jend jlenM jmmake jlook jmput jmdel jrange jnext jentry jlk jmp2 jmd2 jlm jrg jnx jny jen jeo jinvoke jmkI jtyA
attribute [local go_sem] reduceIte Nat.reduceEqDiff Nat.reduceAdd Nat.reduceMul Nat.reduceLT Nat.reduceLeDiff Nat.reduceSub Int.reduceLT Int.reduceLE Int.reduceToNat Int.reduceNeg Int.reduceAdd Int.reduceSub UInt8.reduceToNat Int.reduceEq reduceCtorEq Int.reducePow Int.reduceMul Nat.reducePow E0
attribute [local go_sem ↓] reduceIte
attribute [local go_sem high] chunks_bvs
attribute [local go_sem] jop_makeMap jop_lookup jop_mapUpdate jop_delete jop_range jop_next jop_entry jmmake_m jlook_m jlk_mI jmput_m jmdel_m jmd2_mB jlm_mB jrange_m jnext_m jnx_m jentry_m jen_m jeo_mS bmap_mI bmap_mSI mB_nil vI nbB_o nbB_r nbB_i bmap_o bmap_r bmap_i gfB_o gfB_r gfB_i jop_invoke jop_makeInterface jop_typeAssert jinvoke_m jmkI_m jtyA_m ifp_nb
attribute [local go_sem ←] List.map_take List.map_drop

/-- Timer i is out. -/
def RemR (H : Heap) (b c q : Nat) (p : List It) (i : Nat) (H' : Heap) : Prop := ∃ p' Z', Tm H' b c q p' Z' ∧ p.Perm (at3 p i :: p') ∧ Hp p' p'.length ∧ H'.length = H.length ∧ ∀ k, k ≠ b → k ≠ q → k ∉ p.map (·.1) → H'[k]? = H[k]?
section
variable {H : Heap} {b c q : Nat} {p : List It} {Z : List (List AV)}
theorem at3_take {n k : Nat} (h : k < n) : at3 (p.take n) k = at3 p k := by
  unfold at3
  rw [List.getD_eq_getElem?_getD, List.getD_eq_getElem?_getD, List.getElem?_take, if_pos h]
theorem at3_app {p' : List It} {k : Nat} (h : k < p.length) : at3 (p ++ p') k = at3 p k := by
  unfold at3
  rw [List.getD_eq_getElem?_getD, List.getD_eq_getElem?_getD, List.getElem?_append_left h]
theorem at3_end {a : It} : at3 (p ++ [a]) p.length = a := by
  unfold at3
  rw [List.getD_eq_getElem?_getD, List.getElem?_append_right (Nat.le_refl _), Nat.sub_self]
  rfl
theorem Tm.nq (T : Tm H b c q p Z) : ∀ k, k < p.length → q ≠ (at3 p k).1 := fun k hk e => by
  have := T.it k hk
  rw [← e, T.row] at this
  unfold itO at this
  cases this
theorem Tm.nbo (T : Tm H b c q p Z) : ∀ k, k < p.length → b ≠ (at3 p k).1 := fun k hk e => by
  have := T.it k hk
  rw [← e, T.o] at this
  unfold itO at this
  cases this
theorem Tm.nqb (T : Tm H b c q p Z) : q ≠ b := fun e => by
  have := T.row
  rw [e, T.o] at this
  cases this
theorem take_perm {n : Nat} (h : p.length = n + 1) : p.Perm (at3 p n :: p.take n) := by
  have e : p = p.take n ++ [at3 p n] := by
    rw [at3_eq (by omega), List.take_append_getElem, List.take_of_length_le (by omega)]
  exact (List.Perm.of_eq e).trans (List.perm_append_comm (l₁ := p.take n) (l₂ := [at3 p n]))
theorem pop_ok (T : Tm H b c q p Z) {n : Nat} (hn : p.length = n + 1) (hp : Hp p n) {H' : Heap} (e : H' = (H.set q (some (.row true 1 (nmz (p.take n) ([.v (.pointer none)] :: Z))))).set b (some (.obj [.hs q 1 0 n, .mp c]))) :
    RemR H b c q p n H' := by
  have lq : q < H.length := (List.getElem?_eq_some_iff.1 T.row).1
  have lb : b < H.length := (List.getElem?_eq_some_iff.1 T.o).1
  have ln : (p.take n).length = n := by rw [List.length_take]; omega
  refine ⟨p.take n, [.v (.pointer none)] :: Z, ⟨?_, ?_, ?_, ?_⟩, take_perm hn, ?_, by rw [e]; simp, fun k k1 k2 _ => ?_⟩
  · rw [e, List.getElem?_set, if_pos rfl, if_pos (by simpa using lb), ln]
  · rw [e, List.getElem?_set_ne (Ne.symm T.nqb), List.getElem?_set, if_pos rfl, if_pos lq]
  · intro k hk
    rw [ln] at hk
    rw [at3_take hk, e, List.getElem?_set_ne (T.nbo k (by omega)), List.getElem?_set_ne (T.nq k (by omega))]
    exact T.it k (by omega)
  · exact T.nd.sublist ((List.take_sublist n p).map _)
  · rw [ln]
    intro k k0 kn
    rw [at3_take (by omega), at3_take kn]
    exact hp k k0 kn
  · rw [e, List.getElem?_set_ne (Ne.symm k1), List.getElem?_set_ne (Ne.symm k2)]
theorem Hp.mono {n m : Nat} (h : Hp p n) (hm : m ≤ n) : Hp p m := fun k k0 km => h k k0 (by omega)
theorem rm_dn {n i : Nat} (hn : p.length = n + 1) (hi : i < n) (h : Hp p (n + 1)) : DnI (swP p i n) (swP p i n) n i i := by
  have a (k : Nat) (kn : k < n) (ki : k ≠ i) : at3 (swP p i n) k = at3 p k := by rw [swP_at (by omega) (by omega), if_neg (by omega), if_neg ki]
  refine ⟨fun k k0 kn kp ki => ?_, fun k k0 kn kp i0 => ?_, .inl ⟨rfl, rfl⟩⟩
  · rw [a k kn ki, a _ (by omega) kp]
    exact h k k0 (by omega)
  · rw [a k kn (by omega), a _ (by omega) (by omega)]
    have h1 := h k k0 (by omega)
    rw [kp] at h1
    exact le3_trans (h i i0 (by omega)) h1
theorem remove_am (T : Tm H b c q p Z) (hp : Hp p p.length) {i : Nat} (hi : i < p.length) (hl : p.length ≤ 1000000) : ∃ x H1, RemR H b c q p i H1 ∧ ACalls E0 25 [.ifp 60 b 0, .v (.int .i64 (i : Int))] H fun r H' => r = .ifp 56 x 0 ∧ H' = H1 := by
  obtain ⟨n, hn⟩ : ∃ n, p.length = n + 1 := ⟨p.length - 1, by omega⟩
  have hB := T.o
  rw [hn] at hB hp
  have w1 : IntKind.wrap .i64 (((n + 1 : Nat) : Int) - 1) = (n : Int) := by
    rw [wrap_i (by omega) (by omega)]
    omega
  have hlen := rlen_am (H := H) (q := q) (n + 1)
  by_cases e : i = n
  · subst e
    have hpop := pop_am T hn (by omega)
    refine ⟨(at3 p i).1, _, pop_ok T hn (hp.mono (by omega)) rfl, ?_⟩
    clear hp
    refine calls_q (calls_of Try.func25 rfl (by kernel_rfl) (by kernel_rfl) (by rw [Try.ntmps25]; exact Nat.le_of_ble_eq_true rfl) (fun hH0 hA0 => ?_)); rw [Try.results25]
    (repeat' (first | (have hs := Mk.out hs; (try simp only [decide_eq_true_eq, decide_eq_false_iff_not, Bool.not_eq_true, Bool.not_eq_false, Bool.not_true, Bool.not_false, Bool.not_eq_eq_eq_not, Bool.and_eq_true, Bool.or_eq_true, beq_iff_eq, bne_iff_ne, beq_eq_false_iff_ne, ne_eq, Classical.not_not, not_true_eq_false, not_false_eq_true, forall_const, Bool.false_eq_true, false_implies, eq_self] at hs); (try (exfalso; omega)); (try simp (disch := omega) only [go_sem, hB, w1, hs])) | (refine z_seqr rfl ?_) | (refine w_seq rfl fun K hK => ?_) | (refine z_reg rfl ?_) | (refine z_cond rfl ?_) | (refine w_skip rfl ?_; ((repeat ((fail_if_success (refine hK _ _ (cl_id ?_))); clear hK)); refine hK _ _ (cl_id ?_); clear hK)) | (refine w_ret rfl ?_; (try dsimp only [anorm, ablock, astay]); refine z_end ?_) | (refine z_end0 ?_) | (refine w_block rfl ?_) | (refine w_scope rfl ?_) | (refine w_label rfl ?_; ((repeat ((fail_if_success (refine hK _ _ (cl_id ?_))); clear hK)); refine hK _ _ (cl_id ?_); clear hK)) | (refine w_exit rfl ?_; (try dsimp only [anorm, ablock, astay]); (try simp only [reduceIte, ↓reduceIte, Nat.reduceEqDiff]); ((repeat ((fail_if_success (refine hK _ _ (cl_id ?_))); clear hK)); refine hK _ _ (cl_id ?_); clear hK)) | (refine w_exit rfl ?_; (try dsimp only [anorm, ablock, astay]); (try simp only [reduceIte, ↓reduceIte, Nat.reduceEqDiff]); refine z_end0 ?_) | (refine jend_go [(6, [4]), (5, [0]), (4, [0, 1, 20]), (3, [0, 1, 5]), (2, [0, 1, 5, 11]), (1, [0, 1, 5]), (0, [0, 1])] ?_; simp only [tabAt_cons, sel_nil, sel_cons, put_at, ofl_cons, ofl_nil, T0_at, List.getElem?_cons_zero, List.getElem?_cons_succ, List.getElem?_nil, Option.getD_some, Option.getD_none, reduceIte, ↓reduceIte, Nat.reduceEqDiff]; refine jl_go ?_) | simp (disch := omega) only [go_sem, hB, w1] | (refine jc_t ?_) | (refine jc_f ?_) | (refine z_ret (hlen) ?_) | (refine z_ret (hpop) ?_) | (refine And.intro (by (first | omega | (simp; done) | (simp; omega))) ?_) | (refine mc_b (fun hs => ?_) fun hs => ?_) | (refine mg_st (fun hs => ?_) fun hs => ?_) | (refine mg_sf (fun hs => ?_) fun hs => ?_) | (refine mall_s (fun hs => ?_) fun hs => ?_) | (refine malln_s (fun hs => ?_) fun hs => ?_) | (refine mpk_s (fun hs => ?_) fun hs => ?_) | ((repeat ((fail_if_success (refine hK _ _ (cl_id ?_))); clear hK)); refine hK _ _ (cl_id ?_); clear hK)))
    exact cl_id ⟨rfl, rfl⟩
  · have e1 : ¬ (n : Int) = (i : Int) := by omega
    have hs := swap_am T hi (j := n) (by omega) e
    have T1 := swT T hi (j := n) (by omega) e
    have F1 : Fr (n + 1) H q p (swH H q p Z i n) (swP p i n) := Fr.swap Z (by omega) (by omega) (by omega)
    have an : at3 (swP p i n) n = at3 p i := by rw [swP_at hi (by omega), if_pos rfl]
    have hd := down_am T1 (n := n) (i0 := i) (by rw [swP_len]; omega) (by omega) (by rw [swP_len]; omega) (n - i) (Nat.le_refl _)
    have ok := dnS_ok (n - i) (Nat.le_refl _) T1 (n := n) (i0 := i) (i := i) (by omega) (by rw [swP_len]; omega) (rm_dn hn (by omega) hp)
    have l1 := swP_len p i n
    generalize swP p i n = p1 at *
    generalize swH H q p Z i n = H1 at *
    rw [hn] at hs
    have fin (p3 : List It) (H3 : Heap) (T3 : Tm H3 b c q p3 Z) (F3 : Fr n H1 q p1 H3 p3) (h3 : Hp p3 n) (H4 : Heap) (e4 : H4 = (H3.set q (some (.row true 1 (nmz (p3.take n) ([.v (.pointer none)] :: Z))))).set b (some (.obj [.hs q 1 0 n, .mp c]))) : RemR H b c q p i H4 := by
      obtain ⟨p', Z', g1, g2, g3, g4, g5⟩ := pop_ok T3 (by rw [F3.perm.length_eq, l1, hn]) h3 e4
      rw [F3.hi n (Nat.le_refl _), an] at g2
      have pp := F3.perm.trans F1.perm
      refine ⟨p', Z', g1, pp.symm.trans g2, g3, by rw [g4, F3.len, F1.len], fun k k1 k2 k3 => ?_⟩
      rw [g5 k k1 k2 (fun x => k3 ((pp.map _).mem_iff.1 x)), F3.keep k k2 (fun x => k3 ((F1.perm.map _).mem_iff.1 x)), F1.keep k k2 k3]
    generalize dnS q Z n (n - i) H1 p1 i = F0 at *
    obtain ⟨H2, p2, i2⟩ := F0
    obtain ⟨T2, F2, m1, m0⟩ := ok
    simp only at T2 F2 m1 m0 hd
    have l2 := F2.perm.length_eq
    by_cases c1 : i < i2
    · have hpop := pop_am T2 (n := n) (by omega) (by omega)
      refine ⟨(at3 p2 n).1, _, fin p2 H2 T2 F2 (m1 c1) _ rfl, ?_⟩
      rw [decide_eq_true (by omega)] at hd
      clear fin m1 m0 hp
      refine calls_q (calls_of Try.func25 rfl (by kernel_rfl) (by kernel_rfl) (by rw [Try.ntmps25]; exact Nat.le_of_ble_eq_true rfl) (fun hH0 hA0 => ?_)); rw [Try.results25]
      (repeat' (first | (have hs := Mk.out hs; (try simp only [decide_eq_true_eq, decide_eq_false_iff_not, Bool.not_eq_true, Bool.not_eq_false, Bool.not_true, Bool.not_false, Bool.not_eq_eq_eq_not, Bool.and_eq_true, Bool.or_eq_true, beq_iff_eq, bne_iff_ne, beq_eq_false_iff_ne, ne_eq, Classical.not_not, not_true_eq_false, not_false_eq_true, forall_const, Bool.false_eq_true, false_implies, eq_self] at hs); (try (exfalso; omega)); (try simp (disch := omega) only [go_sem, hB, w1, e1, hs])) | (refine z_seqr rfl ?_) | (refine w_seq rfl fun K hK => ?_) | (refine z_reg rfl ?_) | (refine z_cond rfl ?_) | (refine w_skip rfl ?_; ((repeat ((fail_if_success (refine hK _ _ (cl_id ?_))); clear hK)); refine hK _ _ (cl_id ?_); clear hK)) | (refine w_ret rfl ?_; (try dsimp only [anorm, ablock, astay]); refine z_end ?_) | (refine z_end0 ?_) | (refine w_block rfl ?_) | (refine w_scope rfl ?_) | (refine w_label rfl ?_; ((repeat ((fail_if_success (refine hK _ _ (cl_id ?_))); clear hK)); refine hK _ _ (cl_id ?_); clear hK)) | (refine w_exit rfl ?_; (try dsimp only [anorm, ablock, astay]); (try simp only [reduceIte, ↓reduceIte, Nat.reduceEqDiff]); ((repeat ((fail_if_success (refine hK _ _ (cl_id ?_))); clear hK)); refine hK _ _ (cl_id ?_); clear hK)) | (refine w_exit rfl ?_; (try dsimp only [anorm, ablock, astay]); (try simp only [reduceIte, ↓reduceIte, Nat.reduceEqDiff]); refine z_end0 ?_) | (refine jend_go [(6, [4]), (5, [0]), (4, [0, 1, 20]), (3, [0, 1, 5]), (2, [0, 1, 5, 11]), (1, [0, 1, 5]), (0, [0, 1])] ?_; simp only [tabAt_cons, sel_nil, sel_cons, put_at, ofl_cons, ofl_nil, T0_at, List.getElem?_cons_zero, List.getElem?_cons_succ, List.getElem?_nil, Option.getD_some, Option.getD_none, reduceIte, ↓reduceIte, Nat.reduceEqDiff]; refine jl_go ?_) | simp (disch := omega) only [go_sem, hB, w1, e1] | (refine jc_t ?_) | (refine jc_f ?_) | (refine z_ret (hlen) ?_) | (refine z_ret (hs) ?_) | (refine z_ret (hd) ?_) | (refine z_ret (hpop) ?_) | (refine And.intro (by (first | omega | (simp; done) | (simp; omega))) ?_) | (refine mc_b (fun hs => ?_) fun hs => ?_) | (refine mg_st (fun hs => ?_) fun hs => ?_) | (refine mg_sf (fun hs => ?_) fun hs => ?_) | (refine mall_s (fun hs => ?_) fun hs => ?_) | (refine malln_s (fun hs => ?_) fun hs => ?_) | (refine mpk_s (fun hs => ?_) fun hs => ?_) | ((repeat ((fail_if_success (refine hK _ _ (cl_id ?_))); clear hK)); refine hK _ _ (cl_id ?_); clear hK)))
      exact cl_id ⟨rfl, rfl⟩
    · have hu := up_am T2 (n := n) (j := i) (by omega) (by omega) (by omega)
      have ok3 := upS_ok i (Nat.le_refl _) T2 (n := n) (j := i) (by omega) (by omega) (m0 c1)
      rw [decide_eq_false (by omega)] at hd
      generalize upS q Z i H2 p2 i = F0 at *
      obtain ⟨H3, p3⟩ := F0
      obtain ⟨T3, F3, h3⟩ := ok3
      simp only at T3 F3 h3 hu
      have l3 := F3.perm.length_eq
      have hpop := pop_am T3 (n := n) (by omega) (by omega)
      refine ⟨(at3 p3 n).1, _, fin p3 H3 T3 (F2.trans F3) h3 _ rfl, ?_⟩
      clear fin m1 m0 hp
      refine calls_q (calls_of Try.func25 rfl (by kernel_rfl) (by kernel_rfl) (by rw [Try.ntmps25]; exact Nat.le_of_ble_eq_true rfl) (fun hH0 hA0 => ?_)); rw [Try.results25]
      (repeat' (first | (have hs := Mk.out hs; (try simp only [decide_eq_true_eq, decide_eq_false_iff_not, Bool.not_eq_true, Bool.not_eq_false, Bool.not_true, Bool.not_false, Bool.not_eq_eq_eq_not, Bool.and_eq_true, Bool.or_eq_true, beq_iff_eq, bne_iff_ne, beq_eq_false_iff_ne, ne_eq, Classical.not_not, not_true_eq_false, not_false_eq_true, forall_const, Bool.false_eq_true, false_implies, eq_self] at hs); (try (exfalso; omega)); (try simp (disch := omega) only [go_sem, hB, w1, e1, hs])) | (refine z_seqr rfl ?_) | (refine w_seq rfl fun K hK => ?_) | (refine z_reg rfl ?_) | (refine z_cond rfl ?_) | (refine w_skip rfl ?_; ((repeat ((fail_if_success (refine hK _ _ (cl_id ?_))); clear hK)); refine hK _ _ (cl_id ?_); clear hK)) | (refine w_ret rfl ?_; (try dsimp only [anorm, ablock, astay]); refine z_end ?_) | (refine z_end0 ?_) | (refine w_block rfl ?_) | (refine w_scope rfl ?_) | (refine w_label rfl ?_; ((repeat ((fail_if_success (refine hK _ _ (cl_id ?_))); clear hK)); refine hK _ _ (cl_id ?_); clear hK)) | (refine w_exit rfl ?_; (try dsimp only [anorm, ablock, astay]); (try simp only [reduceIte, ↓reduceIte, Nat.reduceEqDiff]); ((repeat ((fail_if_success (refine hK _ _ (cl_id ?_))); clear hK)); refine hK _ _ (cl_id ?_); clear hK)) | (refine w_exit rfl ?_; (try dsimp only [anorm, ablock, astay]); (try simp only [reduceIte, ↓reduceIte, Nat.reduceEqDiff]); refine z_end0 ?_) | (refine jend_go [(6, [4]), (5, [0]), (4, [0, 1, 20]), (3, [0, 1, 5]), (2, [0, 1, 5, 11]), (1, [0, 1, 5]), (0, [0, 1])] ?_; simp only [tabAt_cons, sel_nil, sel_cons, put_at, ofl_cons, ofl_nil, T0_at, List.getElem?_cons_zero, List.getElem?_cons_succ, List.getElem?_nil, Option.getD_some, Option.getD_none, reduceIte, ↓reduceIte, Nat.reduceEqDiff]; refine jl_go ?_) | simp (disch := omega) only [go_sem, hB, w1, e1] | (refine jc_t ?_) | (refine jc_f ?_) | (refine z_ret (hlen) ?_) | (refine z_ret (hs) ?_) | (refine z_ret (hd) ?_) | (refine z_ret (hu) ?_) | (refine z_ret (hpop) ?_) | (refine And.intro (by (first | omega | (simp; done) | (simp; omega))) ?_) | (refine mc_b (fun hs => ?_) fun hs => ?_) | (refine mg_st (fun hs => ?_) fun hs => ?_) | (refine mg_sf (fun hs => ?_) fun hs => ?_) | (refine mall_s (fun hs => ?_) fun hs => ?_) | (refine malln_s (fun hs => ?_) fun hs => ?_) | (refine mpk_s (fun hs => ?_) fun hs => ?_) | ((repeat ((fail_if_success (refine hK _ _ (cl_id ?_))); clear hK)); refine hK _ _ (cl_id ?_); clear hK)))
      exact cl_id ⟨rfl, rfl⟩
end
end Go.Proofs.Ytmafdnbdaaedgaa
