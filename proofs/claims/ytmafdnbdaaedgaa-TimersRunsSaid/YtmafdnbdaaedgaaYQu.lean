/- Timers: another one with the same timers, by the machine. No condition. -/
import Derived.Test.YtmafdnbdaaedgaaYQt
import Derived.Test.YtmafdnbdaaedgaaYb1
import Derived.Test.YtmafdnbdaaedgaaYgs
set_option linter.unusedSectionVars false
set_option linter.unusedVariables false
set_option linter.unusedSimpArgs false
set_option linter.deprecated false
namespace Go.Proofs.Ytmafdnbdaaedgaa
open Go.RowKit Go.Cx Go.Am Go.Sort
set_option maxRecDepth 8000
set_option maxHeartbeats 2000000
attribute [local irreducible] ACalls jcall jsame jex jexg jexh jguard jconv jload jpart jstore jbin jslice jidxA jidx jfield jfieldA jbuild jbuildS jmake jappend jlen jpick jres jcnd jcopy jcap jborn jdraw jops jop jstr jstrc jlive jend jlenM jmmake jlook jmput jmdel jrange jnext jentry jlk jmp2 jmd2 jlm jrg jnx jny jen jeo jinvoke jmkI jtyA
attribute [local go_sem] reduceIte Nat.reduceEqDiff Nat.reduceAdd Nat.reduceMul Nat.reduceLT Nat.reduceLeDiff Nat.reduceSub Int.reduceLT Int.reduceLE Int.reduceToNat Int.reduceNeg Int.reduceAdd Int.reduceSub UInt8.reduceToNat Int.reduceEq reduceCtorEq Int.reducePow Int.reduceMul Nat.reducePow E0
attribute [local go_sem ↓] reduceIte
attribute [local go_sem high] chunks_bvs
attribute [local go_sem] jop_makeMap jop_lookup jop_mapUpdate jop_delete jop_range jop_next jop_entry jmmake_m jlook_m jlk_mI jmput_m jmdel_m jmd2_mB jlm_mB jrange_m jnext_m jnx_m jentry_m jen_m jeo_mS bmap_mI bmap_mSI mB_nil vI nbB_o nbB_r nbB_i bmap_o bmap_r bmap_i gfB_o gfB_r gfB_i jop_invoke jop_makeInterface jop_typeAssert jinvoke_m jmkI_m jtyA_m ifp_nb
attribute [local go_sem ←] List.map_take List.map_drop

structure FkS where
  G : Heap
  q : Nat
  m : List (Int × Nat)
  p : List It
  Z : List (List AV)
  i : Nat
structure FkP (H : Heap) (l : List (Int × Int)) (s : FkS) : Prop where
  gr : Gr H s.G
  tz : Tz s.G (H.length + 1) H.length s.q s.m s.p s.Z
  own : ∀ k, Ow (H.length + 1) H.length s.q s.p k → H.length ≤ k
  hi : s.i ≤ l.length
  pm : (l.take s.i).Perm (kt s.p)
def ForkR (H : Heap) (l : List (Int × Int)) (H' : Heap) : Prop := ∃ q p m Z, Tz H' (H.length + 1) H.length q m p Z ∧ l.Perm (kt p) ∧ (∀ k, Ow (H.length + 1) H.length q p k → H.length ≤ k) ∧ Gr H H'
/-- Keys and ticks that Set takes. -/
def rgT (l : List (Int × Int)) : Prop := ∀ d ∈ l, (0 ≤ d.1 ∧ d.1 ≤ 1099511627776) ∧ 1 ≤ d.2 ∧ d.2 ≤ 1099511627776
section
variable {H : Heap} {b c q : Nat} {m : List (Int × Nat)} {p : List It} {Z : List (List AV)}
/-- One that has just been made. -/
theorem new_tz {H1 : Heap} (h0 : H1[H.length]? = some (some (mB pv []))) (h1 : H1[H.length + 1]? = some (some (.obj [.v (.slice none 0 0), .mp H.length]))) : Tz H1 (H.length + 1) H.length (H.length + 1) [] [] [] :=
  ⟨.inr ⟨rfl, rfl, h1⟩, fun k _ hk => by simp at hk, h0, ⟨.refl _, by simp⟩⟩
theorem new_own {k : Nat} (h : Ow (H.length + 1) H.length (H.length + 1) [] k) : H.length ≤ k := by
  rcases h with h | h | h | h
  · omega
  · omega
  · omega
  · cases h
theorem fk_step {G H2 : Heap} {l : List (Int × Int)} {i : Nat} (nd : (l.map (·.1)).Nodup) (P : FkP H l ⟨G, q, m, p, Z, i⟩) {d : Int × Int} (hd : l.take (i + 1) = l.take i ++ [d]) (hi : i < l.length) (L : Heap) (R : SetR (G ++ L) (H.length + 1) H.length q p d.1 d.2 H2) : ∃ q' m' p' Z', FkP H l ⟨H2, q', m', p', Z', i + 1⟩ := by
  obtain ⟨q', m', p', Z', tz', pm', fw⟩ := R
  have gr := P.gr
  have pm := P.pm
  have own := P.own
  simp only at gr pm own
  have g1 := gr.1
  refine ⟨q', m', p', Z', ⟨⟨?_, fun k hk => ?_⟩, tz', fun k hk => ?_, hi, ?_⟩⟩
  · have := fw.len
    rw [List.length_append] at this
    simp only
    omega
  · refine (fw.keep k (by rw [List.length_append]; omega) fun h => ?_).trans ((at_app' (by omega) L).trans (gr.2 k hk))
    have := own k h
    omega
  · apply Classical.byContradiction
    intro hn
    simp only at hk
    have := own k (fw.own k hk (by rw [List.length_append]; omega))
    omega
  · simp only
    rw [hd]
    have n1 : ((l.take (i + 1)).map (·.1)).Nodup := nd.sublist ((List.take_sublist ..).map _)
    rw [hd, List.map_append] at n1
    have n2 : d.1 ∉ (l.take i).map (·.1) := fun h => (List.nodup_append.1 n1).2.2 _ h _ (List.mem_singleton.2 rfl) rfl
    have e : ((kt p).filter fun a => decide (a.1 ≠ d.1)) = kt p := List.filter_eq_self.2 fun x hx => by
      apply decide_eq_true
      intro e
      exact n2 (List.mem_map.2 ⟨x, pm.mem_iff.2 hx, e⟩)
    rw [e] at pm'
    exact (List.perm_append_comm.trans (pm.cons d)).trans pm'.symm
theorem fork_am (S : Tz H b c q m p Z) {l : List (Int × Int)} (hs : l.Pairwise lt2) (pm : l.Perm (kt p)) (rg : rgT l) (hl : p.length ≤ 1000000) : ACalls E0 16 [.ptr b 0] H fun r H' => r = .ptr (H.length + 1) 0 ∧ ForkR H l H' := by
  obtain ⟨rv, hB⟩ := S.th.ob
  have hm := made_am hB
  have hn := new_am (H := H)
  have S1 := S.keep (H' := H ++ [some (mB pv []), some (.obj [.v (.slice none 0 0), .mp H.length])]) fun k hk => at_app' (S.lt hk) _
  have ha := all_am S1 hs pm hl
  have llen : l.length = p.length := by have := pm.length_eq; unfold kt at this; rwa [List.length_map] at this
  have nd : (l.map (·.1)).Nodup := ((pm.map (·.1)).nodup_iff).2 (by rw [kt_keys]; exact S.ms.nd)
  obtain ⟨H1, eH1⟩ : ∃ H1, H1 = H ++ [some (mB pv []), some (.obj [.v (.slice none 0 0), .mp H.length])] := ⟨_, rfl⟩
  have g0 : H1[H.length]? = some (some (mB pv [])) := by rw [eH1, List.getElem?_append_right (Nat.le_refl _), Nat.sub_self]; rfl
  have g1 : H1[H.length + 1]? = some (some (.obj [.v (.slice none 0 0), .mp H.length])) := by rw [eH1, List.getElem?_append_right (by omega), Nat.add_sub_cancel_left]; rfl
  have gr1 : Gr H H1 := by rw [eH1]; exact Gr.app _ _
  have l1 : H1.length = H.length + 2 := by rw [eH1]; simp
  rw [← eH1] at ha hn
  clear eH1
  refine calls_q (calls_of Try.func16 rfl (by kernel_rfl) (by kernel_rfl) (by rw [Try.ntmps16]; exact Nat.le_of_ble_eq_true rfl) (fun hH0 hA0 => ?_)); rw [Try.results16]
  (repeat' (first | (have hs := Mk.out hs; (try simp only [decide_eq_true_eq, decide_eq_false_iff_not, Bool.not_eq_true, Bool.not_eq_false, Bool.not_true, Bool.not_false, Bool.not_eq_eq_eq_not, Bool.and_eq_true, Bool.or_eq_true, beq_iff_eq, bne_iff_ne, beq_eq_false_iff_ne, ne_eq, Classical.not_not, not_true_eq_false, not_false_eq_true, forall_const, Bool.false_eq_true, false_implies, eq_self] at hs); (try (exfalso; omega)); (try simp (disch := omega) only [go_sem, hB, hs])) | (refine z_seqr rfl ?_) | (refine w_seq rfl fun K hK => ?_) | (refine z_reg rfl ?_) | (refine z_cond rfl ?_) | (refine w_skip rfl ?_; ((repeat ((fail_if_success (refine hK _ _ (cl_id ?_))); clear hK)); refine hK _ _ (cl_id ?_); clear hK)) | (refine w_ret rfl ?_; (try dsimp only [anorm, ablock, astay]); refine z_end ?_) | (refine z_end0 ?_) | (refine w_block rfl ?_) | (refine w_scope rfl ?_) | (refine w_label rfl ?_; ((repeat ((fail_if_success (refine hK _ _ (cl_id ?_))); clear hK)); refine hK _ _ (cl_id ?_); clear hK)) | (refine w_exit rfl ?_; (try dsimp only [anorm, ablock, astay]); (try simp only [reduceIte, ↓reduceIte, Nat.reduceEqDiff]); ((repeat ((fail_if_success (refine hK _ _ (cl_id ?_))); clear hK)); refine hK _ _ (cl_id ?_); clear hK)) | (refine w_exit rfl ?_; (try dsimp only [anorm, ablock, astay]); (try simp only [reduceIte, ↓reduceIte, Nat.reduceEqDiff]); refine z_end0 ?_) | (refine jend_go [(9, [2]), (8, [3, 11, 12, 13]), (7, [3, 11, 12, 13]), (6, [3, 5, 11, 12, 13]), (5, [3, 11, 12, 13, 14]), (4, [3, 11, 12, 13]), (3, [0, 3]), (2, [2]), (1, [0, 8]), (0, [0])] ?_; simp only [tabAt_cons, sel_nil, sel_cons, put_at, ofl_cons, ofl_nil, T0_at, List.getElem?_cons_zero, List.getElem?_cons_succ, List.getElem?_nil, Option.getD_some, Option.getD_none, reduceIte, ↓reduceIte, Nat.reduceEqDiff]; refine jl_go ?_) | simp (disch := omega) only [go_sem, hB] | (refine jc_t ?_) | (refine jc_f ?_) | (refine z_ret (hm) ?_) | (refine z_ret (hn) ?_) | (refine And.intro (by (first | omega | (simp; done) | (simp; omega))) ?_) | (refine mc_b (fun hs => ?_) fun hs => ?_) | (refine mg_st (fun hs => ?_) fun hs => ?_) | (refine mg_sf (fun hs => ?_) fun hs => ?_) | (refine mall_s (fun hs => ?_) fun hs => ?_) | (refine malln_s (fun hs => ?_) fun hs => ?_) | (refine mpk_s (fun hs => ?_) fun hs => ?_) | ((repeat ((fail_if_success (refine hK _ _ (cl_id ?_))); clear hK)); refine hK _ _ (cl_id ?_); clear hK)))
  refine z_call ha ?_
  rintro _ H2 ⟨rfl, gr2⟩
  (repeat' (first | (have hs := Mk.out hs; (try simp only [decide_eq_true_eq, decide_eq_false_iff_not, Bool.not_eq_true, Bool.not_eq_false, Bool.not_true, Bool.not_false, Bool.not_eq_eq_eq_not, Bool.and_eq_true, Bool.or_eq_true, beq_iff_eq, bne_iff_ne, beq_eq_false_iff_ne, ne_eq, Classical.not_not, not_true_eq_false, not_false_eq_true, forall_const, Bool.false_eq_true, false_implies, eq_self] at hs); (try (exfalso; omega)); (try simp (disch := omega) only [go_sem, hs])) | (refine z_seqr rfl ?_) | (refine w_seq rfl fun K hK => ?_) | (refine z_reg rfl ?_) | (refine z_cond rfl ?_) | (refine w_skip rfl ?_; ((repeat ((fail_if_success (refine hK _ _ (cl_id ?_))); clear hK)); refine hK _ _ (cl_id ?_); clear hK)) | (refine w_ret rfl ?_; (try dsimp only [anorm, ablock, astay]); refine z_end ?_) | (refine z_end0 ?_) | (refine w_block rfl ?_) | (refine w_scope rfl ?_) | (refine w_label rfl ?_; ((repeat ((fail_if_success (refine hK _ _ (cl_id ?_))); clear hK)); refine hK _ _ (cl_id ?_); clear hK)) | (refine w_exit rfl ?_; (try dsimp only [anorm, ablock, astay]); (try simp only [reduceIte, ↓reduceIte, Nat.reduceEqDiff]); ((repeat ((fail_if_success (refine hK _ _ (cl_id ?_))); clear hK)); refine hK _ _ (cl_id ?_); clear hK)) | (refine w_exit rfl ?_; (try dsimp only [anorm, ablock, astay]); (try simp only [reduceIte, ↓reduceIte, Nat.reduceEqDiff]); refine z_end0 ?_) | (refine jend_go [(9, [2]), (8, [3, 11, 12, 13]), (7, [3, 11, 12, 13]), (6, [3, 5, 11, 12, 13]), (5, [3, 11, 12, 13, 14]), (4, [3, 11, 12, 13]), (3, [0, 3]), (2, [2]), (1, [0, 8]), (0, [0])] ?_; simp only [tabAt_cons, sel_nil, sel_cons, put_at, ofl_cons, ofl_nil, T0_at, List.getElem?_cons_zero, List.getElem?_cons_succ, List.getElem?_nil, Option.getD_some, Option.getD_none, reduceIte, ↓reduceIte, Nat.reduceEqDiff]; refine jl_go ?_) | simp (disch := omega) only [go_sem] | (refine jc_t ?_) | (refine jc_f ?_) | (refine And.intro (by (first | omega | (simp; done) | (simp; omega))) ?_) | (refine mc_b (fun hs => ?_) fun hs => ?_) | (refine mg_st (fun hs => ?_) fun hs => ?_) | (refine mg_sf (fun hs => ?_) fun hs => ?_) | (refine mall_s (fun hs => ?_) fun hs => ?_) | (refine malln_s (fun hs => ?_) fun hs => ?_) | (refine mpk_s (fun hs => ?_) fun hs => ?_) | ((repeat ((fail_if_success (refine hK _ _ (cl_id ?_))); clear hK)); refine hK _ _ (cl_id ?_); clear hK)))
  have g0 := (gr2.2 _ (by omega)).trans g0
  have g1 := (gr2.2 _ (by omega)).trans g1
  have gr3 := gr1.trans gr2
  clear gr2 gr1 l1 hn ha S1
  refine z_loop rfl (FkP H l) (fun s => l.length - s.i) (fun s => [(3, .ptr (H.length + 1) 0), (11, .sl 2 (cels l)), (12, .v (.int .i64 (l.length : Int))), (13, .v (.int .i64 (s.i : Int)))]) (fun s => s.G) ⟨H2, H.length + 1, [], [], [], 0⟩ ⟨gr3, new_tz g0 g1, fun k hk => new_own hk, Nat.zero_le _, .refl _⟩ (cq_s ?_) ?_
  · (simp (disch := omega) only [go_sem])
  rintro ⟨G, q1, m1, p1, Z1, i⟩ P Ko hKo
  have hi := P.hi
  simp only at hi ⊢
  by_cases hlt : (i : Int) < l.length
  · have hin : i < l.length := by omega
    have ht := take_gt hin
    have hg := rg (gt l i) (by rw [gt_eq hin]; exact List.getElem_mem hin)
    have tz1 := P.tz
    have pm1 := P.pm
    simp only at tz1 pm1
    have pl : p1.length ≤ 1000000 := by
      have := pm1.length_eq
      unfold kt at this
      rw [List.length_map, List.length_take] at this
      omega
    have step := fun (H2 : Heap) => fk_step (H2 := H2) nd P ht hin
    have hKo2 := fun T' s' (P' : FkP H l s') (e : s'.i = i + 1) => hKo T' s'.G s' P' (by rw [e]; simp only; omega)
    clear hKo
    obtain ⟨⟨key, tick⟩, hx⟩ : ∃ x, gt l i = x := ⟨_, rfl⟩
    rw [hx] at hg ht step
    simp only at hg step
    have tzL := tz1.keep (H' := G ++ [some (Blk.obj [.v (.int .i64 key), .v (.int .i64 tick)])]) fun k hk => at_app' (tz1.lt hk) _
    have hst := set_am tzL hg.1.1 hg.1.2 hg.2.1 hg.2.2 pl
    have hx1 : (gt l i).1 = key := by rw [hx]
    have hx2 : (gt l i).2 = tick := by rw [hx]
    clear P
    (repeat' (first | (have hs := Mk.out hs; (try simp only [decide_eq_true_eq, decide_eq_false_iff_not, Bool.not_eq_true, Bool.not_eq_false, Bool.not_true, Bool.not_false, Bool.not_eq_eq_eq_not, Bool.and_eq_true, Bool.or_eq_true, beq_iff_eq, bne_iff_ne, beq_eq_false_iff_ne, ne_eq, Classical.not_not, not_true_eq_false, not_false_eq_true, forall_const, Bool.false_eq_true, false_implies, eq_self] at hs); (try (exfalso; omega)); (try simp (disch := omega) only [go_sem, hlt, hx1, hx2, hs])) | (refine z_seqr rfl ?_) | (refine w_seq rfl fun K hK => ?_) | (refine z_reg rfl ?_) | (refine z_cond rfl ?_) | (refine w_skip rfl ?_; ((repeat ((fail_if_success (refine hK _ _ (cl_id ?_))); clear hK)); refine hK _ _ (cl_id ?_); clear hK)) | (refine w_ret rfl ?_; (try dsimp only [anorm, ablock, astay]); refine z_end ?_) | (refine z_end0 ?_) | (refine w_block rfl ?_) | (refine w_scope rfl ?_) | (refine w_label rfl ?_; ((repeat ((fail_if_success (refine hK _ _ (cl_id ?_))); clear hK)); refine hK _ _ (cl_id ?_); clear hK)) | (refine w_exit rfl ?_; (try dsimp only [anorm, ablock, astay]); (try simp only [reduceIte, ↓reduceIte, Nat.reduceEqDiff]); ((repeat ((fail_if_success (refine hK _ _ (cl_id ?_))); clear hK)); refine hK _ _ (cl_id ?_); clear hK)) | (refine w_exit rfl ?_; (try dsimp only [anorm, ablock, astay]); (try simp only [reduceIte, ↓reduceIte, Nat.reduceEqDiff]); refine z_end0 ?_) | (refine jend_go [(9, [2]), (8, [3, 11, 12, 13]), (7, [3, 11, 12, 13]), (6, [3, 5, 11, 12, 13]), (5, [3, 11, 12, 13, 14]), (4, [3, 11, 12, 13]), (3, [0, 3]), (2, [2]), (1, [0, 8]), (0, [0])] ?_; simp only [tabAt_cons, sel_nil, sel_cons, put_at, ofl_cons, ofl_nil, T0_at, List.getElem?_cons_zero, List.getElem?_cons_succ, List.getElem?_nil, Option.getD_some, Option.getD_none, reduceIte, ↓reduceIte, Nat.reduceEqDiff]; refine jl_go ?_) | simp (disch := omega) only [go_sem, hlt, hx1, hx2] | (refine jc_t ?_) | (refine jc_f ?_) | (refine And.intro (by (first | omega | (simp; done) | (simp; omega))) ?_) | (refine mc_b (fun hs => ?_) fun hs => ?_) | (refine mg_st (fun hs => ?_) fun hs => ?_) | (refine mg_sf (fun hs => ?_) fun hs => ?_) | (refine mall_s (fun hs => ?_) fun hs => ?_) | (refine malln_s (fun hs => ?_) fun hs => ?_) | (refine mpk_s (fun hs => ?_) fun hs => ?_) | ((repeat ((fail_if_success (refine hK _ _ (cl_id ?_))); clear hK)); refine hK _ _ (cl_id ?_); clear hK)))
    refine z_call hst ?_
    rintro _ H3 ⟨rfl, R⟩
    obtain ⟨q2, m2, p2, Z2, P2⟩ := step H3 _ R
    clear hst step
    (repeat' (first | (have hs := Mk.out hs; (try simp only [decide_eq_true_eq, decide_eq_false_iff_not, Bool.not_eq_true, Bool.not_eq_false, Bool.not_true, Bool.not_false, Bool.not_eq_eq_eq_not, Bool.and_eq_true, Bool.or_eq_true, beq_iff_eq, bne_iff_ne, beq_eq_false_iff_ne, ne_eq, Classical.not_not, not_true_eq_false, not_false_eq_true, forall_const, Bool.false_eq_true, false_implies, eq_self] at hs); (try (exfalso; omega)); (try simp (disch := omega) only [go_sem, hs])) | (refine z_seqr rfl ?_) | (refine w_seq rfl fun K hK => ?_) | (refine z_reg rfl ?_) | (refine z_cond rfl ?_) | (refine w_skip rfl ?_; ((repeat ((fail_if_success (refine hK _ _ (cl_id ?_))); clear hK)); refine hK _ _ (cl_id ?_); clear hK)) | (refine w_ret rfl ?_; (try dsimp only [anorm, ablock, astay]); refine z_end ?_) | (refine z_end0 ?_) | (refine w_block rfl ?_) | (refine w_scope rfl ?_) | (refine w_label rfl ?_; ((repeat ((fail_if_success (refine hK _ _ (cl_id ?_))); clear hK)); refine hK _ _ (cl_id ?_); clear hK)) | (refine w_exit rfl ?_; (try dsimp only [anorm, ablock, astay]); (try simp only [reduceIte, ↓reduceIte, Nat.reduceEqDiff]); ((repeat ((fail_if_success (refine hK _ _ (cl_id ?_))); clear hK)); refine hK _ _ (cl_id ?_); clear hK)) | (refine w_exit rfl ?_; (try dsimp only [anorm, ablock, astay]); (try simp only [reduceIte, ↓reduceIte, Nat.reduceEqDiff]); refine z_end0 ?_) | (refine jend_go [(9, [2]), (8, [3, 11, 12, 13]), (7, [3, 11, 12, 13]), (6, [3, 5, 11, 12, 13]), (5, [3, 11, 12, 13, 14]), (4, [3, 11, 12, 13]), (3, [0, 3]), (2, [2]), (1, [0, 8]), (0, [0])] ?_; simp only [tabAt_cons, sel_nil, sel_cons, put_at, ofl_cons, ofl_nil, T0_at, List.getElem?_cons_zero, List.getElem?_cons_succ, List.getElem?_nil, Option.getD_some, Option.getD_none, reduceIte, ↓reduceIte, Nat.reduceEqDiff]; refine jl_go ?_) | simp (disch := omega) only [go_sem] | (refine jc_t ?_) | (refine jc_f ?_) | (refine And.intro (by (first | omega | (simp; done) | (simp; omega))) ?_) | (refine mc_b (fun hs => ?_) fun hs => ?_) | (refine mg_st (fun hs => ?_) fun hs => ?_) | (refine mg_sf (fun hs => ?_) fun hs => ?_) | (refine mall_s (fun hs => ?_) fun hs => ?_) | (refine malln_s (fun hs => ?_) fun hs => ?_) | (refine mpk_s (fun hs => ?_) fun hs => ?_) | ((repeat ((fail_if_success (refine hK _ _ (cl_id ?_))); clear hK)); refine hK _ _ (cl_id ?_); clear hK)))
    refine hKo2 _ ⟨H3, q2, m2, p2, Z2, i + 1⟩ P2 rfl (cq_s ?_)
    (simp (disch := omega) only [go_sem])
    omega
  · obtain rfl : i = l.length := by omega
    have pm1 := P.pm
    simp only at pm1
    rw [List.take_length] at pm1
    have fin : ForkR H l G := ⟨q1, p1, m1, Z1, P.tz, pm1, P.own, P.gr⟩
    clear hKo P
    (repeat' (first | (have hs := Mk.out hs; (try simp only [decide_eq_true_eq, decide_eq_false_iff_not, Bool.not_eq_true, Bool.not_eq_false, Bool.not_true, Bool.not_false, Bool.not_eq_eq_eq_not, Bool.and_eq_true, Bool.or_eq_true, beq_iff_eq, bne_iff_ne, beq_eq_false_iff_ne, ne_eq, Classical.not_not, not_true_eq_false, not_false_eq_true, forall_const, Bool.false_eq_true, false_implies, eq_self] at hs); (try (exfalso; omega)); (try simp (disch := omega) only [go_sem, hlt, hs])) | (refine z_seqr rfl ?_) | (refine w_seq rfl fun K hK => ?_) | (refine z_reg rfl ?_) | (refine z_cond rfl ?_) | (refine w_skip rfl ?_; ((repeat ((fail_if_success (refine hK _ _ (cl_id ?_))); clear hK)); refine hK _ _ (cl_id ?_); clear hK)) | (refine w_ret rfl ?_; (try dsimp only [anorm, ablock, astay]); refine z_end ?_) | (refine z_end0 ?_) | (refine w_block rfl ?_) | (refine w_scope rfl ?_) | (refine w_label rfl ?_; ((repeat ((fail_if_success (refine hK _ _ (cl_id ?_))); clear hK)); refine hK _ _ (cl_id ?_); clear hK)) | (refine w_exit rfl ?_; (try dsimp only [anorm, ablock, astay]); (try simp only [reduceIte, ↓reduceIte, Nat.reduceEqDiff]); ((repeat ((fail_if_success (refine hK _ _ (cl_id ?_))); clear hK)); refine hK _ _ (cl_id ?_); clear hK)) | (refine w_exit rfl ?_; (try dsimp only [anorm, ablock, astay]); (try simp only [reduceIte, ↓reduceIte, Nat.reduceEqDiff]); refine z_end0 ?_) | (refine jend_go [(9, [2]), (8, [3, 11, 12, 13]), (7, [3, 11, 12, 13]), (6, [3, 5, 11, 12, 13]), (5, [3, 11, 12, 13, 14]), (4, [3, 11, 12, 13]), (3, [0, 3]), (2, [2]), (1, [0, 8]), (0, [0])] ?_; simp only [tabAt_cons, sel_nil, sel_cons, put_at, ofl_cons, ofl_nil, T0_at, List.getElem?_cons_zero, List.getElem?_cons_succ, List.getElem?_nil, Option.getD_some, Option.getD_none, reduceIte, ↓reduceIte, Nat.reduceEqDiff]; refine jl_go ?_) | simp (disch := omega) only [go_sem, hlt] | (refine jc_t ?_) | (refine jc_f ?_) | (refine And.intro (by (first | omega | (simp; done) | (simp; omega))) ?_) | (refine mc_b (fun hs => ?_) fun hs => ?_) | (refine mg_st (fun hs => ?_) fun hs => ?_) | (refine mg_sf (fun hs => ?_) fun hs => ?_) | (refine mall_s (fun hs => ?_) fun hs => ?_) | (refine malln_s (fun hs => ?_) fun hs => ?_) | (refine mpk_s (fun hs => ?_) fun hs => ?_) | ((repeat ((fail_if_success (refine hK _ _ (cl_id ?_))); clear hK)); refine hK _ _ (cl_id ?_); clear hK)))
    exact cl_id ⟨rfl, fin⟩
end
end Go.Proofs.Ytmafdnbdaaedgaa
