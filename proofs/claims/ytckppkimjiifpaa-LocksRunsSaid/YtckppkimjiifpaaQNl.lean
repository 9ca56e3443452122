/- Law 21's Both: a call of both, by the machine: the walk. No condition but bounds of lengths. -/
import Derived.Test.YtckppkimjiifpaaQNk
import Derived.Test.YtckppkimjiifpaaQb1
import Derived.Test.YtckppkimjiifpaaQgs
set_option linter.unusedSectionVars false
set_option linter.unusedVariables false
set_option linter.unusedSimpArgs false
set_option linter.deprecated false
namespace Go.Proofs.Ytckppkimjiifpaa
open Go.RowKit Go.Cx Go.Am
set_option maxRecDepth 8000
set_option maxHeartbeats 2000000
attribute [local irreducible] ACalls jcall jsame jex jexg jexh jguard jconv jload jpart jstore jbin jslice jidxA jidx jfield jfieldA jbuild jbuildS jmake jappend jlen jpick jres jcnd jcopy jcap jborn jdraw jops jop jstr jstrc jlive jend jlenM jmmake jlook jmput jmdel jrange jnext jentry jlk jmp2 jmd2 jlm jrg jnx jny jen jeo
attribute [local go_sem] reduceIte Nat.reduceEqDiff Nat.reduceAdd Nat.reduceMul Nat.reduceLT Nat.reduceLeDiff Nat.reduceSub Int.reduceLT Int.reduceLE Int.reduceToNat Int.reduceNeg Int.reduceAdd Int.reduceSub UInt8.reduceToNat Int.reduceEq reduceCtorEq Int.reducePow Int.reduceMul Nat.reducePow E0
attribute [local go_sem ↓] reduceIte
attribute [local go_sem high] chunks_bvs
attribute [local go_sem] tgs_nil tgs_snoc tagC_eq rwb_nil jop_makeMap jop_lookup jop_mapUpdate jop_delete jop_range jop_next jop_entry jmmake_m jlook_m jlk_mI jmput_m jmp2_mI jmdel_m jmd2_mB jlenM_m jlm_mB jrange_m jnext_m jnx_m jentry_m jen_m jeo_mS nbB_mI nbB_mSI bmap_mI bmap_mSI mB_nil vI nbB_o nbB_r nbB_i bmap_o bmap_r bmap_i gfB_o gfB_r gfB_i cl1_iiib
attribute [local go_sem ←] List.map_take List.map_drop

theorem LHb_nbs {b N : Nat} {st : List Lk} (hN : b + (2 * st.length + 1) ≤ N) : ∀ (k : Nat) (B : Blk), (LHb b st)[k]? = some (some B) → nbB N B := by
  intro k B hk
  have hkl := (List.getElem?_eq_some_iff.1 hk).1
  rw [LHb_len] at hkl
  rcases Nat.eq_zero_or_pos k with rfl | hp
  · cases hk
    exact ⟨lpsb_nbss (by omega), trivial⟩
  · obtain ⟨j, h | h⟩ : ∃ j, k = 2 * j + 1 ∨ k = 2 * j + 2 := ⟨(k - 1) / 2, by omega⟩
    · subst h
      rw [(LHb_o b st (by omega : j < st.length)).1] at hk
      cases hk
      exact ⟨by unfold nb; omega, of_eq_true (cels_nbss _), trivial⟩
    · subst h
      rw [(LHb_o b st (by omega : j < st.length)).2] at hk
      cases hk
      exact of_eq_true nbB_mI
section
variable {b c n : Nat} {st st' : List Lk} {h h' r r' : List One}
theorem CG_nbs {N : Nat} (hst : st.length = n) (hN : 2 * n + 3 ≤ N) (hb : b < N) (hc : c < N) : ∀ (k : Nat) (B : Blk), (CG b c n st h r)[k]? = some (some B) → nbB N B := by
  intro k B hk
  match k with
  | 0 => cases hk; exact ⟨hb, hc, trivial⟩
  | 1 => cases hk; exact nbB_ro
  | k + 2 => exact LHb_nbs (b := 2) (st := st) (by omega) k B hk
theorem std0 (hst : st.length = n) : Std (CG 2 1 n st h r) 2 1 n st h r := by
  have l0 := CG_len (b := 2) (c := 1) (h := h) (r := r) hst
  have l1 := LH_len st
  refine ⟨CG_nbs hst (by omega) (by omega) (by omega), rfl, by omega, fun k hk => ?_, rfl⟩
  rw [Nat.add_comm]
  rfl
/-- Both behind a fork. -/
def FH (n : Nat) (st2 : List Lk) (h2 r2 : List One) (X : Option Blk) (st : List Lk) (h r : List One) : Heap := CG (2 * n + 4) (4 * n + 5) n st2 h2 r2 ++ X :: (LHb (2 * n + 4) st ++ [some (.obj [.v (.int .i64 (n : Int)), .sl 3 (cels h), .sl 3 (cels r)])])
variable {st2 : List Lk} {h2 r2 : List One} {X : Option Blk}
theorem FH_len (hst : st.length = n) (hst2 : st2.length = n) : (FH n st2 h2 r2 X st h r).length = 4 * n + 6 := by
  unfold FH
  rw [List.length_append, CG_len hst2, List.length_cons, List.length_append, LHb_len]
  simp
  omega
theorem FH_lo (hst2 : st2.length = n) {k : Nat} (hk : k < 2 * n + 3) : (FH n st2 h2 r2 X st h r)[k]? = (CG (2 * n + 4) (4 * n + 5) n st2 h2 r2)[k]? := by
  unfold FH
  rw [List.getElem?_append_left (by rw [CG_len hst2]; exact hk)]
theorem FH_x (hst2 : st2.length = n) : (FH n st2 h2 r2 X st h r)[2 * n + 3]? = some X := by
  unfold FH
  rw [List.getElem?_append_right (by rw [CG_len hst2]; omega), CG_len hst2, Nat.sub_self]
  rfl
theorem FH_hi (hst2 : st2.length = n) (k : Nat) : (FH n st2 h2 r2 X st h r)[2 * n + 4 + k]? = (LHb (2 * n + 4) st ++ [some (.obj [.v (.int .i64 (n : Int)), .sl 3 (cels h), .sl 3 (cels r)])])[k]? := by
  unfold FH
  rw [List.getElem?_append_right (by rw [CG_len hst2]; omega), CG_len hst2, show 2 * n + 4 + k - (2 * n + 3) = k + 1 by omega]
  rfl
theorem std1 (hst : st.length = n) (hst2 : st2.length = n) (hX : ∀ B, X = some B → nbB 0 B) : Std (FH n st2 h2 r2 X st h r) (2 * n + 4) (4 * n + 5) n st h r := by
  have lF := FH_len (h := h) (r := r) (X := X) (h2 := h2) (r2 := r2) hst hst2
  have l1 := LH_len st
  have l2 := LHb_len (2 * n + 4) st
  have hr : (FH n st2 h2 r2 X st h r)[4 * n + 5]? = some (some (.obj [.v (.int .i64 (n : Int)), .sl 3 (cels h), .sl 3 (cels r)])) := by
    have := FH_hi (h := h) (r := r) (X := X) (h2 := h2) (r2 := r2) (st := st) hst2 (2 * n + 1)
    rw [List.getElem?_append_right (by omega), l2, hst, Nat.sub_self] at this
    rw [show 4 * n + 5 = 2 * n + 4 + (2 * n + 1) by omega, this]
    rfl
  refine ⟨fun k B hk => ?_, rfl, by omega, fun k hk => ?_, hr⟩
  · have hkl := (List.getElem?_eq_some_iff.1 hk).1
    rw [lF] at hkl ⊢
    by_cases h1 : k < 2 * n + 3
    · rw [FH_lo hst2 h1] at hk
      exact CG_nbs hst2 (by omega) (by omega) (by omega) k B hk
    · by_cases h3 : k = 2 * n + 3
      · subst h3
        rw [FH_x hst2] at hk
        have hb := hX B (Option.some.inj hk)
        cases B with
        | obj cs => exact nbs.mono (Nat.zero_le _) hb
        | row hot sz es => exact nbss.mono (Nat.zero_le _) hb
        | map ks vs s => exact nbs.mono (Nat.zero_le _) hb
        | iter m bs c seen => exact absurd hb (Nat.not_lt_zero _)
      · by_cases h4 : k = 4 * n + 5
        · subst h4
          rw [hr] at hk
          cases hk
          exact nbB_ro
        · obtain ⟨q, rfl⟩ : ∃ q, k = 2 * n + 4 + q := ⟨k - (2 * n + 4), by omega⟩
          rw [FH_hi hst2, List.getElem?_append_left (by omega)] at hk
          exact LHb_nbs (by omega) q B hk
  · rw [FH_hi hst2, List.getElem?_append_left (by omega)]
/-- The old ones are forgotten. -/
theorem cq_fork {T : Nat → AV} {tl : List (Nat × AV)} (hst : st.length = n) (hst2 : st2.length = n) (hT : ∀ x ∈ tl, nb 1 x.2 ∧ Wk (T x.1) x.2) : Cq E0 0 T (FH n st2 h2 r2 X st h r) (ofl tl) (CG 2 1 n st h r) := by
  have l0 := CG_len (b := 2) (c := 1) (h := h) (r := r) hst
  have l2 := LHb_len (2 * n + 4) st
  have l3 := LHb_len 2 st
  obtain ⟨f, hf⟩ : ∃ f : Nat → Nat, f = fun q => if q = 0 then 0 else if q = 1 then 4 * n + 5 else q + (2 * n + 2) := ⟨_, rfl⟩
  have f0 : f 0 = 0 := by rw [hf]; rfl
  have f1 : f 1 = 4 * n + 5 := by rw [hf]; rfl
  have f2 : ∀ q, f (2 + q) = 2 * n + 4 + q := fun q => by rw [hf]; simp only; rw [if_neg (by omega), if_neg (by omega)]; omega
  have hr : (FH n st2 h2 r2 X st h r)[4 * n + 5]? = some (some (.obj [.v (.int .i64 (n : Int)), .sl 3 (cels h), .sl 3 (cels r)])) := by
    have := FH_hi (h := h) (r := r) (X := X) (h2 := h2) (r2 := r2) (st := st) hst2 (2 * n + 1)
    rw [List.getElem?_append_right (by omega), l2, hst, Nat.sub_self] at this
    rw [show 4 * n + 5 = 2 * n + 4 + (2 * n + 1) by omega, this]
    rfl
  refine Cq.ren f (fun _ => Nat.zero_le _) (fun r hr => absurd hr (Nat.not_lt_zero r)) (fun q B hq => ?_) (fun q q' B B' hq hq' e => ?_) (fun j => ?_)
  · have hql := (List.getElem?_eq_some_iff.1 hq).1
    refine ⟨CG_nbs hst (by omega) (by omega) (by omega) q B hq, ?_⟩
    match q, hq with
    | 0, hq =>
      cases hq
      rw [f0]
      show some (some (Blk.obj [.ptr (2 * n + 4) 0, .ptr (4 * n + 5) 0])) = some (some (.obj [.ptr (f 2) 0, .ptr (f 1) 0]))
      have := f2 0
      rw [Nat.add_zero, Nat.add_zero] at this
      rw [this, f1]
    | 1, hq =>
      cases hq
      rw [f1, hr, bmap_id (n := 0) (fun r hr => absurd hr (Nat.not_lt_zero r)) nbB_ro]
    | q + 2, hq =>
      have hq2 : (LHb 2 st)[q]? = some (some B) := hq
      rw [l0] at hql
      rw [Nat.add_comm q 2, f2, FH_hi hst2, List.getElem?_append_left (by omega)]
      rw [LHb_get] at hq2 ⊢
      cases hB : (LH st)[q]? with
      | none => rw [hB] at hq2; cases hq2
      | some y =>
        cases y with
        | none => rw [hB] at hq2; cases hq2
        | some B0 =>
          rw [hB] at hq2
          have e : bmap (fun r => 2 + r) B0 = B := Option.some.inj (Option.some.inj hq2)
          rw [← e]
          show some (some (bmap _ B0)) = some (some (bmap f (bmap _ B0)))
          rw [bmap_comp, bmap_cong (n := (LH st).length) (fun r _ => (f2 r).symm) (LH_nbs st q B0 hB)]
  · rw [hf] at e
    have h1 := (List.getElem?_eq_some_iff.1 hq).1
    have h3 := (List.getElem?_eq_some_iff.1 hq').1
    rw [l0] at h1 h3
    simp only at e
    split at e <;> split at e <;> (try split at e) <;> (try split at e) <;> omega
  · refine ofl_all (p := fun j x => nb (CG 2 1 n st h r).length x ∧ Wk (T j) (amap f x)) ⟨trivial, Wk.any _⟩ fun x hx => ?_
    obtain ⟨x1, x2⟩ := hT x hx
    refine ⟨nb.mono (by omega) x1, ?_⟩
    rw [amap_id (n := 1) (fun r hr => by rw [show r = 0 by omega]; exact f0) x1]
    exact x2
theorem jxhR {K : Kvh} {g : FuncId} {al : List AV} {r0 : AV} {H H1 : Heap} (k : ACalls E0 g al H fun x H' => x = r0 ∧ H' = H1) (hk : K.k r0 H1) : @jexh (fun v H2 => @jcall E0 g al H ⟨fun v' H' => v' = v ∧ H' = H2⟩) K := jxh (z_ret k ⟨rfl, rfl⟩) hk
theorem gP (H : Heap) (A : Option Blk) (L : Heap) (P : Nat) (h : H.length = P) : (H ++ A :: L)[P]? = some A := by
  rw [List.getElem?_append_right (by omega), h, Nat.sub_self]
  rfl
theorem step1_am (R : Rel n st h r) (hn : 1 ≤ n ∧ n ≤ 67) (ht : tot st ≤ 1000) (hl : h.length + r.length ≤ 1000) (t k : Int) (w : Bool) : ∃ st', (ACalls E0 20 [.ptr 0 0, .agg [.v (.int .i64 1), .v (.int .i64 t), .v (.int .i64 k), .v (.bool w)]] (CG 2 1 n st h r) fun x H' => x = .v (.bool true) ∧ H' = CG 2 1 n st' (askF n h r t k w).2.2.1 (askF n h r t k w).2.2.2) ∧ Rel n st' (askF n h r t k w).2.2.1 (askF n h r t k w).2.2.2 ∧ tot st' ≤ tot st + 1 ∧ (askF n h r t k w).2.2.1.length + (askF n h r t k w).2.2.2.length ≤ h.length + r.length + 1 := by
  obtain ⟨st', k1, R', k2, k3⟩ := R.ask hn ht t k w
  refine ⟨st', ?_, R', k2, k3⟩
  have kf := fask_am n h r t k w (by omega) (by omega)
  generalize (askF n h r t k w).2.2.1 = h' at *
  generalize (askF n h r t k w).2.2.2 = r' at *
  generalize (askF n h r t k w).1 = z1 at *
  generalize (askF n h r t k w).2.1 = z2 at *
  have a1 := chL (b := 2) (c := 1) (h := h) (r := r) R.len k1 R'.len ⟨trivial, ⟨trivial, trivial, trivial⟩, trivial⟩ ⟨trivial, trivial, trivial⟩
  have a2 := chR (b := 2) (c := 1) (st := st') kf ⟨trivial, ⟨trivial, trivial, trivial⟩, trivial⟩ ⟨trivial, trivial, trivial⟩
  have c1 := CG_len (b := 2) (c := 1) (h := h) (r := r) R.len
  have c2 := CG_len (b := 2) (c := 1) (h := h) (r := r) R'.len
  have c3 := CG_len (b := 2) (c := 1) (h := h') (r := r') R'.len
  have b1 := @CG_0 2 1 n st h r
  have b2 := @CG_0 2 1 n st' h r
  have b3 := @CG_0 2 1 n st' h' r'
  have hB := CG_nbs (b := 2) (c := 1) (N := 2 * n + 3) (h := h') (r := r') R'.len (Nat.le_refl _) (by omega) (by omega)
  rw [← c3] at hB
  have e0 : ∀ z : Int, decide (z = z) = true := fun z => decide_eq_true rfl
  generalize CG 2 1 n st h r = H1 at *
  generalize CG 2 1 n st' h r = H2 at *
  generalize CG 2 1 n st' h' r' = H3 at *
  have p1 := fun A L => gP H1 A L (2 * n + 3) c1
  have p2 := fun A L => gP H2 A L (2 * n + 3) c2
  have p3 := fun A L => gP H3 A L (2 * n + 3) c3
  cases z1
  all_goals
    refine calls_q (calls_of Try.func20 rfl (by kernel_rfl) (by kernel_rfl) (by rw [Try.ntmps20]; exact Nat.le_of_ble_eq_true rfl) (fun hH0 hA0 => ?_)); rw [Try.results20]
    (repeat' (first | (have hs := Mk.out hs; (try simp only [decide_eq_true_eq, decide_eq_false_iff_not, Bool.not_eq_true, Bool.not_eq_false, Bool.not_true, Bool.not_false, Bool.not_eq_eq_eq_not, Bool.and_eq_true, Bool.or_eq_true, beq_iff_eq, bne_iff_ne, beq_eq_false_iff_ne, ne_eq, Classical.not_not, not_true_eq_false, not_false_eq_true, forall_const, Bool.false_eq_true, false_implies, eq_self] at hs); (try (exfalso; omega)); (try simp (disch := omega) only [go_sem, b1, b2, b3, c1, c2, c3, p1, p2, p3, e0, hs])) | (refine z_seqr rfl ?_) | (refine z_seqd 4 [.q, .q, .q, .q, .q, .q, .q, .q, .q, .q, .q, .e, .q, .q, .q, .q, .q] rfl (by kernel_rfl) (by kernel_rfl) ?_) | (refine z_seqd 5 [.q, .q, .q, .q, .q, .q, .q, .q, .q, .q, .q, .e, .q, .q, .q, .q, .q] rfl (by kernel_rfl) (by kernel_rfl) ?_) | (refine z_seqd 8 [.q, .q, .q, .q, .q, .q, .q, .q, .q, .q, .q, .q, .q, .q] rfl (by kernel_rfl) (by kernel_rfl) ?_) | (refine z_seqd 9 [.q, .q, .q, .q, .q, .q, .q, .q, .q, .q, .q, .q, .q, .q] rfl (by kernel_rfl) (by kernel_rfl) ?_) | (refine z_seqd 12 [.q, .q, .q, .q, .q, .q, .q, .q, .q, .q] rfl (by kernel_rfl) (by kernel_rfl) ?_) | (refine z_seqd 13 [.q, .q, .q, .q, .q, .q, .q, .q, .q, .q, .q, .q, .q, .q, .e, .q, .q, .e] rfl (by kernel_rfl) (by kernel_rfl) ?_) | (refine w_seq rfl fun K hK => ?_) | (refine z_reg rfl ?_) | (refine z_cond rfl ?_) | (refine w_skip rfl ?_; ((repeat ((fail_if_success (refine hK _ _ (cl_id ?_))); clear hK)); refine hK _ _ (cl_id ?_); clear hK)) | (refine w_ret rfl ?_; (try dsimp only [anorm, ablock, astay]); refine z_end ?_) | (refine z_end0 ?_) | (refine w_block rfl ?_) | (refine w_scope rfl ?_) | (refine w_label rfl ?_; ((repeat ((fail_if_success (refine hK _ _ (cl_id ?_))); clear hK)); refine hK _ _ (cl_id ?_); clear hK)) | (refine w_exit rfl ?_; (try dsimp only [anorm, ablock, astay]); (try simp only [reduceIte, ↓reduceIte, Nat.reduceEqDiff]); ((repeat ((fail_if_success (refine hK _ _ (cl_id ?_))); clear hK)); refine hK _ _ (cl_id ?_); clear hK)) | (refine jend_go [(18, [4]), (6, [4]), (5, [5, 6, 7, 8]), (4, [0, 3, 5, 6]), (10, [4]), (9, [9, 10, 11, 12]), (8, [0, 3, 9, 10]), (17, []), (16, [3, 14]), (15, [4]), (14, [3, 13, 14, 121]), (13, [0, 3, 13, 14]), (12, [0, 3, 13, 14]), (2, [4]), (11, [0, 3, 91]), (7, [0, 3, 16, 57]), (3, [0, 3, 16, 17]), (1, [0, 3, 16]), (0, [0, 3])] ?_; simp only [tabAt_cons, sel_nil, sel_cons, put_at, ofl_cons, ofl_nil, T0_at, List.getElem?_cons_zero, List.getElem?_cons_succ, List.getElem?_nil, Option.getD_some, Option.getD_none, reduceIte, ↓reduceIte, Nat.reduceEqDiff]; refine jl_go ?_) | simp (disch := omega) only [go_sem, b1, b2, b3, c1, c2, c3, p1, p2, p3, e0] | (refine jc_t ?_) | (refine jc_f ?_) | (refine jx rfl ?_) | (refine jx (fun _ => rfl) ?_) | (refine jxg ⟨rfl, rfl⟩ ?_) | (refine jxh ⟨rfl, rfl⟩ ?_) | (refine jx ⟨by (first | omega | (simp; done) | (simp; omega)), rfl⟩ ?_) | (refine jx (fun _ => ⟨by (first | omega | (simp; done) | (simp; omega)), rfl⟩) ?_) | (refine jxg ⟨by (first | omega | (simp; done) | (simp; omega)), rfl, rfl⟩ ?_) | (refine jxh ⟨by (first | omega | (simp; done) | (simp; omega)), rfl, rfl⟩ ?_) | (refine jx ⟨by (first | omega | (simp; done) | (simp; omega)), by (first | omega | (simp; done) | (simp; omega)), rfl⟩ ?_) | (apply jxhR (a1 _)) | (apply jxhR (a2 _)) | (refine And.intro (by (first | omega | (simp; done) | (simp; omega))) ?_) | (refine mc_b (fun hs => ?_) fun hs => ?_) | (refine mg_st (fun hs => ?_) fun hs => ?_) | (refine mg_sf (fun hs => ?_) fun hs => ?_) | (refine mall_s (fun hs => ?_) fun hs => ?_) | (refine malln_s (fun hs => ?_) fun hs => ?_) | (refine mpk_s (fun hs => ?_) fun hs => ?_) | ((repeat ((fail_if_success (refine hK _ _ (cl_id ?_))); clear hK)); refine hK _ _ (cl_id ?_); clear hK)))
    exact end_S hB 0 (by omega) ⟨rfl, rfl⟩ ⟨trivial, Wk.refl _⟩
theorem step2_am (R : Rel n st h r) (hn : 1 ≤ n ∧ n ≤ 67) (ht : tot st ≤ 1000) (hl : h.length + r.length ≤ 1000) (t k : Int) (w : Bool) : ∃ st', (ACalls E0 20 [.ptr 0 0, .agg [.v (.int .i64 2), .v (.int .i64 t), .v (.int .i64 k), .v (.bool w)]] (CG 2 1 n st h r) fun x H' => x = .v (.bool true) ∧ H' = CG 2 1 n st' (giveF n h r t k).2.2.1 (giveF n h r t k).2.2.2) ∧ Rel n st' (giveF n h r t k).2.2.1 (giveF n h r t k).2.2.2 ∧ tot st' ≤ tot st ∧ (giveF n h r t k).2.2.1.length + (giveF n h r t k).2.2.2.length ≤ h.length + r.length := by
  obtain ⟨st', k1, R', k2, k3, k4⟩ := R.give hn ht t k
  refine ⟨st', ?_, R', k2, k3⟩
  have kf := fgive_am n h r t k (by omega) (by omega)
  generalize (giveF n h r t k).2.2.1 = h' at *
  generalize (giveF n h r t k).2.2.2 = r' at *
  generalize (giveF n h r t k).1 = z1 at *
  generalize (giveF n h r t k).2.1 = z2 at *
  have a1 := chL (b := 2) (c := 1) (h := h) (r := r) R.len k1 R'.len ⟨trivial, trivial, trivial⟩ ⟨of_eq_true (cels_nbss _), trivial, trivial⟩
  have a2 := chR (b := 2) (c := 1) (st := st') kf ⟨trivial, trivial, trivial⟩ ⟨of_eq_true (cels_nbss _), trivial, trivial⟩
  have s1 := sameI_am z1 (by omega)
  have c1 := CG_len (b := 2) (c := 1) (h := h) (r := r) R.len
  have c2 := CG_len (b := 2) (c := 1) (h := h) (r := r) R'.len
  have c3 := CG_len (b := 2) (c := 1) (h := h') (r := r') R'.len
  have b1 := @CG_0 2 1 n st h r
  have b2 := @CG_0 2 1 n st' h r
  have b3 := @CG_0 2 1 n st' h' r'
  have hB := CG_nbs (b := 2) (c := 1) (N := 2 * n + 3) (h := h') (r := r') R'.len (Nat.le_refl _) (by omega) (by omega)
  rw [← c3] at hB
  have e0 : ∀ z : Int, decide (z = z) = true := fun z => decide_eq_true rfl
  generalize CG 2 1 n st h r = H1 at *
  generalize CG 2 1 n st' h r = H2 at *
  generalize CG 2 1 n st' h' r' = H3 at *
  have p1 := fun A L => gP H1 A L (2 * n + 3) c1
  have p2 := fun A L => gP H2 A L (2 * n + 3) c2
  have p3 := fun A L => gP H3 A L (2 * n + 3) c3
  refine calls_q (calls_of Try.func20 rfl (by kernel_rfl) (by kernel_rfl) (by rw [Try.ntmps20]; exact Nat.le_of_ble_eq_true rfl) (fun hH0 hA0 => ?_)); rw [Try.results20]
  (repeat' (first | (have hs := Mk.out hs; (try simp only [decide_eq_true_eq, decide_eq_false_iff_not, Bool.not_eq_true, Bool.not_eq_false, Bool.not_true, Bool.not_false, Bool.not_eq_eq_eq_not, Bool.and_eq_true, Bool.or_eq_true, beq_iff_eq, bne_iff_ne, beq_eq_false_iff_ne, ne_eq, Classical.not_not, not_true_eq_false, not_false_eq_true, forall_const, Bool.false_eq_true, false_implies, eq_self] at hs); (try (exfalso; omega)); (try simp (disch := omega) only [go_sem, b1, b2, b3, c1, c2, c3, p1, p2, p3, e0, hs])) | (refine z_seqr rfl ?_) | (refine z_seqd 4 [.q, .q, .q, .q, .q, .q, .q, .q, .q, .q, .q, .q, .q, .q, .q, .q, .q] rfl (by kernel_rfl) (by kernel_rfl) ?_) | (refine z_seqd 5 [.q, .q, .q, .q, .q, .q, .q, .q, .q, .q, .q, .q, .q, .q, .q, .q, .q] rfl (by kernel_rfl) (by kernel_rfl) ?_) | (refine z_seqd 8 [.q, .q, .q, .q, .q, .q, .q, .q, .e, .q, .q, .q, .q, .q] rfl (by kernel_rfl) (by kernel_rfl) ?_) | (refine z_seqd 9 [.q, .q, .q, .q, .q, .q, .q, .q, .e, .q, .q, .q, .q, .q] rfl (by kernel_rfl) (by kernel_rfl) ?_) | (refine z_seqd 12 [.q, .q, .q, .q, .q, .q, .q, .q, .q, .q] rfl (by kernel_rfl) (by kernel_rfl) ?_) | (refine z_seqd 13 [.q, .q, .q, .q, .q, .q, .q, .q, .q, .q, .q, .q, .q, .q, .e, .q, .q, .e] rfl (by kernel_rfl) (by kernel_rfl) ?_) | (refine w_seq rfl fun K hK => ?_) | (refine z_reg rfl ?_) | (refine z_cond rfl ?_) | (refine w_skip rfl ?_; ((repeat ((fail_if_success (refine hK _ _ (cl_id ?_))); clear hK)); refine hK _ _ (cl_id ?_); clear hK)) | (refine w_ret rfl ?_; (try dsimp only [anorm, ablock, astay]); refine z_end ?_) | (refine z_end0 ?_) | (refine w_block rfl ?_) | (refine w_scope rfl ?_) | (refine w_label rfl ?_; ((repeat ((fail_if_success (refine hK _ _ (cl_id ?_))); clear hK)); refine hK _ _ (cl_id ?_); clear hK)) | (refine w_exit rfl ?_; (try dsimp only [anorm, ablock, astay]); (try simp only [reduceIte, ↓reduceIte, Nat.reduceEqDiff]); ((repeat ((fail_if_success (refine hK _ _ (cl_id ?_))); clear hK)); refine hK _ _ (cl_id ?_); clear hK)) | (refine jend_go [(18, [4]), (6, [4]), (5, [5, 6, 7, 8]), (4, [0, 3, 5, 6]), (10, [4]), (9, [9, 10, 11, 12]), (8, [0, 3, 9, 10]), (17, []), (16, [3, 14]), (15, [4]), (14, [3, 13, 14, 121]), (13, [0, 3, 13, 14]), (12, [0, 3, 13, 14]), (2, [4]), (11, [0, 3, 91]), (7, [0, 3, 16, 57]), (3, [0, 3, 16, 17]), (1, [0, 3, 16]), (0, [0, 3])] ?_; simp only [tabAt_cons, sel_nil, sel_cons, put_at, ofl_cons, ofl_nil, T0_at, List.getElem?_cons_zero, List.getElem?_cons_succ, List.getElem?_nil, Option.getD_some, Option.getD_none, reduceIte, ↓reduceIte, Nat.reduceEqDiff]; refine jl_go ?_) | simp (disch := omega) only [go_sem, b1, b2, b3, c1, c2, c3, p1, p2, p3, e0] | (refine jc_t ?_) | (refine jc_f ?_) | (refine jx rfl ?_) | (refine jx (fun _ => rfl) ?_) | (refine jxg ⟨rfl, rfl⟩ ?_) | (refine jxh ⟨rfl, rfl⟩ ?_) | (refine jx ⟨by (first | omega | (simp; done) | (simp; omega)), rfl⟩ ?_) | (refine jx (fun _ => ⟨by (first | omega | (simp; done) | (simp; omega)), rfl⟩) ?_) | (refine jxg ⟨by (first | omega | (simp; done) | (simp; omega)), rfl, rfl⟩ ?_) | (refine jxh ⟨by (first | omega | (simp; done) | (simp; omega)), rfl, rfl⟩ ?_) | (refine jx ⟨by (first | omega | (simp; done) | (simp; omega)), by (first | omega | (simp; done) | (simp; omega)), rfl⟩ ?_) | (apply jxhR (a1 _)) | (apply jxhR (a2 _)) | ((first | apply zc (s1) [] | apply jxc (s1) [] | apply jxgc (s1) | apply jxhc (s1) [] | apply jxcl (s1)); (case ok => simp (disch := omega) only [go_sem, cok, sgOk, bcl, implies_true, b1, b2, b3, c1, c2, c3, p1, p2, p3, e0])) | (refine And.intro (by (first | omega | (simp; done) | (simp; omega))) ?_) | (refine mc_b (fun hs => ?_) fun hs => ?_) | (refine mg_st (fun hs => ?_) fun hs => ?_) | (refine mg_sf (fun hs => ?_) fun hs => ?_) | (refine mall_s (fun hs => ?_) fun hs => ?_) | (refine malln_s (fun hs => ?_) fun hs => ?_) | (refine mpk_s (fun hs => ?_) fun hs => ?_) | ((repeat ((fail_if_success (refine hK _ _ (cl_id ?_))); clear hK)); refine hK _ _ (cl_id ?_); clear hK)))
  exact end_S hB 0 (by omega) ⟨rfl, rfl⟩ ⟨trivial, Wk.refl _⟩
theorem step3_am (R : Rel n st h r) (hn : 1 ≤ n ∧ n ≤ 67) (ht : tot st ≤ 1000) (hl : h.length + r.length ≤ 1000) (t k : Int) (w : Bool) : ∃ st' h' r', st'.length = n ∧ ACalls E0 20 [.ptr 0 0, .agg [.v (.int .i64 3), .v (.int .i64 t), .v (.int .i64 k), .v (.bool w)]] (CG 2 1 n st h r) fun x H' => x = .v (.bool true) ∧ H' = FH n st' h' r' (some (.obj [.v (.int .i64 3), .v (.int .i64 t), .v (.int .i64 k), .v (.bool w)])) st h r := by
  obtain ⟨st', k1, R', k2, k3⟩ := R.ask hn ht t k w
  have hrow : ∀ i, (lk st i).row.length ≤ 1000000 := fun i => by have := tot_ge st i; omega
  have kf := fask_am n h r t k w (by omega) (by omega)
  generalize (askF n h r t k w).2.2.1 = h' at *
  generalize (askF n h r t k w).2.2.2 = r' at *
  generalize (askF n h r t k w).1 = z1 at *
  generalize (askF n h r t k w).2.1 = z2 at *
  refine ⟨st', h', r', R'.len, ?_⟩
  have hst := R.len
  have f1 := fun Y => chFork (b := 2) (c := 1) (h := h) (r := r) (st := st) R.len (lfork_am st (by omega) (by omega) hrow fun i hi => (R.inv.ok i hi).nd) Y
  have f2 := fun Y => chForkR (b := 2) (c := 1) (n := n) (st := st) (h := h) (r := r) Y (by omega) (by omega)
  have a1 := chL (b := 2 * n + 4) (c := 4 * n + 5) (h := h) (r := r) R.len k1 R'.len ⟨trivial, ⟨trivial, trivial, trivial⟩, trivial⟩ ⟨trivial, trivial, trivial⟩
  have a2 := chR (b := 2 * n + 4) (c := 4 * n + 5) (st := st') kf ⟨trivial, ⟨trivial, trivial, trivial⟩, trivial⟩ ⟨trivial, trivial, trivial⟩
  have c0 := CG_len (b := 2) (c := 1) (h := h) (r := r) R.len
  have c1 := CG_len (b := 2 * n + 4) (c := 4 * n + 5) (h := h) (r := r) R.len
  have c2 := CG_len (b := 2 * n + 4) (c := 4 * n + 5) (h := h) (r := r) R'.len
  have c3 := CG_len (b := 2 * n + 4) (c := 4 * n + 5) (h := h') (r := r') R'.len
  have b0 := @CG_0 2 1 n st h r
  have bs1 := fun L => CG_s0 (b := 2) (c := 1) (n := n) (st := st) (h := h) (r := r) (2 * n + 4) 1 L
  have bs2 := fun L => CG_s0 (b := 2 * n + 4) (c := 1) (n := n) (st := st) (h := h) (r := r) (2 * n + 4) (4 * n + 5) L
  have bm := @CG_0 (2 * n + 4) 1 n st h r
  have b1 := @CG_0 (2 * n + 4) (4 * n + 5) n st h r
  have b2 := @CG_0 (2 * n + 4) (4 * n + 5) n st' h r
  have b3 := @CG_0 (2 * n + 4) (4 * n + 5) n st' h' r'
  have l2 := LHb_len (2 * n + 4) st
  have e0 : ∀ z : Int, decide (z = z) = true := fun z => decide_eq_true rfl
  have g1 : ∀ Y : Heap, Y.length = 1 → ACalls E0 24 [.ptr 2 0] (CG 2 1 n st h r ++ Y) fun x H' => x = .ptr (2 * n + 4) 0 ∧ H' = CG 2 1 n st h r ++ (Y ++ LHb (2 * n + 4) st) := fun Y hY => by
    have := f1 Y
    rw [List.length_append, c0, hY] at this
    exact this
  have g2 : ∀ Y : Heap, Y.length = 2 * n + 2 → ACalls E0 34 [.ptr 1 0] (CG 2 1 n st h r ++ Y) fun x H' => x = .ptr (4 * n + 5) 0 ∧ H' = CG 2 1 n st h r ++ (Y ++ [some (.obj [.v (.int .i64 (n : Int)), .sl 3 (cels h), .sl 3 (cels r)])]) := fun Y hY => by
    have := f2 Y
    rw [List.length_append, c0, hY, show 2 * n + 3 + (2 * n + 2) = 4 * n + 5 by omega] at this
    exact this
  clear f1 f2
  unfold FH
  generalize CG 2 1 n st h r = H0 at *
  generalize CG (2 * n + 4) 1 n st h r = Hm at *
  generalize CG (2 * n + 4) (4 * n + 5) n st h r = H1 at *
  generalize CG (2 * n + 4) (4 * n + 5) n st' h r = H2 at *
  generalize CG (2 * n + 4) (4 * n + 5) n st' h' r' = H3 at *
  generalize LHb (2 * n + 4) st = Z at *
  have p0 := fun A L => gP H0 A L (2 * n + 3) c0
  have p1 := fun A L => gP H1 A L (2 * n + 3) c1
  have p2 := fun A L => gP H2 A L (2 * n + 3) c2
  have p3 := fun A L => gP H3 A L (2 * n + 3) c3
  have q1 := g1 [some (.obj [.v (.int .i64 3), .v (.int .i64 t), .v (.int .i64 k), .v (.bool w)])] rfl
  have q2 := g2 (some (.obj [.v (.int .i64 3), .v (.int .i64 t), .v (.int .i64 k), .v (.bool w)]) :: Z) (by rw [List.length_cons, l2]; omega)
  refine calls_q (calls_of Try.func20 rfl (by kernel_rfl) (by kernel_rfl) (by rw [Try.ntmps20]; exact Nat.le_of_ble_eq_true rfl) (fun hH0 hA0 => ?_)); rw [Try.results20]
  (repeat' (first | (have hs := Mk.out hs; (try simp only [decide_eq_true_eq, decide_eq_false_iff_not, Bool.not_eq_true, Bool.not_eq_false, Bool.not_true, Bool.not_false, Bool.not_eq_eq_eq_not, Bool.and_eq_true, Bool.or_eq_true, beq_iff_eq, bne_iff_ne, beq_eq_false_iff_ne, ne_eq, Classical.not_not, not_true_eq_false, not_false_eq_true, forall_const, Bool.false_eq_true, false_implies, eq_self] at hs); (try (exfalso; omega)); (try simp (disch := omega) only [go_sem, b0, bs1, bs2, bm, b1, b2, b3, c0, c1, c2, c3, p0, p1, p2, p3, e0, hs])) | (refine z_seqr rfl ?_) | (refine z_seqd 4 [.q, .q, .q, .q, .q, .q, .q, .q, .q, .q, .q, .q, .q, .q, .q, .q, .q] rfl (by kernel_rfl) (by kernel_rfl) ?_) | (refine z_seqd 5 [.q, .q, .q, .q, .q, .q, .q, .q, .q, .q, .q, .q, .q, .q, .q, .q, .q] rfl (by kernel_rfl) (by kernel_rfl) ?_) | (refine z_seqd 8 [.q, .q, .q, .q, .q, .q, .q, .q, .q, .q, .q, .q, .q, .q] rfl (by kernel_rfl) (by kernel_rfl) ?_) | (refine z_seqd 9 [.q, .q, .q, .q, .q, .q, .q, .q, .q, .q, .q, .q, .q, .q] rfl (by kernel_rfl) (by kernel_rfl) ?_) | (refine z_seqd 12 [.q, .q, .q, .q, .q, .q, .q, .q, .q, .q] rfl (by kernel_rfl) (by kernel_rfl) ?_) | (refine z_seqd 13 [.q, .q, .q, .q, .q, (.m 0), (.f [0]), .q, .q, .q, (.m 0), .e, .q, .q, .e, .q, .q, .e] rfl (by kernel_rfl) (by kernel_rfl) ?_) | (refine w_seq rfl fun K hK => ?_) | (refine z_reg rfl ?_) | (refine z_cond rfl ?_) | (refine w_skip rfl ?_; ((repeat ((fail_if_success (refine hK _ _ (cl_id ?_))); clear hK)); refine hK _ _ (cl_id ?_); clear hK)) | (refine w_ret rfl ?_; (try dsimp only [anorm, ablock, astay]); refine z_end ?_) | (refine z_end0 ?_) | (refine w_block rfl ?_) | (refine w_scope rfl ?_) | (refine w_label rfl ?_; ((repeat ((fail_if_success (refine hK _ _ (cl_id ?_))); clear hK)); refine hK _ _ (cl_id ?_); clear hK)) | (refine w_exit rfl ?_; (try dsimp only [anorm, ablock, astay]); (try simp only [reduceIte, ↓reduceIte, Nat.reduceEqDiff]); ((repeat ((fail_if_success (refine hK _ _ (cl_id ?_))); clear hK)); refine hK _ _ (cl_id ?_); clear hK)) | (refine jend_go [(18, [4]), (6, [4]), (5, [5, 6, 7, 8]), (4, [0, 3, 5, 6]), (10, [4]), (9, [9, 10, 11, 12]), (8, [0, 3, 9, 10]), (17, []), (16, [3, 14]), (15, [4]), (14, [3, 13, 14, 121]), (13, [0, 3, 13, 14]), (12, [0, 3, 13, 14]), (2, [4]), (11, [0, 3, 91]), (7, [0, 3, 16, 57]), (3, [0, 3, 16, 17]), (1, [0, 3, 16]), (0, [0, 3])] ?_; simp only [tabAt_cons, sel_nil, sel_cons, put_at, ofl_cons, ofl_nil, T0_at, List.getElem?_cons_zero, List.getElem?_cons_succ, List.getElem?_nil, Option.getD_some, Option.getD_none, reduceIte, ↓reduceIte, Nat.reduceEqDiff]; refine jl_go ?_) | simp (disch := omega) only [go_sem, b0, bs1, bs2, bm, b1, b2, b3, c0, c1, c2, c3, p0, p1, p2, p3, e0] | (refine jc_t ?_) | (refine jc_f ?_) | (refine jx rfl ?_) | (refine jx (fun _ => rfl) ?_) | (refine jxg ⟨rfl, rfl⟩ ?_) | (refine jxh ⟨rfl, rfl⟩ ?_) | (refine jx ⟨by (first | omega | (simp; done) | (simp; omega)), rfl⟩ ?_) | (refine jx (fun _ => ⟨by (first | omega | (simp; done) | (simp; omega)), rfl⟩) ?_) | (refine jxg ⟨by (first | omega | (simp; done) | (simp; omega)), rfl, rfl⟩ ?_) | (refine jxh ⟨by (first | omega | (simp; done) | (simp; omega)), rfl, rfl⟩ ?_) | (refine jx ⟨by (first | omega | (simp; done) | (simp; omega)), by (first | omega | (simp; done) | (simp; omega)), rfl⟩ ?_) | (apply jxhR q1) | (apply jxhR q2) | (refine z_ret ((a1 _)) ?_) | (refine z_ret ((a2 _)) ?_) | (refine And.intro (by (first | omega | (simp; done) | (simp; omega))) ?_) | (refine mc_b (fun hs => ?_) fun hs => ?_) | (refine mg_st (fun hs => ?_) fun hs => ?_) | (refine mg_sf (fun hs => ?_) fun hs => ?_) | (refine mall_s (fun hs => ?_) fun hs => ?_) | (refine malln_s (fun hs => ?_) fun hs => ?_) | (refine mpk_s (fun hs => ?_) fun hs => ?_) | ((repeat ((fail_if_success (refine hK _ _ (cl_id ?_))); clear hK)); refine hK _ _ (cl_id ?_); clear hK)))
  exact cl_id ⟨rfl, rfl⟩
theorem step4_am (hst : st.length = n) (q t k : Int) (w : Bool) (h1 : q ≠ 1) (h2 : q ≠ 2) (h3 : q ≠ 3) : ACalls E0 20 [.ptr 0 0, .agg [.v (.int .i64 q), .v (.int .i64 t), .v (.int .i64 k), .v (.bool w)]] (CG 2 1 n st h r) fun x H' => x = .v (.bool true) ∧ H' = CG 2 1 n st h r := by
  have c1 := CG_len (b := 2) (c := 1) (h := h) (r := r) hst
  have hB := CG_nbs (b := 2) (c := 1) (N := 2 * n + 3) (h := h) (r := r) hst (Nat.le_refl _) (by omega) (by omega)
  rw [← c1] at hB
  generalize CG 2 1 n st h r = H1 at *
  have p1 := fun A L => gP H1 A L (2 * n + 3) c1
  refine calls_q (calls_of Try.func20 rfl (by kernel_rfl) (by kernel_rfl) (by rw [Try.ntmps20]; exact Nat.le_of_ble_eq_true rfl) (fun hH0 hA0 => ?_)); rw [Try.results20]
  (repeat' (first | (have hs := Mk.out hs; (try simp only [decide_eq_true_eq, decide_eq_false_iff_not, Bool.not_eq_true, Bool.not_eq_false, Bool.not_true, Bool.not_false, Bool.not_eq_eq_eq_not, Bool.and_eq_true, Bool.or_eq_true, beq_iff_eq, bne_iff_ne, beq_eq_false_iff_ne, ne_eq, Classical.not_not, not_true_eq_false, not_false_eq_true, forall_const, Bool.false_eq_true, false_implies, eq_self] at hs); (try (exfalso; omega)); (try simp (disch := omega) only [go_sem, c1, p1, h1, h2, h3, hs])) | (refine z_seqr rfl ?_) | (refine z_seqd 4 [.q, .q, .q, .q, .q, .q, .q, .q, .q, .q, .q, .q, .q, .q, .q, .q, .q] rfl (by kernel_rfl) (by kernel_rfl) ?_) | (refine z_seqd 5 [.q, .q, .q, .q, .q, .q, .q, .q, .q, .q, .q, .q, .q, .q, .q, .q, .q] rfl (by kernel_rfl) (by kernel_rfl) ?_) | (refine z_seqd 8 [.q, .q, .q, .q, .q, .q, .q, .q, .q, .q, .q, .q, .q, .q] rfl (by kernel_rfl) (by kernel_rfl) ?_) | (refine z_seqd 9 [.q, .q, .q, .q, .q, .q, .q, .q, .q, .q, .q, .q, .q, .q] rfl (by kernel_rfl) (by kernel_rfl) ?_) | (refine z_seqd 12 [.q, .q, .q, .q, .q, .q, .q, .q, .q, .q] rfl (by kernel_rfl) (by kernel_rfl) ?_) | (refine z_seqd 13 [.q, .q, .q, .q, .q, .q, .q, .q, .q, .q, .q, .q, .q, .q, .e, .q, .q, .e] rfl (by kernel_rfl) (by kernel_rfl) ?_) | (refine w_seq rfl fun K hK => ?_) | (refine z_reg rfl ?_) | (refine z_cond rfl ?_) | (refine w_skip rfl ?_; ((repeat ((fail_if_success (refine hK _ _ (cl_id ?_))); clear hK)); refine hK _ _ (cl_id ?_); clear hK)) | (refine w_ret rfl ?_; (try dsimp only [anorm, ablock, astay]); refine z_end ?_) | (refine z_end0 ?_) | (refine w_block rfl ?_) | (refine w_scope rfl ?_) | (refine w_label rfl ?_; ((repeat ((fail_if_success (refine hK _ _ (cl_id ?_))); clear hK)); refine hK _ _ (cl_id ?_); clear hK)) | (refine w_exit rfl ?_; (try dsimp only [anorm, ablock, astay]); (try simp only [reduceIte, ↓reduceIte, Nat.reduceEqDiff]); ((repeat ((fail_if_success (refine hK _ _ (cl_id ?_))); clear hK)); refine hK _ _ (cl_id ?_); clear hK)) | (refine jend_go [(18, [4]), (6, [4]), (5, [5, 6, 7, 8]), (4, [0, 3, 5, 6]), (10, [4]), (9, [9, 10, 11, 12]), (8, [0, 3, 9, 10]), (17, []), (16, [3, 14]), (15, [4]), (14, [3, 13, 14, 121]), (13, [0, 3, 13, 14]), (12, [0, 3, 13, 14]), (2, [4]), (11, [0, 3, 91]), (7, [0, 3, 16, 57]), (3, [0, 3, 16, 17]), (1, [0, 3, 16]), (0, [0, 3])] ?_; simp only [tabAt_cons, sel_nil, sel_cons, put_at, ofl_cons, ofl_nil, T0_at, List.getElem?_cons_zero, List.getElem?_cons_succ, List.getElem?_nil, Option.getD_some, Option.getD_none, reduceIte, ↓reduceIte, Nat.reduceEqDiff]; refine jl_go ?_) | simp (disch := omega) only [go_sem, c1, p1, h1, h2, h3] | (refine jc_t ?_) | (refine jc_f ?_) | (refine jx rfl ?_) | (refine jx (fun _ => rfl) ?_) | (refine jxg ⟨rfl, rfl⟩ ?_) | (refine jxh ⟨rfl, rfl⟩ ?_) | (refine jx ⟨by (first | omega | (simp; done) | (simp; omega)), rfl⟩ ?_) | (refine jx (fun _ => ⟨by (first | omega | (simp; done) | (simp; omega)), rfl⟩) ?_) | (refine jxg ⟨by (first | omega | (simp; done) | (simp; omega)), rfl, rfl⟩ ?_) | (refine jxh ⟨by (first | omega | (simp; done) | (simp; omega)), rfl, rfl⟩ ?_) | (refine jx ⟨by (first | omega | (simp; done) | (simp; omega)), by (first | omega | (simp; done) | (simp; omega)), rfl⟩ ?_) | (refine And.intro (by (first | omega | (simp; done) | (simp; omega))) ?_) | (refine mc_b (fun hs => ?_) fun hs => ?_) | (refine mg_st (fun hs => ?_) fun hs => ?_) | (refine mg_sf (fun hs => ?_) fun hs => ?_) | (refine mall_s (fun hs => ?_) fun hs => ?_) | (refine malln_s (fun hs => ?_) fun hs => ?_) | (refine mpk_s (fun hs => ?_) fun hs => ?_) | ((repeat ((fail_if_success (refine hK _ _ (cl_id ?_))); clear hK)); refine hK _ _ (cl_id ?_); clear hK)))
  exact end_S hB 0 (by omega) ⟨rfl, rfl⟩ ⟨trivial, Wk.refl _⟩
end
end Go.Proofs.Ytckppkimjiifpaa
