/- The package task: a plan's steps. No condition but bounds of lengths. -/
import Derived.Shelf.Abstract
import Derived.Test.YtjfoicebdjonfaaQRg
import Derived.Test.YtjfoicebdjonfaaQb2
import Derived.Test.YtjfoicebdjonfaaQgs
set_option linter.unusedSectionVars false
set_option linter.unusedVariables false
set_option linter.unusedSimpArgs false
set_option linter.deprecated false
namespace Go.Proofs.Ytjfoicebdjonfaa
open Go.RowKit Go.Cx Go.Am
set_option maxRecDepth 8000
set_option maxHeartbeats 2000000
attribute [local irreducible] ACalls jcall jsame jex jexg jexh jguard jconv jload jpart jstore jbin jslice jidxA jidx jfield jfieldA jbuild jbuildS jmake jappend jlen jpick jres jcnd jcopy jcap jborn jdraw jops jop jstr jstrc jlive jend jlenM
attribute [local go_sem] reduceIte Nat.reduceEqDiff Nat.reduceAdd Nat.reduceMul Nat.reduceLT Nat.reduceLeDiff Nat.reduceSub Int.reduceLT Int.reduceLE Int.reduceToNat Int.reduceNeg Int.reduceAdd Int.reduceSub UInt8.reduceToNat Int.reduceEq reduceCtorEq Int.reducePow Int.reduceMul Nat.reducePow E0
attribute [local go_sem ↓] reduceIte
attribute [local go_sem high] chunks_bvs
attribute [local go_sem] bmap nbB gfB
attribute [local go_sem ←] List.map_take List.map_drop

def HsP (st : List (Int × Int × Bool)) : Heap := [some (.obj [.hs 1 3 0 st.length]), some (.row true 3 (cels st))]
def unU (pre : List (Int × Int × Bool)) : List (Int × Int × Bool) := pre.map fun x => (4, x.2)
def lkS (l : List (Int × Bool)) : List (Int × Int × Bool) := l.map fun x => (2, x)
def planS (l : List (Int × Bool)) : List (Int × Int × Bool) := lkS l ++ [(3, 0, false)] ++ l.reverse.map fun x => (4, x)
theorem unU_rev (l : List (Int × Bool)) : unU (revU l l.length) = l.reverse.map fun x => (4, x) := by
  refine List.ext_getElem (by simp [unU, revU]) fun i h1 h2 => ?_
  have hi : i < l.length := by simpa [unU, revU] using h1
  have h3 : l.length - 1 - i < l.length := by omega
  simp only [unU, revU, List.getElem_map, List.getElem_range, List.getElem_reverse]
  rw [gt_eq h3]
theorem lkS_snoc {l : List (Int × Bool)} {i : Nat} (h : i < l.length) : lkS (l.take (i + 1)) = lkS (l.take i) ++ [(2, (gt l i).1, (gt l i).2)] := by
  rw [take_gt h]; simp [lkS]
theorem alone_am : ACalls E0 32 [] [] fun r H' => r = .sl 3 (cels [((3 : Int), (0 : Int), false)]) ∧ H' = [] := by
  refine ACalls.cold (L0 := [some (.row true 3 (cels [((3 : Int), (0 : Int), false)]))]) (r0 := .hs 0 3 0 1) ?_ 1 _ ⟨by (simp (disch := omega) only [go_sem]), Wk.of (frzC (by simp) rfl rfl)⟩
  refine calls_q (calls_of Try.func32 rfl (by kernel_rfl) (by kernel_rfl) (by rw [Try.ntmps32]; exact Nat.le_of_ble_eq_true rfl) (fun hH0 hA0 => ?_)); rw [Try.results32]
  (repeat' (first | (have hs := Mk.out hs; (try simp only [decide_eq_true_eq, decide_eq_false_iff_not, Bool.not_eq_true, Bool.not_eq_false, Bool.not_true, Bool.not_false, Bool.not_eq_eq_eq_not, Bool.and_eq_true, Bool.or_eq_true, beq_iff_eq, bne_iff_ne, beq_eq_false_iff_ne, ne_eq, Classical.not_not, not_true_eq_false, not_false_eq_true, forall_const, Bool.false_eq_true, false_implies, eq_self] at hs); (try (exfalso; omega)); (try simp (disch := omega) only [go_sem, hs])) | (refine z_seqr rfl ?_) | (refine w_seq rfl fun K hK => ?_) | (refine z_reg rfl ?_) | (refine z_cond rfl ?_) | (refine w_skip rfl ?_; ((repeat ((fail_if_success (refine hK _ _ (cl_id ?_))); clear hK)); refine hK _ _ (cl_id ?_); clear hK)) | (refine w_ret rfl ?_; (try dsimp only [anorm, ablock, astay]); refine z_end ?_) | (refine z_end0 ?_) | (refine w_block rfl ?_) | (refine w_scope rfl ?_) | (refine w_label rfl ?_; ((repeat ((fail_if_success (refine hK _ _ (cl_id ?_))); clear hK)); refine hK _ _ (cl_id ?_); clear hK)) | (refine w_exit rfl ?_; (try dsimp only [anorm, ablock, astay]); (try simp only [reduceIte, ↓reduceIte, Nat.reduceEqDiff]); ((repeat ((fail_if_success (refine hK _ _ (cl_id ?_))); clear hK)); refine hK _ _ (cl_id ?_); clear hK)) | (refine jend_go [(1, [0]), (0, [])] ?_; simp only [tabAt_cons, sel_nil, sel_cons, put_at, ofl_cons, ofl_nil, T0_at, List.getElem?_cons_zero, List.getElem?_cons_succ, List.getElem?_nil, Option.getD_some, Option.getD_none, reduceIte, ↓reduceIte, Nat.reduceEqDiff]; refine jl_go ?_) | simp (disch := omega) only [go_sem] | (refine jc_t ?_) | (refine jc_f ?_) | (refine And.intro (by (first | omega | (simp; done) | (simp; omega))) ?_) | (refine mc_b (fun hs => ?_) fun hs => ?_) | (refine mg_st (fun hs => ?_) fun hs => ?_) | (refine mg_sf (fun hs => ?_) fun hs => ?_) | (refine mall_s (fun hs => ?_) fun hs => ?_) | (refine malln_s (fun hs => ?_) fun hs => ?_) | (refine mpk_s (fun hs => ?_) fun hs => ?_) | ((repeat ((fail_if_success (refine hK _ _ (cl_id ?_))); clear hK)); refine hK _ _ (cl_id ?_); clear hK)))
  refine end_q [0] rfl (by decide) (by simp) ?_ ⟨rfl, rfl⟩ ?_
  · (simp (disch := omega) only [go_sem])
    rfl
  · (simp (disch := omega) only [go_sem])
theorem backward_am (l : List (Int × Bool)) : ACalls E0 81 [.sl 2 (cels l)] [] fun r H' => r = .fn 89 [] [.ptr 0 0] ∧ H' = [some (.obj [.sl 2 (cels l)])] := by
  refine calls_q (calls_of Try.func81 rfl (by kernel_rfl) (by kernel_rfl) (by rw [Try.ntmps81]; exact Nat.le_of_ble_eq_true rfl) (fun hH0 hA0 => ?_)); rw [Try.results81]
  (repeat' (first | (have hs := Mk.out hs; (try simp only [decide_eq_true_eq, decide_eq_false_iff_not, Bool.not_eq_true, Bool.not_eq_false, Bool.not_true, Bool.not_false, Bool.not_eq_eq_eq_not, Bool.and_eq_true, Bool.or_eq_true, beq_iff_eq, bne_iff_ne, beq_eq_false_iff_ne, ne_eq, Classical.not_not, not_true_eq_false, not_false_eq_true, forall_const, Bool.false_eq_true, false_implies, eq_self] at hs); (try (exfalso; omega)); (try simp (disch := omega) only [go_sem, hs])) | (refine z_seqr rfl ?_) | (refine w_seq rfl fun K hK => ?_) | (refine z_reg rfl ?_) | (refine z_cond rfl ?_) | (refine w_skip rfl ?_; ((repeat ((fail_if_success (refine hK _ _ (cl_id ?_))); clear hK)); refine hK _ _ (cl_id ?_); clear hK)) | (refine w_ret rfl ?_; (try dsimp only [anorm, ablock, astay]); refine z_end ?_) | (refine z_end0 ?_) | (refine w_block rfl ?_) | (refine w_scope rfl ?_) | (refine w_label rfl ?_; ((repeat ((fail_if_success (refine hK _ _ (cl_id ?_))); clear hK)); refine hK _ _ (cl_id ?_); clear hK)) | (refine w_exit rfl ?_; (try dsimp only [anorm, ablock, astay]); (try simp only [reduceIte, ↓reduceIte, Nat.reduceEqDiff]); ((repeat ((fail_if_success (refine hK _ _ (cl_id ?_))); clear hK)); refine hK _ _ (cl_id ?_); clear hK)) | (refine jend_go [(1, [2]), (0, [1])] ?_; simp only [tabAt_cons, sel_nil, sel_cons, put_at, ofl_cons, ofl_nil, T0_at, List.getElem?_cons_zero, List.getElem?_cons_succ, List.getElem?_nil, Option.getD_some, Option.getD_none, reduceIte, ↓reduceIte, Nat.reduceEqDiff]; refine jl_go ?_) | simp (disch := omega) only [go_sem] | (refine jc_t ?_) | (refine jc_f ?_) | (refine And.intro (by (first | omega | (simp; done) | (simp; omega))) ?_) | (refine mc_b (fun hs => ?_) fun hs => ?_) | (refine mg_st (fun hs => ?_) fun hs => ?_) | (refine mg_sf (fun hs => ?_) fun hs => ?_) | (refine mall_s (fun hs => ?_) fun hs => ?_) | (refine malln_s (fun hs => ?_) fun hs => ?_) | (refine mpk_s (fun hs => ?_) fun hs => ?_) | ((repeat ((fail_if_success (refine hK _ _ (cl_id ?_))); clear hK)); refine hK _ _ (cl_id ?_); clear hK)))
  refine end_q [0] rfl (by decide) (by simp) ?_ ⟨rfl, rfl⟩ ?_
  · (simp (disch := omega) only [go_sem])
  · (simp (disch := omega) only [go_sem])
theorem hsP_gf (st : List (Int × Int × Bool)) : gfH (HsP st) := ⟨⟨trivial, trivial⟩, ⟨rfl, of_eq_true (cels_gfss st)⟩, trivial⟩
theorem hsP_id (st : List (Int × Int × Bool)) : ∀ (k : Nat) (B : Blk), (HsP st)[k]? = some (some B) → bmap (fun r => r) B = B := fun k B hk => by
  match k with
  | 0 => cases hk; rfl
  | 1 => cases hk; simp only [bmap, cels_amapss]
  | k + 2 => cases hk
theorem hsP_nb (st : List (Int × Int × Bool)) : ∀ (k : Nat) (B : Blk), (HsP st)[k]? = some (some B) → nbB 2 B := fun k B hk => by
  match k with
  | 0 => cases hk; exact ⟨(by decide : 1 < 2), trivial⟩
  | 1 => cases hk; exact of_eq_true (cels_nbss st)
  | k + 2 => cases hk
theorem hsP_free {M : Mem} {W : World} {st : List (Int × Int × Bool)} (hG : Gam E0.gl M W (HsP st)) (hne : 0 < st.length) {b : Nat} {cur : Array Value} {t : TypeId} {fr : Nat × Nat} (hb : W.heap[b]? = some (.cells cur t fr)) (hc : cur.size = 2) : ∀ r B, (HsP st)[r]? = some (some B) → M.blk r ≠ some b := by
  intro r B hr e
  have h := hG.blks r B hr
  match r with
  | 0 =>
    cases hr
    obtain ⟨b', cur', t', fr', h1, h2, _, _, h5⟩ := h
    rw [h1] at e
    cases e
    rw [hb] at h2
    cases h2
    have := VRs.len h5
    simp at this
    omega
  | 1 =>
    cases hr
    rcases h with ⟨h1, _⟩ | ⟨b', cur', t', fr', us, h1, h2, _, _, h5, h6, _⟩
    · rw [h1] at e; cases e
    · rw [h1] at e
      cases e
      rw [hb] at h2
      cases h2
      have k1 := VRss.len h5
      rw [cels_len] at k1
      have k2 := congrArg List.length h6
      have k3 : cur.toList.length = cur.size := Array.length_toList
      simp only [List.length_take] at k2
      omega
  | r + 2 => cases hr
theorem hsP_no (u : List (Int × Int × Bool)) : noMaps (HsP u) := ⟨trivial, trivial, trivial⟩
theorem hsP_no2 (u : List (Int × Int × Bool)) (cs : List AV) : noMaps (HsP u ++ [some (Blk.obj cs)]) := ⟨trivial, trivial, trivial, trivial⟩
/-- What stands between two rounds. -/
def IP (Mi : Mem) (w1 : World) (st : List (Int × Int × Bool)) (pre : List (Int × Int × Bool)) (W : World) : Prop :=
  ∃ M, M.G = Mi.G ∧ Gam E0.gl M W (HsP (st ++ unU pre)) ∧ ExtB 1 Mi w1 (HsP st) M W (HsP (st ++ unU pre))
/-- .. and the loop's variable. -/
def AP (N : Nat) (w1 : World) (v3 : Value) (x : Int × Int × Bool) (a' : Act) (W : World) : Prop :=
  ∃ b t fr, w1.heap.size ≤ b ∧ a'.tmps.size = N ∧ a'.tmps.getD 3 undef = v3 ∧ a'.tmps.getD 7 undef = .pointer (some ⟨b, 0, none⟩) ∧ W.heap[b]? = some (.cells #[.int .i64 x.2.1, .bool x.2.2] t fr) ∧ (fr = (0, 0) ∨ 2 ≤ fr.1)
theorem ip_own {Mi : Mem} {w1 : World} {st : List (Int × Int × Bool)} (hin : ∀ b, Mi.G b → b < w1.heap.size) : OwnFrom w1.heap.size (IP Mi w1 st) := by
  rintro pre W W' row ⟨M, h1, h2, h3⟩ hg hr
  refine ⟨M, h1, h2.other hg (fun r e hb => ?_) (fun r e => ?_), h3.other hg fun r e => (hr r e).1⟩
  · rw [h1] at hb
    have := hin r hb
    have := (hr r e).1
    omega
  · obtain ⟨_, o, ho, hc⟩ := hr r e
    exact h2.notCells ho hc (hsP_no _)
theorem ap_own {N : Nat} {w1 : World} {v3 : Value} (x : Int × Int × Bool) (a' : Act) : OwnFrom w1.heap.size (fun (_ : Unit) W => AP N w1 v3 x a' W) := by
  rintro _ W W' row ⟨b, t, fr, h1, h2, h3, h4, h5, h6⟩ hg hr
  refine ⟨b, t, fr, h1, h2, h3, h4, (hg.block b (Array.getElem?_eq_some_iff.1 h5).1 (fun e => ?_)).trans h5, h6⟩
  obtain ⟨_, o, ho, hc⟩ := hr b e.symm
  rw [h5] at ho
  cases ho
  cases hc
/-- Behind some operations: what stands is said anew. -/
theorem ip_next {Mi M M' : Mem} {w1 W W' : World} {st u' : List (Int × Int × Bool)} {H0 H' : Heap} (hE : ExtB 1 Mi w1 (HsP st) M W H0) (h : ExtB 1 M W H0 M' W' H') (hn : 1 ≤ H'.length) (hG : Gam E0.gl M' W' H') {T : Nat → AV} {N : Nat} {a : Act} (hT : TR M' H'.length W' N T a) (hc : Cq E0 1 T H' (ofl []) (HsP u')) :
    ∃ M2, M2.G = Mi.G ∧ Gam E0.gl M2 W' (HsP u') ∧ ExtB 1 Mi w1 (HsP st) M2 W' (HsP u') := by
  obtain ⟨_, hc⟩ := hc hn
  obtain ⟨M3, g1, _, g3⟩ := hc M' W' N a hG hT
  have hE3 := (hE.trans h).trans g3
  exact ⟨{ M3 with G := Mi.G }, rfl, g1.shrink (fun _ => rfl) Mi.G hE3.G (hsP_gf _) (hsP_id _), hE3.shrink⟩
theorem plan_am (l : List (Int × Bool)) (hl : l.length ≤ 1000000) : ACalls E0 57 [.sl 2 (cels l)] [] fun r H' => r = .hs 0 3 0 (planS l).length ∧ H' = [some (.row true 3 (cels (planS l)))] := by
  have hA := alone_am
  have hB := backward_am l
  refine calls_q (calls_marks Try.func57 rfl (by kernel_rfl) fun w M vs hG hv => ?_)
  rw [Try.ntmps57]
  have hT0 := tr_T0 (N := 33) hv (by simp)
  generalize ha0 : ({ tmps := vs.toArray ++ Array.replicate (33 - vs.toArray.size) undef, defers := [] } : Act) = a0 at *
  have hD0 : a0.defers = [] := by rw [← ha0]
  clear ha0
  refine pre5 (E := E0) (N := 33) (n := 0) (M := M) (H := []) (T := T0 [.sl 2 (cels l)]) (K := fun T H => T = ofl [(3, .ptr 0 0), (24, .fn 89 [] [.ptr 2 0])] ∧ H = HsP (lkS l ++ [(3, 0, false)]) ++ [some (.obj [.sl 2 (cels l)])]) (fun _ => rfl) (by kernel_rfl) (by kernel_rfl) (Nat.le_refl _) hG hT0 ?walk ?rest
  case walk =>
    clear hG hv hT0 hD0
    -- refine calls_q (calls_of Try.func57 rfl (by kernel_rfl) (by kernel_rfl) (by rw [Try.ntmps57]; exact Nat.le_of_ble_eq_true rfl) (fun hH0 hA0 => ?_)); rw [Try.results57]
    (repeat' (first | (have hs := Mk.out hs; (try simp only [decide_eq_true_eq, decide_eq_false_iff_not, Bool.not_eq_true, Bool.not_eq_false, Bool.not_true, Bool.not_false, Bool.not_eq_eq_eq_not, Bool.and_eq_true, Bool.or_eq_true, beq_iff_eq, bne_iff_ne, beq_eq_false_iff_ne, ne_eq, Classical.not_not, not_true_eq_false, not_false_eq_true, forall_const, Bool.false_eq_true, false_implies, eq_self] at hs); (try (exfalso; omega)); (try simp (disch := omega) only [go_sem, hs])) | (refine z_seqr rfl ?_) | (refine z_seqd 7 [.q, .q, .e, .e] rfl (by kernel_rfl) (by kernel_rfl) ?_) | (refine w_seq rfl fun K hK => ?_) | (refine z_reg rfl ?_) | (refine z_cond rfl ?_) | (refine w_skip rfl ?_; ((repeat ((fail_if_success (refine hK _ _ (cl_id ?_))); clear hK)); refine hK _ _ (cl_id ?_); clear hK)) | (refine w_ret rfl ?_; (try dsimp only [anorm, ablock, astay]); refine z_end ?_) | (refine z_end0 ?_) | (refine w_block rfl ?_) | (refine w_scope rfl ?_) | (refine w_label rfl ?_; ((repeat ((fail_if_success (refine hK _ _ (cl_id ?_))); clear hK)); refine hK _ _ (cl_id ?_); clear hK)) | (refine w_exit rfl ?_; (try dsimp only [anorm, ablock, astay]); (try simp only [reduceIte, ↓reduceIte, Nat.reduceEqDiff]); ((repeat ((fail_if_success (refine hK _ _ (cl_id ?_))); clear hK)); refine hK _ _ (cl_id ?_); clear hK)) | (refine jend_go [(11, [2]), (8, [3]), (7, [0, 3]), (6, [0, 3, 8, 9, 10]), (5, [0, 3, 8, 9, 10]), (4, [0, 3, 5, 8, 9, 10]), (3, [0, 3, 8, 9, 10, 11]), (2, [0, 3, 8, 9, 10]), (1, [0, 3]), (0, [0])] ?_; simp only [tabAt_cons, sel_nil, sel_cons, put_at, ofl_cons, ofl_nil, T0_at, List.getElem?_cons_zero, List.getElem?_cons_succ, List.getElem?_nil, Option.getD_some, Option.getD_none, reduceIte, ↓reduceIte, Nat.reduceEqDiff]; refine jl_go ?_) | simp (disch := omega) only [go_sem] | (refine jc_t ?_) | (refine jc_f ?_) | (refine jx rfl ?_) | (refine jx (fun _ => rfl) ?_) | (refine jxg ⟨rfl, rfl⟩ ?_) | (refine jxh ⟨rfl, rfl⟩ ?_) | (refine jx ⟨by (first | omega | (simp; done) | (simp; omega)), rfl⟩ ?_) | (refine jx (fun _ => ⟨by (first | omega | (simp; done) | (simp; omega)), rfl⟩) ?_) | (refine jxg ⟨by (first | omega | (simp; done) | (simp; omega)), rfl, rfl⟩ ?_) | (refine jxh ⟨by (first | omega | (simp; done) | (simp; omega)), rfl, rfl⟩ ?_) | (refine jx ⟨by (first | omega | (simp; done) | (simp; omega)), by (first | omega | (simp; done) | (simp; omega)), rfl⟩ ?_) | ((first | apply zc (hA) [] | apply jxc (hA) [] | apply jxgc (hA) | apply jxhc (hA) [] | apply jxcl (hA)); (case ok => simp (disch := omega) only [go_sem, cok, sgOk, bcl, implies_true, ])) | ((first | apply zc (hB) [] | apply jxc (hB) [] | apply jxgc (hB) | apply jxhc (hB) [] | apply jxcl (hB)); (case ok => simp (disch := omega) only [go_sem, cok, sgOk, bcl, implies_true, ])) | (refine And.intro (by (first | omega | (simp; done) | (simp; omega))) ?_) | (refine mc_b (fun hs => ?_) fun hs => ?_) | (refine mg_st (fun hs => ?_) fun hs => ?_) | (refine mg_sf (fun hs => ?_) fun hs => ?_) | (refine mall_s (fun hs => ?_) fun hs => ?_) | (refine malln_s (fun hs => ?_) fun hs => ?_) | (refine mpk_s (fun hs => ?_) fun hs => ?_) | ((repeat ((fail_if_success (refine hK _ _ (cl_id ?_))); clear hK)); refine hK _ _ (cl_id ?_); clear hK)))
    refine z_loop rfl (fun i => i ≤ l.length) (fun i => l.length - i) (fun i => [(0, .sl 2 (cels l)), (3, .ptr 0 0), (8, .sl 2 (cels l)), (9, .v (.int .i64 l.length)), (10, .v (.int .i64 (i : Int)))]) (fun i => HsP (lkS (l.take i))) 0 (by omega) ?_ ?_
    · have e0 : lkS (l.take 0) = [] := rfl
      rw [e0]
      unfold HsP
      refine (cq_bareC 3 0 0 rfl rfl).trans (cq_any [0, 1] rfl (by simp [lv]) ?_ ?_)
      · (simp (disch := omega) only [go_sem])
      · (simp (disch := omega) only [go_sem])
    intro i hi K hK
    unfold HsP at hK ⊢
    by_cases hlt : (i : Int) < l.length
    · have hK2 := hK
      clear hK
      have hK := fun T' H' => hK2 T' H' (i + 1) (by omega) (by omega)
      clear hK2
      rw [lkS_snoc (by omega)] at hK
      have hln : (lkS (l.take i)).length ≤ 1000000 := by simp [lkS]; omega
      revert hK
      generalize lkS (l.take i) = L1 at *
      intro hK
      (repeat' (first | (have hs := Mk.out hs; (try simp only [decide_eq_true_eq, decide_eq_false_iff_not, Bool.not_eq_true, Bool.not_eq_false, Bool.not_true, Bool.not_false, Bool.not_eq_eq_eq_not, Bool.and_eq_true, Bool.or_eq_true, beq_iff_eq, bne_iff_ne, beq_eq_false_iff_ne, ne_eq, Classical.not_not, not_true_eq_false, not_false_eq_true, forall_const, Bool.false_eq_true, false_implies, eq_self] at hs); (try (exfalso; omega)); (try simp (disch := omega) only [go_sem, hlt, hs])) | (refine z_seqr rfl ?_) | (refine z_seqd 7 [.q, .q, .e, .e] rfl (by kernel_rfl) (by kernel_rfl) ?_) | (refine w_seq rfl fun K hK => ?_) | (refine z_reg rfl ?_) | (refine z_cond rfl ?_) | (refine w_skip rfl ?_; ((repeat ((fail_if_success (refine hK _ _ (cl_id ?_))); clear hK)); refine hK _ _ (cl_id ?_); clear hK)) | (refine w_ret rfl ?_; (try dsimp only [anorm, ablock, astay]); refine z_end ?_) | (refine z_end0 ?_) | (refine w_block rfl ?_) | (refine w_scope rfl ?_) | (refine w_label rfl ?_; ((repeat ((fail_if_success (refine hK _ _ (cl_id ?_))); clear hK)); refine hK _ _ (cl_id ?_); clear hK)) | (refine w_exit rfl ?_; (try dsimp only [anorm, ablock, astay]); (try simp only [reduceIte, ↓reduceIte, Nat.reduceEqDiff]); ((repeat ((fail_if_success (refine hK _ _ (cl_id ?_))); clear hK)); refine hK _ _ (cl_id ?_); clear hK)) | (refine jend_go [(11, [2]), (8, [3]), (7, [0, 3]), (6, [0, 3, 8, 9, 10]), (5, [0, 3, 8, 9, 10]), (4, [0, 3, 5, 8, 9, 10]), (3, [0, 3, 8, 9, 10, 11]), (2, [0, 3, 8, 9, 10]), (1, [0, 3]), (0, [0])] ?_; simp only [tabAt_cons, sel_nil, sel_cons, put_at, ofl_cons, ofl_nil, T0_at, List.getElem?_cons_zero, List.getElem?_cons_succ, List.getElem?_nil, Option.getD_some, Option.getD_none, reduceIte, ↓reduceIte, Nat.reduceEqDiff]; refine jl_go ?_) | simp (disch := omega) only [go_sem, hlt] | (refine jc_t ?_) | (refine jc_f ?_) | (refine jx rfl ?_) | (refine jx (fun _ => rfl) ?_) | (refine jxg ⟨rfl, rfl⟩ ?_) | (refine jxh ⟨rfl, rfl⟩ ?_) | (refine jx ⟨by (first | omega | (simp; done) | (simp; omega)), rfl⟩ ?_) | (refine jx (fun _ => ⟨by (first | omega | (simp; done) | (simp; omega)), rfl⟩) ?_) | (refine jxg ⟨by (first | omega | (simp; done) | (simp; omega)), rfl, rfl⟩ ?_) | (refine jxh ⟨by (first | omega | (simp; done) | (simp; omega)), rfl, rfl⟩ ?_) | (refine jx ⟨by (first | omega | (simp; done) | (simp; omega)), by (first | omega | (simp; done) | (simp; omega)), rfl⟩ ?_) | (refine And.intro (by (first | omega | (simp; done) | (simp; omega))) ?_) | (refine mc_b (fun hs => ?_) fun hs => ?_) | (refine mg_st (fun hs => ?_) fun hs => ?_) | (refine mg_sf (fun hs => ?_) fun hs => ?_) | (refine mall_s (fun hs => ?_) fun hs => ?_) | (refine malln_s (fun hs => ?_) fun hs => ?_) | (refine mpk_s (fun hs => ?_) fun hs => ?_) | ((repeat ((fail_if_success (refine hK _ _ (cl_id ?_))); clear hK)); refine hK _ _ (cl_id ?_); clear hK)))
      refine hK _ _ (cq_any [0, 4] rfl (by simp [lv]) ?_ ?_)
      · (simp (disch := omega) only [go_sem])
      · (simp (disch := omega) only [go_sem])
        omega
    · obtain rfl : i = l.length := by omega
      have e1 : l.take l.length = l := List.take_length
      rw [e1] at *
      have hln : (lkS l).length ≤ 1000000 := by simp [lkS]; omega
      clear hK
      generalize lkS l = L1 at *
      (repeat' (first | (have hs := Mk.out hs; (try simp only [decide_eq_true_eq, decide_eq_false_iff_not, Bool.not_eq_true, Bool.not_eq_false, Bool.not_true, Bool.not_false, Bool.not_eq_eq_eq_not, Bool.and_eq_true, Bool.or_eq_true, beq_iff_eq, bne_iff_ne, beq_eq_false_iff_ne, ne_eq, Classical.not_not, not_true_eq_false, not_false_eq_true, forall_const, Bool.false_eq_true, false_implies, eq_self] at hs); (try (exfalso; omega)); (try simp (disch := omega) only [go_sem, hlt, hs])) | (refine z_seqr rfl ?_) | (refine z_seqd 7 [.q, .q, .e, .e] rfl (by kernel_rfl) (by kernel_rfl) ?_) | (refine w_seq rfl fun K hK => ?_) | (refine z_reg rfl ?_) | (refine z_cond rfl ?_) | (refine w_skip rfl ?_; ((repeat ((fail_if_success (refine hK _ _ (cl_id ?_))); clear hK)); refine hK _ _ (cl_id ?_); clear hK)) | (refine w_ret rfl ?_; (try dsimp only [anorm, ablock, astay]); refine z_end ?_) | (refine z_end0 ?_) | (refine w_block rfl ?_) | (refine w_scope rfl ?_) | (refine w_label rfl ?_; ((repeat ((fail_if_success (refine hK _ _ (cl_id ?_))); clear hK)); refine hK _ _ (cl_id ?_); clear hK)) | (refine w_exit rfl ?_; (try dsimp only [anorm, ablock, astay]); (try simp only [reduceIte, ↓reduceIte, Nat.reduceEqDiff]); ((repeat ((fail_if_success (refine hK _ _ (cl_id ?_))); clear hK)); refine hK _ _ (cl_id ?_); clear hK)) | (refine jend_go [(11, [2]), (8, [3]), (7, [0, 3]), (6, [0, 3, 8, 9, 10]), (5, [0, 3, 8, 9, 10]), (4, [0, 3, 5, 8, 9, 10]), (3, [0, 3, 8, 9, 10, 11]), (2, [0, 3, 8, 9, 10]), (1, [0, 3]), (0, [0])] ?_; simp only [tabAt_cons, sel_nil, sel_cons, put_at, ofl_cons, ofl_nil, T0_at, List.getElem?_cons_zero, List.getElem?_cons_succ, List.getElem?_nil, Option.getD_some, Option.getD_none, reduceIte, ↓reduceIte, Nat.reduceEqDiff]; refine jl_go ?_) | simp (disch := omega) only [go_sem, hlt] | (refine jc_t ?_) | (refine jc_f ?_) | (refine jx rfl ?_) | (refine jx (fun _ => rfl) ?_) | (refine jxg ⟨rfl, rfl⟩ ?_) | (refine jxh ⟨rfl, rfl⟩ ?_) | (refine jx ⟨by (first | omega | (simp; done) | (simp; omega)), rfl⟩ ?_) | (refine jx (fun _ => ⟨by (first | omega | (simp; done) | (simp; omega)), rfl⟩) ?_) | (refine jxg ⟨by (first | omega | (simp; done) | (simp; omega)), rfl, rfl⟩ ?_) | (refine jxh ⟨by (first | omega | (simp; done) | (simp; omega)), rfl, rfl⟩ ?_) | (refine jx ⟨by (first | omega | (simp; done) | (simp; omega)), by (first | omega | (simp; done) | (simp; omega)), rfl⟩ ?_) | ((first | apply zc (hA) [] | apply jxc (hA) [] | apply jxgc (hA) | apply jxhc (hA) [] | apply jxcl (hA)); (case ok => simp (disch := omega) only [go_sem, cok, sgOk, bcl, implies_true, hlt])) | (refine And.intro (by (first | omega | (simp; done) | (simp; omega))) ?_) | (refine mc_b (fun hs => ?_) fun hs => ?_) | (refine mg_st (fun hs => ?_) fun hs => ?_) | (refine mg_sf (fun hs => ?_) fun hs => ?_) | (refine mall_s (fun hs => ?_) fun hs => ?_) | (refine malln_s (fun hs => ?_) fun hs => ?_) | (refine mpk_s (fun hs => ?_) fun hs => ?_) | ((repeat ((fail_if_success (refine hK _ _ (cl_id ?_))); clear hK)); refine hK _ _ (cl_id ?_); clear hK)))
      refine z_draw 7 [.q, .q, .e, .e] rfl (by kernel_rfl) (by kernel_rfl) ?_
      (repeat' (first | (have hs := Mk.out hs; (try simp only [decide_eq_true_eq, decide_eq_false_iff_not, Bool.not_eq_true, Bool.not_eq_false, Bool.not_true, Bool.not_false, Bool.not_eq_eq_eq_not, Bool.and_eq_true, Bool.or_eq_true, beq_iff_eq, bne_iff_ne, beq_eq_false_iff_ne, ne_eq, Classical.not_not, not_true_eq_false, not_false_eq_true, forall_const, Bool.false_eq_true, false_implies, eq_self] at hs); (try (exfalso; omega)); (try simp (disch := omega) only [go_sem, hs])) | (refine z_seqr rfl ?_) | (refine z_seqd 7 [.q, .q, .e, .e] rfl (by kernel_rfl) (by kernel_rfl) ?_) | (refine w_seq rfl fun K hK => ?_) | (refine z_reg rfl ?_) | (refine z_cond rfl ?_) | (refine w_skip rfl ?_; ((repeat ((fail_if_success (refine hK _ _ (cl_id ?_))); clear hK)); refine hK _ _ (cl_id ?_); clear hK)) | (refine w_ret rfl ?_; (try dsimp only [anorm, ablock, astay]); refine z_end ?_) | (refine z_end0 ?_) | (refine w_block rfl ?_) | (refine w_scope rfl ?_) | (refine w_label rfl ?_; ((repeat ((fail_if_success (refine hK _ _ (cl_id ?_))); clear hK)); refine hK _ _ (cl_id ?_); clear hK)) | (refine w_exit rfl ?_; (try dsimp only [anorm, ablock, astay]); (try simp only [reduceIte, ↓reduceIte, Nat.reduceEqDiff]); ((repeat ((fail_if_success (refine hK _ _ (cl_id ?_))); clear hK)); refine hK _ _ (cl_id ?_); clear hK)) | (refine jend_go [(11, [2]), (8, [3]), (7, [0, 3]), (6, [0, 3, 8, 9, 10]), (5, [0, 3, 8, 9, 10]), (4, [0, 3, 5, 8, 9, 10]), (3, [0, 3, 8, 9, 10, 11]), (2, [0, 3, 8, 9, 10]), (1, [0, 3]), (0, [0])] ?_; simp only [tabAt_cons, sel_nil, sel_cons, put_at, ofl_cons, ofl_nil, T0_at, List.getElem?_cons_zero, List.getElem?_cons_succ, List.getElem?_nil, Option.getD_some, Option.getD_none, reduceIte, ↓reduceIte, Nat.reduceEqDiff]; refine jl_go ?_) | simp (disch := omega) only [go_sem] | (refine jc_t ?_) | (refine jc_f ?_) | (refine jx rfl ?_) | (refine jx (fun _ => rfl) ?_) | (refine jxg ⟨rfl, rfl⟩ ?_) | (refine jxh ⟨rfl, rfl⟩ ?_) | (refine jx ⟨by (first | omega | (simp; done) | (simp; omega)), rfl⟩ ?_) | (refine jx (fun _ => ⟨by (first | omega | (simp; done) | (simp; omega)), rfl⟩) ?_) | (refine jxg ⟨by (first | omega | (simp; done) | (simp; omega)), rfl, rfl⟩ ?_) | (refine jxh ⟨by (first | omega | (simp; done) | (simp; omega)), rfl, rfl⟩ ?_) | (refine jx ⟨by (first | omega | (simp; done) | (simp; omega)), by (first | omega | (simp; done) | (simp; omega)), rfl⟩ ?_) | ((first | apply zc (hA) [] | apply jxc (hA) [] | apply jxgc (hA) | apply jxhc (hA) [] | apply jxcl (hA)); (case ok => simp (disch := omega) only [go_sem, cok, sgOk, bcl, implies_true, ])) | (refine And.intro (by (first | omega | (simp; done) | (simp; omega))) ?_) | (refine mc_b (fun hs => ?_) fun hs => ?_) | (refine mg_st (fun hs => ?_) fun hs => ?_) | (refine mg_sf (fun hs => ?_) fun hs => ?_) | (refine mall_s (fun hs => ?_) fun hs => ?_) | (refine malln_s (fun hs => ?_) fun hs => ?_) | (refine mpk_s (fun hs => ?_) fun hs => ?_) | ((repeat ((fail_if_success (refine hK _ _ (cl_id ?_))); clear hK)); refine hK _ _ (cl_id ?_); clear hK)))
      refine cl_id ?_
      (repeat' (first | (have hs := Mk.out hs; (try simp only [decide_eq_true_eq, decide_eq_false_iff_not, Bool.not_eq_true, Bool.not_eq_false, Bool.not_true, Bool.not_false, Bool.not_eq_eq_eq_not, Bool.and_eq_true, Bool.or_eq_true, beq_iff_eq, bne_iff_ne, beq_eq_false_iff_ne, ne_eq, Classical.not_not, not_true_eq_false, not_false_eq_true, forall_const, Bool.false_eq_true, false_implies, eq_self] at hs); (try (exfalso; omega)); (try simp (disch := omega) only [go_sem, hs])) | (refine z_seqr rfl ?_) | (refine z_seqd 7 [.q, .q, .e, .e] rfl (by kernel_rfl) (by kernel_rfl) ?_) | (refine w_seq rfl fun K hK => ?_) | (refine z_reg rfl ?_) | (refine z_cond rfl ?_) | (refine w_skip rfl ?_; ((repeat ((fail_if_success (refine hK _ _ (cl_id ?_))); clear hK)); refine hK _ _ (cl_id ?_); clear hK)) | (refine w_ret rfl ?_; (try dsimp only [anorm, ablock, astay]); refine z_end ?_) | (refine z_end0 ?_) | (refine w_block rfl ?_) | (refine w_scope rfl ?_) | (refine w_label rfl ?_; ((repeat ((fail_if_success (refine hK _ _ (cl_id ?_))); clear hK)); refine hK _ _ (cl_id ?_); clear hK)) | (refine w_exit rfl ?_; (try dsimp only [anorm, ablock, astay]); (try simp only [reduceIte, ↓reduceIte, Nat.reduceEqDiff]); ((repeat ((fail_if_success (refine hK _ _ (cl_id ?_))); clear hK)); refine hK _ _ (cl_id ?_); clear hK)) | (refine jend_go [(11, [2]), (8, [3]), (7, [0, 3]), (6, [0, 3, 8, 9, 10]), (5, [0, 3, 8, 9, 10]), (4, [0, 3, 5, 8, 9, 10]), (3, [0, 3, 8, 9, 10, 11]), (2, [0, 3, 8, 9, 10]), (1, [0, 3]), (0, [0])] ?_; simp only [tabAt_cons, sel_nil, sel_cons, put_at, ofl_cons, ofl_nil, T0_at, List.getElem?_cons_zero, List.getElem?_cons_succ, List.getElem?_nil, Option.getD_some, Option.getD_none, reduceIte, ↓reduceIte, Nat.reduceEqDiff]; refine jl_go ?_) | simp (disch := omega) only [go_sem] | (refine jc_t ?_) | (refine jc_f ?_) | (refine jx rfl ?_) | (refine jx (fun _ => rfl) ?_) | (refine jxg ⟨rfl, rfl⟩ ?_) | (refine jxh ⟨rfl, rfl⟩ ?_) | (refine jx ⟨by (first | omega | (simp; done) | (simp; omega)), rfl⟩ ?_) | (refine jx (fun _ => ⟨by (first | omega | (simp; done) | (simp; omega)), rfl⟩) ?_) | (refine jxg ⟨by (first | omega | (simp; done) | (simp; omega)), rfl, rfl⟩ ?_) | (refine jxh ⟨by (first | omega | (simp; done) | (simp; omega)), rfl, rfl⟩ ?_) | (refine jx ⟨by (first | omega | (simp; done) | (simp; omega)), by (first | omega | (simp; done) | (simp; omega)), rfl⟩ ?_) | ((first | apply zc (hB) [] | apply jxc (hB) [] | apply jxgc (hB) | apply jxhc (hB) [] | apply jxcl (hB)); (case ok => simp (disch := omega) only [go_sem, cok, sgOk, bcl, implies_true, ])) | (refine And.intro (by (first | omega | (simp; done) | (simp; omega))) ?_) | (refine mc_b (fun hs => ?_) fun hs => ?_) | (refine mg_st (fun hs => ?_) fun hs => ?_) | (refine mg_sf (fun hs => ?_) fun hs => ?_) | (refine mall_s (fun hs => ?_) fun hs => ?_) | (refine malln_s (fun hs => ?_) fun hs => ?_) | (refine mpk_s (fun hs => ?_) fun hs => ?_) | ((repeat ((fail_if_success (refine hK _ _ (cl_id ?_))); clear hK)); refine hK _ _ (cl_id ?_); clear hK)))
      unfold HsP
      refine ⟨_, _, cq_any (tl := [(3, .ptr 0 0), (24, .fn 89 [] [.ptr 2 0])]) [0, 2, 3] rfl (by simp [lv]) ?_ ?_, rfl, rfl⟩
      · (simp (disch := omega) only [go_sem])
      · (simp (disch := omega) only [go_sem])
  case rest =>
    rintro T1 H1 M1 a w1 ⟨rfl, rfl⟩ _ hG1 hT1 hd1 hE1
    have hD : a.defers = [] := hd1.trans hD0
    clear hT0 hD0 hd1 a0
    generalize hst : lkS l ++ [((3 : Int), (0 : Int), false)] = st at *
    have hne : 0 < st.length := by rw [← hst]; simp
    have h2at : (HsP st ++ [some (Blk.obj [.sl 2 (cels l)])])[2]? = some (some (.obj [.sl 2 (cels l)])) := rfl
    -- the iterator's box is written no more
    have hfn := hT1.2 24
    change VR M1 3 w1 (.fn _ [] [.ptr 2 0]) _ at hfn
    unfold VR at hfn
    obtain ⟨us, ks, hfn, hus, hks⟩ := hfn
    unfold VRt at hus
    subst hus
    unfold VRt VRt at hks
    obtain ⟨u, r0, rfl, hu, rfl⟩ := hks
    have hu2 := VR.iceO hG1 h2at hu
    have hGi : Gam E0.gl (M1.ice 2) w1 (HsP st) := by
      have := Gam.iceO hG1 h2at
      exact Gam.less (E := E0) (H := HsP st) (L := [none]) this (hsP_nb st)
    have hEi : ExtB 0 M w [] (M1.ice 2) w1 (HsP st) := by
      have := hE1.trans (ExtB.iceO (n := 0) (M := M1) (w := w1) h2at (Nat.zero_le _))
      exact ExtB.less (L := [none]) this (Nat.zero_le _)
    have h3 := hT1.2 3
    change VR M1 3 w1 (.ptr 0 0) _ at h3
    have hN := hT1.1
    have hu3 : VR (M1.ice 2) 0 w1 (.cptr [.sl 2 (cels l)]) u := VR.down (by simp only [nb, nbs, cels_nbss, and_self]) hu2
    have hkp : ∀ b, (M1.ice 2).G b → b < w1.heap.size := hGi.inG
    unfold VR at h3
    obtain ⟨_, b0, hb0, h3⟩ := h3
    have hb0i : (M1.ice 2).blk 0 = some b0 := hb0
    clear hG1 hE1 hT1 hu hu2 h2at hb0
    generalize M1.ice 2 = Mi at *
    refine (wpIn_wide (n := 6)).1 (wpIn_block (wpIn_rangeFunc_ownH (F := Fence.wide) (n := 6) rfl (by decide) (gf := 89) (lb := #[u]) hfn trivial (enters_of Try.func89 (by kernel_rfl) rfl)
      (back_stops Mi w1 hkp l hl u hu3) (fun h k b hb => (k b hb).trans (h b hb)) (fun W ln o o' hl2 _ _ _ b hb => World.putObj_heap_other (by have := hkp b hb; omega)) (Below.refl _ _) (fun _ => rfl)
      (IP Mi w1 st) (fun _ _ _ => False) (ip_own hkp) (fun _ _ _ _ _ h _ _ => h) ?h0 (AP 33 w1 (a.tmps.getD 3 undef)) ap_own ?assign ?body ?done ?stop))
    case h0 =>
      refine ⟨Mi, rfl, ?_, ?_⟩
      · simpa [unU] using hGi
      · have : ExtB 1 Mi w1 (HsP st) Mi w1 (HsP st) := ExtB.refl (show 1 ≤ 2 by decide)
        simpa [unU] using this
    case stop => exact fun D c pre W _ _ h _ => h.elim
    case assign =>
      rintro ln pre x W K ⟨M2, hGG, hGam, hE2⟩ hK
      generalize hst2 : st ++ unU pre = s2 at *
      obtain ⟨a2, ha2⟩ : ∃ a2 : Act, a2 = { tmps := (Array.zip #[25, 26] (encN x)).foldl (fun t (p, v) => t.setIfInBounds p v) a.tmps, defers := [] } := ⟨_, rfl⟩
      rw [← ha2]
      have ea : a2 = ((({ a with defers := [] } : Act).put (some 25) (.int .i64 x.1)).put (some 26) (.agg #[.int .i64 x.2.1, .bool x.2.2])) := by
        rw [ha2]
        simp [encN, Act.put]
      have eN : a2.tmps.size = 33 := by rw [ea, put_size, put_size]; exact hN
      have e3 : a2.tmps.getD 3 undef = a.tmps.getD 3 undef := by rw [ea, put_getD (by decide), put_getD (by decide)]
      have e26 : a2.tmps.getD 26 undef = .agg #[.int .i64 x.2.1, .bool x.2.2] := by rw [ea]; exact put_same (by rw [put_size]; show 26 < a.tmps.size; omega)
      clear ha2 ea
      have hT2 : TR M2 2 W 33 (ofl [(26, .agg [.v (.int .i64 x.2.1), .v (.bool x.2.2)])]) a2 := ⟨eN, fun i => ofl_all (p := fun i y => VR M2 2 W y (a2.tmps.getD i undef)) trivial (fun y hy => by
        obtain rfl := List.mem_singleton.1 hy
        simp only
        rw [e26]
        unfold VR
        refine ⟨[_, _], rfl, ?_⟩
        unfold VRs VRs VRs
        exact ⟨_, _, rfl, rfl, rfl, _, _, rfl, rfl, rfl, rfl⟩)⟩
      refine reg_inL (E := E0) (N := 33) (by kernel_rfl) (by kernel_rfl) (ofl [(26, .agg [.v (.int .i64 x.2.1), .v (.bool x.2.2)])]) (HsP s2) M2 (fun T' H' => T' 7 = .ptr 2 0 ∧ H' = HsP s2 ++ [some (.obj [.v (.int .i64 x.2.1), .v (.bool x.2.2)])]) hGam hT2 ?_ ?_
      · unfold HsP
        simp (disch := omega) only [go_sem]
      rintro T' H' M3 a3 W3 ⟨k7, rfl⟩ hG3 hT3 hd3 hs3 hX
      refine hK a3 W3 (hX.keepsFrom hGam (hsP_no _) _) (fun b hb => hX.keep hGam b (by rw [hGG]; exact hb)) ?_ ?_
      · unfold IP
        rw [hst2]
        refine ip_next hE2 (ExtB.of (show 1 ≤ 2 by decide) hX) (show 1 ≤ 3 by decide) hG3 hT3 ?_
        unfold HsP
        refine cq_any [0, 1] rfl (by simp [lv]) ?_ ?_
        · (simp (disch := omega) only [go_sem])
        · (simp (disch := omega) only [go_sem])
      · obtain ⟨b, cur, t, fr, q1, q2, q3, q4, q5⟩ := hG3.blks 2 _ rfl
        have hcur : cur = #[.int .i64 x.2.1, .bool x.2.2] := by
          unfold VRs VRs VRs at q5
          obtain ⟨y, r, e1, _, e2, z, r2, rfl, _, e4, rfl⟩ := q5
          unfold VR at e2 e4
          subst e2 e4
          exact Array.toList_inj.1 e1
        subst hcur
        refine ⟨b, t, fr, ?_, hT3.1, (hs3 3 (by kernel_rfl)).trans e3, ?_, q2, q3⟩
        · have hsz := hE2.size
          rcases hX.hot b ⟨2, _, rfl, rfl, q1⟩ with ⟨r, B, r1, r2, r3⟩ | hh
          · exfalso
            have hr : r < 2 := (List.getElem?_eq_some_iff.1 r1).1
            have hbl := hX.blk r hr
            have hat : ∃ B', (HsP s2 ++ [some (Blk.obj [.v (.int .i64 x.2.1), .v (.bool x.2.2)])])[r]? = some (some B') := by
              match r, hr with
              | 0, _ => exact ⟨_, rfl⟩
              | 1, _ => exact ⟨_, rfl⟩
            obtain ⟨B', hB'⟩ := hat
            exact hG3.far 2 r _ B' b rfl hB' rfl (by omega) q1 (hbl.trans r3)
          · omega
        · have := hT3.2 7
          rw [k7] at this
          unfold VR at this
          obtain ⟨_, b', e1, e2⟩ := this
          rw [q1] at e1
          cases e1
          exact e2
    case body =>
      rintro ln pre x a3 W hln _ ⟨M2, hGG, hGam, hE2⟩ ⟨b, t, fr, hb, hN3, h3', h7, hcell, hfr⟩ hlen
      have eU : st ++ unU (pre ++ [x]) = (st ++ unU pre) ++ [((4 : Int), x.2.1, x.2.2)] := by simp [unU]
      have hlu : (st ++ unU pre).length ≤ 3000000 := by
        have e1 : st.length ≤ 1000001 := by rw [← hst]; simp [lkS]; omega
        simp [unU]
        omega
      have hne2 : 0 < (st ++ unU pre).length := by simp; omega
      generalize st ++ unU pre = u2 at *
      have hfree := hsP_free hGam hne2 hcell rfl
      have hnG : ¬ M2.G b := fun h => by
        rw [hGG] at h
        have := hkp b h
        omega
      have hG3 := Gam.rename (E := E0) (s := 2) (B := .obj [.v (.int .i64 x.2.1), .v (.bool x.2.2)]) (w1 := W) hGam hnG hfree ⟨rfl, rfl, rfl, rfl⟩ (fun _ _ => rfl) (fun M' m1 m2 m3 m4 => by
        refine ⟨b, _, t, fr, m3, hcell, hfr, m4.symm, ?_⟩
        unfold VRs VRs VRs
        exact ⟨_, _, rfl, rfl, rfl, _, _, rfl, rfl, rfl, rfl⟩)
      have hE3 : ExtB 1 Mi w1 (HsP st) (M2.push 2 b 2) W (HsP u2 ++ [some (.obj [.v (.int .i64 x.2.1), .v (.bool x.2.2)])]) := hE2.pushB hb (show 1 ≤ 2 by decide)
      have hblk0 : (M2.push 2 b 2).blk 0 = some b0 := (hE3.blk 0 (by decide)).trans hb0i
      have hblk2 : (M2.push 2 b 2).blk 2 = some b := by simp [Mem.push]
      have hGG3 : (M2.push 2 b 2).G = Mi.G := hGG
      change Gam E0.gl (M2.push 2 b 2) W (HsP u2 ++ [some (.obj [.v (.int .i64 x.2.1), .v (.bool x.2.2)])]) at hG3
      generalize M2.push 2 b 2 = M3 at *
      have hT3 : TR M3 3 W 33 (ofl [(3, .ptr 0 0), (7, .ptr 2 0)]) a3 := ⟨hN3, fun i => ofl_all (p := fun i y => VR M3 3 W y (a3.tmps.getD i undef)) trivial (fun y hy => by
        rcases List.mem_cons.1 hy with rfl | hy
        · simp only
          rw [h3', h3]
          unfold VR
          exact ⟨by decide, b0, hblk0, rfl⟩
        · obtain rfl := List.mem_singleton.1 hy
          simp only
          rw [h7]
          unfold VR
          exact ⟨by decide, b, hblk2, rfl⟩)⟩
      refine wpIn_block (reg_inL (E := E0) (N := 33) (by kernel_rfl) (by kernel_rfl) (ofl [(3, .ptr 0 0), (7, .ptr 2 0)]) (HsP u2 ++ [some (Blk.obj [.v (.int .i64 x.2.1), .v (.bool x.2.2)])]) M3 (fun T' H' => 1 ≤ H'.length ∧ Cq E0 1 T' H' (ofl []) (HsP (u2 ++ [((4 : Int), x.2.1, x.2.2)]))) hG3 hT3 ?_ ?_)
      · unfold HsP
        simp (disch := omega) only [go_sem]
        refine ⟨by omega, cq_any [0, 4] rfl (by simp [lv]) ?_ ?_⟩
        · (simp (disch := omega) only [go_sem])
        · (simp (disch := omega) only [go_sem])
      rintro T' H' M4 a4 W4 ⟨hn4, hc4⟩ hG4 hT4 hd4 hs4 hX
      exact ⟨hX.keepsFrom hG3 (hsP_no2 _ _) _, fun c hc => hX.keep hG3 c (by rw [hGG3]; exact hc), by
        unfold IP
        rw [eU]
        exact ip_next hE3 (ExtB.of (show 1 ≤ 3 by decide) hX) hn4 hG4 hT4 hc4⟩
    case done =>
      rintro D xs W hDl hS ⟨M2, hGG, hGam, hE2⟩ hK
      subst hS
      have hu : st ++ unU (revU l l.length) = planS l := by rw [unU_rev, ← hst]; rfl
      rw [hu] at hGam hE2
      generalize planS l = u2 at *
      have hT2 : TR M2 2 W 33 (ofl [(3, .ptr 0 0)]) { a with defers := { target := .collected D, args := #[] } :: a.defers } := ⟨hN, fun i => ofl_all (p := fun i y => VR M2 2 W y (a.tmps.getD i undef)) trivial (fun y hy => by
        obtain rfl := List.mem_singleton.1 hy
        simp only
        rw [h3]
        unfold VR
        exact ⟨by decide, b0, (hE2.blk 0 (by decide)).trans hb0i, rfl⟩)⟩
      refine wp_seq ((wpIn_wide (n := 6)).1 (reg_in0 (E := E0) (N := 33) (by kernel_rfl) (by kernel_rfl) (ofl [(3, .ptr 0 0)]) (HsP u2) M2 (fun T' H' => T' 2 = .hs 1 3 0 u2.length ∧ H' = HsP u2) hGam hT2 ?_ ?_))
      · unfold HsP
        simp (disch := omega) only [go_sem]
      rintro T' H' M3 a3 W3 ⟨k2, rfl⟩ hG3 hT3 hd3 hs3 hX
      have hK3 := (hX.keepsFrom hGam (hsP_no _) 0).same D _ (Nat.zero_le _) hK rfl
      refine wp_ret ?_
      show LeavesInM Fence.wide 8 E0.P _ a3.tmps _ a3.defers .returning W3
      rw [hd3]
      show LeavesInM Fence.wide 8 E0.P _ a3.tmps _ ({ target := .collected D, args := #[] } :: a.defers) .returning W3
      rw [hD]
      refine ⟨by simp, .inl ⟨_, _, rfl, run_takeDeferred hK3, ?_⟩⟩
      have hgr := grownBy_putObj' W3 D (.deferred none)
      have hnG : ∀ r, some D = some r → ¬ M3.G r := fun r e hr => by
        cases e
        rcases hX.gnew D hr with q | ⟨q, B, q1, _, q3⟩ | q
        · rw [hGG] at q
          have := hkp D q
          omega
        · exact hGam.notCells hK rfl (hsP_no _) q B q1 q3
        · have := (Array.getElem?_eq_some_iff.1 hK).1
          omega
      have hG4 := hG3.other hgr hnG (fun r e => by cases e; exact hG3.notCells hK3 rfl (hsP_no _))
      have hv := hT3.2 2
      rw [k2] at hv
      refine ⟨_, results_tmp rfl _ _ _, .hs 1 3 0 u2.length, HsP u2, _, M3, rfl, ?_, hG4, VR.mono (M := M3) (M' := M3) (n := 2) (w := W3) (fun _ h => h) (hG3.keepG hgr hnG) (Nat.le_refl _) (fun _ _ => ⟨rfl, rfl⟩) hv, ?_⟩
      · unfold HsP
        refine end_q [1] rfl (by decide) (by simp) ?_ ⟨rfl, rfl⟩ ?_
        · (simp (disch := omega) only [go_sem])
        · (simp (disch := omega) only [go_sem])
      · have hEx : ExtB 0 M w [] M3 _ (HsP u2) := (((hEi.trans (hE2.down (Nat.zero_le _))).trans (ExtB.of (Nat.zero_le _) hX)).other hgr (fun r e => by cases e; have := hEi.size; omega))
        exact ExtB.full (H := []) hEx
end Go.Proofs.Ytjfoicebdjonfaa
