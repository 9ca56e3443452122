/- Locks: New, by the machine. No condition. -/
import Derived.Test.YtckppkimjiifpaaQLd
import Derived.Test.YtckppkimjiifpaaQb1
import Derived.Test.YtckppkimjiifpaaQgs
set_option linter.unusedSectionVars false
set_option linter.unusedVariables false
set_option linter.unusedSimpArgs false
set_option linter.deprecated false
namespace Go.Am
open Go.RowKit Go.Cx
/-- Cells said with less. -/
theorem cq_wkO {E : Env} {n : Nat} {T : Nat → AV} {H : Heap} (r : Nat) {cs cs' : List AV} (hr : H[r]? = some (some (.obj cs))) (hw : wks cs cs') : Cq E n T H T (H.set r (some (.obj cs'))) :=
  cq_mblk r hr rfl fun M w h => by
    obtain ⟨b, cur, t, fr, h1, h2, h3, h4, h5⟩ := h
    exact ⟨⟨b, h1⟩, b, cur, t, fr, h1, h2, h3, h4, VRs.wks hw h5⟩
end Go.Am
namespace Go.Proofs.Ytckppkimjiifpaa
open Go.RowKit Go.Cx Go.Am
set_option maxRecDepth 8000
set_option maxHeartbeats 2000000
attribute [local irreducible] ACalls jcall jsame jex jexg jexh jguard jconv jload jpart jstore jbin jslice jidxA jidx jfield jfieldA jbuild jbuildS jmake jappend jlen jpick jres jcnd jcopy jcap jborn jdraw jops jop jstr jstrc jlive jend jlenM jmmake jlook jmput jmdel jrange jnext jentry jlk jmp2 jmd2 jlm jrg jnx jny jen jeo
attribute [local go_sem] reduceIte Nat.reduceEqDiff Nat.reduceAdd Nat.reduceMul Nat.reduceLT Nat.reduceLeDiff Nat.reduceSub Int.reduceLT Int.reduceLE Int.reduceToNat Int.reduceNeg Int.reduceAdd Int.reduceSub UInt8.reduceToNat Int.reduceEq reduceCtorEq Int.reducePow Int.reduceMul Nat.reducePow E0
attribute [local go_sem ↓] reduceIte
attribute [local go_sem high] chunks_bvs
attribute [local go_sem] tgs_nil tgs_snoc tagC_eq rwb_nil jop_makeMap jop_lookup jop_mapUpdate jop_delete jop_range jop_next jop_entry jmmake_m jlook_m jlk_mI jmput_m jmp2_mI jmdel_m jmd2_mB jlenM_m jlm_mB jrange_m jnext_m jnx_m jentry_m jen_m jeo_mS nbB_mI nbB_mSI bmap_mI bmap_mSI mB_nil vI nbB_o nbB_r nbB_i bmap_o bmap_r bmap_i gfB_o gfB_r gfB_i
attribute [local go_sem ←] List.map_take List.map_drop

/-- i locks that are being made. -/
def NH (i : Nat) : Heap := some (.obj [.hs (2 * i + 1) 1 0 i]) :: (lkV 0 (List.replicate i lk0) ++ [some (.row true 1 (lps i))])
def reps (i : Nat) : List Lk := List.replicate i lk0
theorem NH_len (i : Nat) : (NH i).length = 2 * i + 2 := by simp [NH, lkV_len]
theorem NH_0 (i : Nat) : (NH i)[0]? = some (some (.obj [.hs (2 * i + 1) 1 0 i])) := rfl
theorem NH_o (i : Nat) {j : Nat} (hj : j < i) : (NH i)[2 * j + 1]? = some (some (.obj [.mp (2 * j + 2), .sl 2 (cels ([] : List (Int × Bool)))])) ∧ (NH i)[2 * j + 2]? = some (some (mB vI [])) := by
  have h := lkV_o 0 (List.replicate i lk0) j (by simpa using hj)
  have e : lk (List.replicate i lk0) j = lk0 := by simp [lk, List.getD_eq_getElem?_getD, hj]
  rw [e, Nat.zero_add] at h
  have hl := lkV_len 0 (List.replicate i lk0)
  rw [List.length_replicate] at hl
  constructor
  · show (lkV 0 (List.replicate i lk0) ++ _)[2 * j]? = _
    rw [List.getElem?_append_left (by omega)]
    exact h.1
  · show (lkV 0 (List.replicate i lk0) ++ _)[2 * j + 1]? = _
    rw [List.getElem?_append_left (by omega)]
    exact h.2
theorem NH_r (i : Nat) : (NH i)[2 * i + 1]? = some (some (.row true 1 (lps i))) := by
  have hl := lkV_len 0 (List.replicate i lk0)
  rw [List.length_replicate] at hl
  show (lkV 0 (List.replicate i lk0) ++ _)[2 * i]? = _
  rw [List.getElem?_append_right (by omega), hl]
  simp
theorem lps_succ (i : Nat) : lps (i + 1) = lps i ++ [[.ptr (2 * i + 1) 0]] := by simp [lps, List.range_succ]
/-- What a round makes of it. -/
def NF (i : Nat) : Heap := ((NH i).set (2 * i + 1) none).set 0 (some (.obj [.hs (2 * i + 2 + 3) 1 0 (i + 1)])) ++ [some (mB vI []), some (.obj [.mp (2 * i + 2), .sl 2 (cels ([] : List (Int × Bool)))]), some (.row true 1 [[.ptr (2 * i + 2 + 1) 0]]), some (.row true 1 (lps i ++ [[.ptr (2 * i + 2 + 1) 0]]))]
def nf (i r : Nat) : Nat := if r < 2 * i + 1 then r else if r = 2 * i + 1 then 2 * i + 3 else if r = 2 * i + 2 then 2 * i + 2 else 2 * i + 5
theorem NF_old (i : Nat) {r : Nat} (h : 0 < r) (h2 : r < 2 * i + 1) : (NF i)[r]? = (NH i)[r]? := by
  unfold NF
  rw [List.getElem?_append_left (by simp [NH_len]; omega), List.getElem?_set_ne (by omega), List.getElem?_set_ne (by omega)]
theorem NF_new (i k : Nat) : (NF i)[2 * i + 2 + k]? = [some (mB vI []), some (.obj [.mp (2 * i + 2), .sl 2 (cels ([] : List (Int × Bool)))]), some (.row true 1 [[.ptr (2 * i + 2 + 1) 0]]), some (.row true 1 (lps i ++ [[.ptr (2 * i + 2 + 1) 0]]))][k]? := by
  unfold NF
  rw [List.getElem?_append_right (by simp [NH_len]), List.length_set, List.length_set, NH_len]
  congr 1
  omega
theorem cq_new {n : Nat} {T : Nat → AV} {tl : List (Nat × AV)} (i : Nat) (hn : n = 0) (hT : okT (NH (i + 1)).length (nf i) T tl) : Cq E0 n T (NF i) (ofl tl) (NH (i + 1)) := by
  have f1 : ∀ r, r < 2 * i + 1 → nf i r = r := fun r h => by unfold nf; rw [if_pos h]
  have f2 : nf i (2 * i + 1) = 2 * i + 3 := by unfold nf; rw [if_neg (by omega), if_pos rfl]
  have f3 : nf i (2 * i + 2) = 2 * i + 2 := by unfold nf; rw [if_neg (by omega), if_neg (by omega), if_pos rfl]
  have f4 : nf i (2 * i + 3) = 2 * i + 5 := by unfold nf; rw [if_neg (by omega), if_neg (by omega), if_neg (by omega)]
  have hlen := NH_len (i + 1)
  refine Cq.ren (nf i) (fun _ => by omega) (fun r hr => by omega) (fun r B hr => ?_) (fun r r' B B' hr hr' e => ?_) (fun j => ?_)
  · have hrl := (List.getElem?_eq_some_iff.1 hr).1
    rw [hlen] at hrl ⊢
    rcases Nat.eq_zero_or_pos r with rfl | hp
    · rw [NH_0] at hr
      cases hr
      refine ⟨⟨by unfold nb; omega, trivial⟩, ?_⟩
      rw [f1 0 (by omega)]
      show some (some (Blk.obj [.hs (2 * i + 2 + 3) 1 0 (i + 1)])) = some (some (.obj [.hs (nf i (2 * i + 3)) 1 0 (i + 1)]))
      rw [f4]
    · rcases Nat.lt_or_ge r (2 * i + 1) with hlt | hge
      · rw [f1 r hlt, NF_old i hp hlt]
        obtain ⟨j, h | h⟩ : ∃ j, r = 2 * j + 1 ∨ r = 2 * j + 2 := ⟨(r - 1) / 2, by omega⟩
        · subst h
          rw [(NH_o (i + 1) (by omega)).1] at hr
          cases hr
          rw [(NH_o i (by omega)).1]
          refine ⟨⟨by unfold nb; omega, trivial, trivial⟩, ?_⟩
          show _ = some (some (Blk.obj [.mp (nf i (2 * j + 2)), .sl 2 (cels ([] : List (Int × Bool)))]))
          rw [f1 _ (by omega)]
        · subst h
          rw [(NH_o (i + 1) (by omega)).2] at hr
          cases hr
          rw [(NH_o i (by omega)).2]
          exact ⟨of_eq_true nbB_mI, by rw [bmap_mI]⟩
      · obtain h | h | h : r = 2 * i + 1 ∨ r = 2 * i + 2 ∨ r = 2 * i + 3 := by omega
        · subst h
          rw [(NH_o (i + 1) (by omega)).1] at hr
          cases hr
          rw [f2, show 2 * i + 3 = 2 * i + 2 + 1 by omega, NF_new]
          refine ⟨⟨by unfold nb; omega, trivial, trivial⟩, ?_⟩
          show _ = some (some (Blk.obj [.mp (nf i (2 * i + 2)), .sl 2 (cels ([] : List (Int × Bool)))]))
          rw [f3]
          rfl
        · subst h
          rw [(NH_o (i + 1) (by omega)).2] at hr
          cases hr
          rw [f3, show 2 * i + 2 = 2 * i + 2 + 0 by omega, NF_new]
          exact ⟨of_eq_true nbB_mI, by rw [bmap_mI]; rfl⟩
        · subst h
          have hr2 := NH_r (i + 1)
          rw [show 2 * (i + 1) + 1 = 2 * i + 3 by omega] at hr2
          rw [hr2] at hr
          cases hr
          rw [f4, show 2 * i + 5 = 2 * i + 2 + 3 by omega, NF_new]
          refine ⟨lps_nb (by omega), ?_⟩
          show _ = some (some (Blk.row true 1 (amapss (nf i) (lps (i + 1)))))
          have e : amapss (nf i) (lps (i + 1)) = lps i ++ [[.ptr (2 * i + 2 + 1) 0]] := by
            rw [lps_succ]
            have h5 : ∀ a b : List (List AV), amapss (nf i) (a ++ b) = amapss (nf i) a ++ amapss (nf i) b := fun a b => by
              induction a with
              | nil => rfl
              | cons x a ih => show amaps (nf i) x :: amapss (nf i) (a ++ b) = amaps (nf i) x :: amapss (nf i) a ++ amapss (nf i) b; rw [ih]; rfl
            rw [h5, amapss_id (n := 2 * i + 1) (fun r h => f1 r h) (lps_nb (by omega))]
            show lps i ++ [[.ptr (nf i (2 * i + 1)) 0]] = _
            rw [f2]
          rw [e]
          rfl
  · have h1 := (List.getElem?_eq_some_iff.1 hr).1
    have h2 := (List.getElem?_eq_some_iff.1 hr').1
    rw [hlen] at h1 h2
    unfold nf at e
    split at e <;> split at e <;> (try split at e) <;> (try split at e) <;> (try split at e) <;> (try split at e) <;> omega
  · exact ofl_all (p := fun j x => nb (NH (i + 1)).length x ∧ Wk (T j) (amap (nf i) x)) ⟨trivial, Wk.any _⟩ fun x hx => okT_all hT x hx
theorem cq_done {T : Nat → AV} {tl : List (Nat × AV)} (n : Nat) (hT : ∀ x ∈ tl, T x.1 = x.2) (hb : okD (LH (reps n)).length 0 [none] (ofl tl) tl) : Cq E0 0 T (NH n) (ofl tl) (LH (reps n)) := by
  have hl : (reps n).length = n := by simp [reps]
  have h1 : Cq E0 0 T (NH n) (ofl tl) (LH (reps n) ++ [none]) := by
    refine cq_ice (2 * n + 1) (NH_r n) (by rw [List.length_append, LH_len, hl, NH_len]; rfl) (fun q B' hq => ?_) (fun x hx => .inl (hT x hx))
    have hql := (List.getElem?_eq_some_iff.1 hq).1
    rw [List.length_append, LH_len, hl] at hql
    have hql2 : q < 2 * n + 2 := hql
    by_cases hq1 : q = 2 * n + 1
    · subst hq1
      rw [List.getElem?_append_right (by rw [LH_len, hl]; exact Nat.le_refl _), LH_len, hl, Nat.sub_self] at hq
      cases hq
    · rw [List.getElem?_append_left (by rw [LH_len, hl]; omega)] at hq
      refine ⟨hq1, ?_⟩
      rcases Nat.eq_zero_or_pos q with rfl | hp
      · rw [LH_0] at hq
        cases hq
        rw [hl]
        exact ⟨_, NH_0 n, .inr ⟨0, n, rfl, by rw [lps_len]; omega, by rw [List.drop_zero, List.take_of_length_le (by rw [lps_len]; omega)]⟩, trivial⟩
      · obtain ⟨q, rfl⟩ : ∃ q', q = q' + 1 := ⟨q - 1, by omega⟩
        refine ⟨B', ?_, rlB_refl B'⟩
        rw [← hq]
        show (lkV 0 (List.replicate n lk0) ++ [some (.row true 1 (lps n))] : Heap)[q]? = (lkV 0 (reps n))[q]?
        rw [List.getElem?_append_left (by rw [lkV_len, List.length_replicate]; omega)]
        rfl
  exact h1.trans (cq_drop 0 (Nat.zero_le _) (LH_nbs _) hb)
theorem lnew0_am (n : Int) (h : ¬ (1 ≤ n ∧ n ≤ 67)) : ACalls E0 8 [.v (.int .i64 n)] [] fun r H' => r = .tup [.v (.pointer none), .v (.int .i64 1)] ∧ H' = [] := by
  by_cases h1 : n < 1
  · refine calls_q (calls_of Try.func8 rfl (by kernel_rfl) (by kernel_rfl) (by rw [Try.ntmps8]; exact Nat.le_of_ble_eq_true rfl) (fun hH0 hA0 => ?_)); rw [Try.results8]
    (repeat' (first | (have hs := Mk.out hs; (try simp only [decide_eq_true_eq, decide_eq_false_iff_not, Bool.not_eq_true, Bool.not_eq_false, Bool.not_true, Bool.not_false, Bool.not_eq_eq_eq_not, Bool.and_eq_true, Bool.or_eq_true, beq_iff_eq, bne_iff_ne, beq_eq_false_iff_ne, ne_eq, Classical.not_not, not_true_eq_false, not_false_eq_true, forall_const, Bool.false_eq_true, false_implies, eq_self] at hs); (try (exfalso; omega)); (try simp (disch := omega) only [go_sem, h1, hs])) | (refine z_seqr rfl ?_) | (refine w_seq rfl fun K hK => ?_) | (refine z_reg rfl ?_) | (refine z_cond rfl ?_) | (refine w_skip rfl ?_; ((repeat ((fail_if_success (refine hK _ _ (cl_id ?_))); clear hK)); refine hK _ _ (cl_id ?_); clear hK)) | (refine w_ret rfl ?_; (try dsimp only [anorm, ablock, astay]); refine z_end ?_) | (refine z_end0 ?_) | (refine w_block rfl ?_) | (refine w_scope rfl ?_) | (refine w_label rfl ?_; ((repeat ((fail_if_success (refine hK _ _ (cl_id ?_))); clear hK)); refine hK _ _ (cl_id ?_); clear hK)) | (refine w_exit rfl ?_; (try dsimp only [anorm, ablock, astay]); (try simp only [reduceIte, ↓reduceIte, Nat.reduceEqDiff]); ((repeat ((fail_if_success (refine hK _ _ (cl_id ?_))); clear hK)); refine hK _ _ (cl_id ?_); clear hK)) | (refine jend_go [(8, [2, 3]), (7, [4, 13, 14]), (6, [4, 13, 14]), (5, [4, 13, 14, 15]), (4, [4, 13, 14]), (3, [0, 4]), (2, [2, 3]), (1, [0, 10]), (0, [0])] ?_; simp only [tabAt_cons, sel_nil, sel_cons, put_at, ofl_cons, ofl_nil, T0_at, List.getElem?_cons_zero, List.getElem?_cons_succ, List.getElem?_nil, Option.getD_some, Option.getD_none, reduceIte, ↓reduceIte, Nat.reduceEqDiff]; refine jl_go ?_) | simp (disch := omega) only [go_sem, h1] | (refine jc_t ?_) | (refine jc_f ?_) | (refine And.intro (by (first | omega | (simp; done) | (simp; omega))) ?_) | (refine mc_b (fun hs => ?_) fun hs => ?_) | (refine mg_st (fun hs => ?_) fun hs => ?_) | (refine mg_sf (fun hs => ?_) fun hs => ?_) | (refine mall_s (fun hs => ?_) fun hs => ?_) | (refine malln_s (fun hs => ?_) fun hs => ?_) | (refine mpk_s (fun hs => ?_) fun hs => ?_) | ((repeat ((fail_if_success (refine hK _ _ (cl_id ?_))); clear hK)); refine hK _ _ (cl_id ?_); clear hK)))
    exact cl_id ⟨rfl, rfl⟩
  · have h2 : 67 < n := by omega
    refine calls_q (calls_of Try.func8 rfl (by kernel_rfl) (by kernel_rfl) (by rw [Try.ntmps8]; exact Nat.le_of_ble_eq_true rfl) (fun hH0 hA0 => ?_)); rw [Try.results8]
    (repeat' (first | (have hs := Mk.out hs; (try simp only [decide_eq_true_eq, decide_eq_false_iff_not, Bool.not_eq_true, Bool.not_eq_false, Bool.not_true, Bool.not_false, Bool.not_eq_eq_eq_not, Bool.and_eq_true, Bool.or_eq_true, beq_iff_eq, bne_iff_ne, beq_eq_false_iff_ne, ne_eq, Classical.not_not, not_true_eq_false, not_false_eq_true, forall_const, Bool.false_eq_true, false_implies, eq_self] at hs); (try (exfalso; omega)); (try simp (disch := omega) only [go_sem, h1, h2, hs])) | (refine z_seqr rfl ?_) | (refine w_seq rfl fun K hK => ?_) | (refine z_reg rfl ?_) | (refine z_cond rfl ?_) | (refine w_skip rfl ?_; ((repeat ((fail_if_success (refine hK _ _ (cl_id ?_))); clear hK)); refine hK _ _ (cl_id ?_); clear hK)) | (refine w_ret rfl ?_; (try dsimp only [anorm, ablock, astay]); refine z_end ?_) | (refine z_end0 ?_) | (refine w_block rfl ?_) | (refine w_scope rfl ?_) | (refine w_label rfl ?_; ((repeat ((fail_if_success (refine hK _ _ (cl_id ?_))); clear hK)); refine hK _ _ (cl_id ?_); clear hK)) | (refine w_exit rfl ?_; (try dsimp only [anorm, ablock, astay]); (try simp only [reduceIte, ↓reduceIte, Nat.reduceEqDiff]); ((repeat ((fail_if_success (refine hK _ _ (cl_id ?_))); clear hK)); refine hK _ _ (cl_id ?_); clear hK)) | (refine jend_go [(8, [2, 3]), (7, [4, 13, 14]), (6, [4, 13, 14]), (5, [4, 13, 14, 15]), (4, [4, 13, 14]), (3, [0, 4]), (2, [2, 3]), (1, [0, 10]), (0, [0])] ?_; simp only [tabAt_cons, sel_nil, sel_cons, put_at, ofl_cons, ofl_nil, T0_at, List.getElem?_cons_zero, List.getElem?_cons_succ, List.getElem?_nil, Option.getD_some, Option.getD_none, reduceIte, ↓reduceIte, Nat.reduceEqDiff]; refine jl_go ?_) | simp (disch := omega) only [go_sem, h1, h2] | (refine jc_t ?_) | (refine jc_f ?_) | (refine And.intro (by (first | omega | (simp; done) | (simp; omega))) ?_) | (refine mc_b (fun hs => ?_) fun hs => ?_) | (refine mg_st (fun hs => ?_) fun hs => ?_) | (refine mg_sf (fun hs => ?_) fun hs => ?_) | (refine mall_s (fun hs => ?_) fun hs => ?_) | (refine malln_s (fun hs => ?_) fun hs => ?_) | (refine mpk_s (fun hs => ?_) fun hs => ?_) | ((repeat ((fail_if_success (refine hK _ _ (cl_id ?_))); clear hK)); refine hK _ _ (cl_id ?_); clear hK)))
    exact cl_id ⟨rfl, rfl⟩
theorem lnew_am (n : Nat) (h : 1 ≤ n ∧ n ≤ 67) : ACalls E0 8 [.v (.int .i64 (n : Int))] [] fun r H' => r = .tup [.ptr 0 0, .v (.int .i64 0)] ∧ H' = LH (reps n) := by
  have h1 : ¬ (n : Int) < 1 := by omega
  have h2 : ¬ 67 < (n : Int) := by omega
  refine calls_q (calls_of Try.func8 rfl (by kernel_rfl) (by kernel_rfl) (by rw [Try.ntmps8]; exact Nat.le_of_ble_eq_true rfl) (fun hH0 hA0 => ?_)); rw [Try.results8]
  (repeat' (first | (have hs := Mk.out hs; (try simp only [decide_eq_true_eq, decide_eq_false_iff_not, Bool.not_eq_true, Bool.not_eq_false, Bool.not_true, Bool.not_false, Bool.not_eq_eq_eq_not, Bool.and_eq_true, Bool.or_eq_true, beq_iff_eq, bne_iff_ne, beq_eq_false_iff_ne, ne_eq, Classical.not_not, not_true_eq_false, not_false_eq_true, forall_const, Bool.false_eq_true, false_implies, eq_self] at hs); (try (exfalso; omega)); (try simp (disch := omega) only [go_sem, h1, h2, hs])) | (refine z_seqr rfl ?_) | (refine w_seq rfl fun K hK => ?_) | (refine z_reg rfl ?_) | (refine z_cond rfl ?_) | (refine w_skip rfl ?_; ((repeat ((fail_if_success (refine hK _ _ (cl_id ?_))); clear hK)); refine hK _ _ (cl_id ?_); clear hK)) | (refine w_ret rfl ?_; (try dsimp only [anorm, ablock, astay]); refine z_end ?_) | (refine z_end0 ?_) | (refine w_block rfl ?_) | (refine w_scope rfl ?_) | (refine w_label rfl ?_; ((repeat ((fail_if_success (refine hK _ _ (cl_id ?_))); clear hK)); refine hK _ _ (cl_id ?_); clear hK)) | (refine w_exit rfl ?_; (try dsimp only [anorm, ablock, astay]); (try simp only [reduceIte, ↓reduceIte, Nat.reduceEqDiff]); ((repeat ((fail_if_success (refine hK _ _ (cl_id ?_))); clear hK)); refine hK _ _ (cl_id ?_); clear hK)) | (refine jend_go [(8, [2, 3]), (7, [4, 13, 14]), (6, [4, 13, 14]), (5, [4, 13, 14, 15]), (4, [4, 13, 14]), (3, [0, 4]), (2, [2, 3]), (1, [0, 10]), (0, [0])] ?_; simp only [tabAt_cons, sel_nil, sel_cons, put_at, ofl_cons, ofl_nil, T0_at, List.getElem?_cons_zero, List.getElem?_cons_succ, List.getElem?_nil, Option.getD_some, Option.getD_none, reduceIte, ↓reduceIte, Nat.reduceEqDiff]; refine jl_go ?_) | simp (disch := omega) only [go_sem, h1, h2] | (refine jc_t ?_) | (refine jc_f ?_) | (refine And.intro (by (first | omega | (simp; done) | (simp; omega))) ?_) | (refine mc_b (fun hs => ?_) fun hs => ?_) | (refine mg_st (fun hs => ?_) fun hs => ?_) | (refine mg_sf (fun hs => ?_) fun hs => ?_) | (refine mall_s (fun hs => ?_) fun hs => ?_) | (refine malln_s (fun hs => ?_) fun hs => ?_) | (refine mpk_s (fun hs => ?_) fun hs => ?_) | ((repeat ((fail_if_success (refine hK _ _ (cl_id ?_))); clear hK)); refine hK _ _ (cl_id ?_); clear hK)))
  refine z_loop rfl (fun i => i ≤ n) (fun i => n - i) (fun i => [(4, .ptr 0 0), (13, .v (.int .i64 (n : Int))), (14, .v (.int .i64 (i : Int)))]) (fun i => NH i) 0 (Nat.zero_le _) ?_ ?_
  · refine Cq.trans (T' := ofl [(4, .ptr 0 0), (13, .v (.int .i64 (n : Int))), (14, .v (.int .i64 0))]) (H' := NH 0) (cq_bareC (cs := [.v (.slice none 0 0)]) 1 0 0 rfl rfl) (cq_s ?_)
    (simp (disch := omega) only [go_sem])
  intro i hi K hK
  have l0 := NH_len i
  have n0 := NH_0 i
  have n0L := at_app n0
  have nr := at_app (NH_r i)
  have ll := lps_len i
  by_cases hlt : (i : Int) < n
  · obtain ⟨G, hG⟩ : ∃ G, G = (NH i).set (2 * i + 1) none := ⟨_, rfl⟩
    have ns : ∀ L : Heap, (NH i ++ L).set (2 * i + 1) none = G ++ L := fun L => by rw [hG, List.set_append_left _ _ (by omega)]
    have lG : G.length = 2 * i + 2 := by rw [hG, List.length_set, l0]
    have gs : ∀ (L : Heap) (x : Option Blk), (G ++ L).set 0 x = G.set 0 x ++ L := fun L x => List.set_append_left _ _ (by omega)
    have g0 : ∀ L : Heap, (G ++ L)[0]? = some (some (.obj [.hs (2 * i + 1) 1 0 i])) := fun L => by
      refine at_app ?_ L
      rw [hG, List.getElem?_set_ne (by omega)]
      exact n0
    have q5 : ∀ A B C : Option Blk, (NH i ++ [A, B, C])[2 * i + 2 + 2]? = some C := fun A B C => by rw [List.getElem?_append_right (by omega), l0]; simp
    have tk : List.take i (lps i) = lps i := List.take_of_length_le (by omega)
    have hK2 := fun T' H' => hK T' H' (i + 1) (by omega) (by omega)
    have hF : NF i = G.set 0 (some (.obj [.hs (2 * i + 2 + 3) 1 0 (i + 1)])) ++ [some (mB vI []), some (.obj [.mp (2 * i + 2), .sl 2 (cels ([] : List (Int × Bool)))]), some (.row true 1 [[.ptr (2 * i + 2 + 1) 0]]), some (.row true 1 (lps i ++ [[.ptr (2 * i + 2 + 1) 0]]))] := by rw [hG]; rfl
    clear hK hG
    generalize NH i = H at *
    generalize lps i = ps at *
    (repeat' (first | (have hs := Mk.out hs; (try simp only [decide_eq_true_eq, decide_eq_false_iff_not, Bool.not_eq_true, Bool.not_eq_false, Bool.not_true, Bool.not_false, Bool.not_eq_eq_eq_not, Bool.and_eq_true, Bool.or_eq_true, beq_iff_eq, bne_iff_ne, beq_eq_false_iff_ne, ne_eq, Classical.not_not, not_true_eq_false, not_false_eq_true, forall_const, Bool.false_eq_true, false_implies, eq_self] at hs); (try (exfalso; omega)); (try simp (disch := omega) only [go_sem, l0, n0, n0L, nr, ns, lG, gs, g0, q5, tk, hlt, ll, hs])) | (refine z_seqr rfl ?_) | (refine w_seq rfl fun K hK => ?_) | (refine z_reg rfl ?_) | (refine z_cond rfl ?_) | (refine w_skip rfl ?_; ((repeat ((fail_if_success (refine hK _ _ (cl_id ?_))); clear hK)); refine hK _ _ (cl_id ?_); clear hK)) | (refine w_ret rfl ?_; (try dsimp only [anorm, ablock, astay]); refine z_end ?_) | (refine z_end0 ?_) | (refine w_block rfl ?_) | (refine w_scope rfl ?_) | (refine w_label rfl ?_; ((repeat ((fail_if_success (refine hK _ _ (cl_id ?_))); clear hK)); refine hK _ _ (cl_id ?_); clear hK)) | (refine w_exit rfl ?_; (try dsimp only [anorm, ablock, astay]); (try simp only [reduceIte, ↓reduceIte, Nat.reduceEqDiff]); ((repeat ((fail_if_success (refine hK _ _ (cl_id ?_))); clear hK)); refine hK _ _ (cl_id ?_); clear hK)) | (refine jend_go [(8, [2, 3]), (7, [4, 13, 14]), (6, [4, 13, 14]), (5, [4, 13, 14, 15]), (4, [4, 13, 14]), (3, [0, 4]), (2, [2, 3]), (1, [0, 10]), (0, [0])] ?_; simp only [tabAt_cons, sel_nil, sel_cons, put_at, ofl_cons, ofl_nil, T0_at, List.getElem?_cons_zero, List.getElem?_cons_succ, List.getElem?_nil, Option.getD_some, Option.getD_none, reduceIte, ↓reduceIte, Nat.reduceEqDiff]; refine jl_go ?_) | simp (disch := omega) only [go_sem, l0, n0, n0L, nr, ns, lG, gs, g0, q5, tk, hlt, ll] | (refine jc_t ?_) | (refine jc_f ?_) | (refine And.intro (by (first | omega | (simp; done) | (simp; omega))) ?_) | (refine mc_b (fun hs => ?_) fun hs => ?_) | (refine mg_st (fun hs => ?_) fun hs => ?_) | (refine mg_sf (fun hs => ?_) fun hs => ?_) | (refine mall_s (fun hs => ?_) fun hs => ?_) | (refine malln_s (fun hs => ?_) fun hs => ?_) | (refine mpk_s (fun hs => ?_) fun hs => ?_) | ((repeat ((fail_if_success (refine hK _ _ (cl_id ?_))); clear hK)); refine hK _ _ (cl_id ?_); clear hK)))
    have hr : (G.set 0 (some (Blk.obj [.hs (2 * i + 2 + 3) 1 0 (i + 1)])) ++ [some (mB vI []), some (Blk.obj [.mp (2 * i + 2), .v (Value.slice none 0 0)]), some (Blk.row true 1 [[.ptr (2 * i + 2 + 1) 0]]), some (Blk.row true 1 (ps ++ [[.ptr (2 * i + 2 + 1) 0]]))] : Heap)[2 * i + 2 + 1]? = some (some (Blk.obj [.mp (2 * i + 2), .v (Value.slice none 0 0)])) := by
      rw [List.getElem?_append_right (by rw [List.length_set, lG]; omega), List.length_set, lG, show 2 * i + 2 + 1 - (2 * i + 2) = 1 by omega]
      rfl
    have hs : (G.set 0 (some (Blk.obj [.hs (2 * i + 2 + 3) 1 0 (i + 1)])) ++ [some (mB vI []), some (Blk.obj [.mp (2 * i + 2), .v (Value.slice none 0 0)]), some (Blk.row true 1 [[.ptr (2 * i + 2 + 1) 0]]), some (Blk.row true 1 (ps ++ [[.ptr (2 * i + 2 + 1) 0]]))] : Heap).set (2 * i + 2 + 1) (some (Blk.obj [.mp (2 * i + 2), .sl 2 (cels ([] : List (Int × Bool)))])) = NF i := by
      rw [hF, List.set_append_right _ _ (by rw [List.length_set, lG]; omega), List.length_set, lG, show 2 * i + 2 + 1 - (2 * i + 2) = 1 by omega]
      rfl
    have hw := fun T => cq_wkO (E := E0) (n := 0) (T := T) (2 * i + 2 + 1) hr (cs' := [.mp (2 * i + 2), .sl 2 (cels ([] : List (Int × Bool)))]) ⟨Wk.refl _, Wk.nil 2, trivial⟩
    rw [hs] at hw
    have nf0 : nf i 0 = 0 := by unfold nf; rw [if_pos (by omega)]
    have hl2 := NH_len (i + 1)
    have hl3 : 0 < (NH (i + 1)).length := by omega
    refine hK2 _ _ ((hw _).trans (cq_new i rfl ?_))
    (simp (disch := omega) only [go_sem, nf0, hl3])
    omega
  · obtain rfl : i = n := by omega
    clear hK
    (repeat' (first | (have hs := Mk.out hs; (try simp only [decide_eq_true_eq, decide_eq_false_iff_not, Bool.not_eq_true, Bool.not_eq_false, Bool.not_true, Bool.not_false, Bool.not_eq_eq_eq_not, Bool.and_eq_true, Bool.or_eq_true, beq_iff_eq, bne_iff_ne, beq_eq_false_iff_ne, ne_eq, Classical.not_not, not_true_eq_false, not_false_eq_true, forall_const, Bool.false_eq_true, false_implies, eq_self] at hs); (try (exfalso; omega)); (try simp (disch := omega) only [go_sem, n0, hlt, hs])) | (refine z_seqr rfl ?_) | (refine w_seq rfl fun K hK => ?_) | (refine z_reg rfl ?_) | (refine z_cond rfl ?_) | (refine w_skip rfl ?_; ((repeat ((fail_if_success (refine hK _ _ (cl_id ?_))); clear hK)); refine hK _ _ (cl_id ?_); clear hK)) | (refine w_ret rfl ?_; (try dsimp only [anorm, ablock, astay]); refine z_end ?_) | (refine z_end0 ?_) | (refine w_block rfl ?_) | (refine w_scope rfl ?_) | (refine w_label rfl ?_; ((repeat ((fail_if_success (refine hK _ _ (cl_id ?_))); clear hK)); refine hK _ _ (cl_id ?_); clear hK)) | (refine w_exit rfl ?_; (try dsimp only [anorm, ablock, astay]); (try simp only [reduceIte, ↓reduceIte, Nat.reduceEqDiff]); ((repeat ((fail_if_success (refine hK _ _ (cl_id ?_))); clear hK)); refine hK _ _ (cl_id ?_); clear hK)) | (refine jend_go [(8, [2, 3]), (7, [4, 13, 14]), (6, [4, 13, 14]), (5, [4, 13, 14, 15]), (4, [4, 13, 14]), (3, [0, 4]), (2, [2, 3]), (1, [0, 10]), (0, [0])] ?_; simp only [tabAt_cons, sel_nil, sel_cons, put_at, ofl_cons, ofl_nil, T0_at, List.getElem?_cons_zero, List.getElem?_cons_succ, List.getElem?_nil, Option.getD_some, Option.getD_none, reduceIte, ↓reduceIte, Nat.reduceEqDiff]; refine jl_go ?_) | simp (disch := omega) only [go_sem, n0, hlt] | (refine jc_t ?_) | (refine jc_f ?_) | (refine And.intro (by (first | omega | (simp; done) | (simp; omega))) ?_) | (refine mc_b (fun hs => ?_) fun hs => ?_) | (refine mg_st (fun hs => ?_) fun hs => ?_) | (refine mg_sf (fun hs => ?_) fun hs => ?_) | (refine mall_s (fun hs => ?_) fun hs => ?_) | (refine malln_s (fun hs => ?_) fun hs => ?_) | (refine mpk_s (fun hs => ?_) fun hs => ?_) | ((repeat ((fail_if_success (refine hK _ _ (cl_id ?_))); clear hK)); refine hK _ _ (cl_id ?_); clear hK)))
    exact ⟨_, _, cq_done i (tl := [(0, .tup [.ptr 0 0, .v (.int .i64 0)])]) (fun x hx => by rw [List.mem_singleton.1 hx]; rfl) ⟨⟨⟨by unfold nb; rw [LH_len]; omega, trivial, trivial⟩, Wk.refl _⟩, trivial⟩, rfl, rfl⟩
end Go.Proofs.Ytckppkimjiifpaa
