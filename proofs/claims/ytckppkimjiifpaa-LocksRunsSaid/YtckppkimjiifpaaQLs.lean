/- Locks: who holds a lock, by the machine, over the library's sort. No condition but bounds of lengths. -/
import Derived.Test.YtckppkimjiifpaaQLj
import Derived.Test.YtckppkimjiifpaaQSo
import Derived.Test.YtckppkimjiifpaaQb1
import Derived.Test.YtckppkimjiifpaaQgs
set_option linter.unusedSectionVars false
set_option linter.unusedVariables false
set_option linter.unusedSimpArgs false
set_option linter.deprecated false
namespace Go.Proofs.Ytckppkimjiifpaa
open Go.RowKit Go.Cx Go.Am
set_option maxRecDepth 8000
set_option maxHeartbeats 2000000
attribute [local irreducible] ACalls jcall jsame jex jexg jexh jguard jconv jload jpart jstore jbin jslice jidxA jidx jfield jfieldA jbuild jbuildS jmake jappend jlen jpick jres jcnd jcopy jcap jborn jdraw jops jop jstr jstrc jlive jend jlenM jmmake jlook jmput jmdel jrange jnext jentry jlk jmp2 jmd2 jlm jrg jnx jny jen jeo
attribute [local go_sem] reduceIte Nat.reduceEqDiff Nat.reduceAdd Nat.reduceMul Nat.reduceLT Nat.reduceLeDiff Nat.reduceSub Int.reduceLT Int.reduceLE Int.reduceToNat Int.reduceNeg Int.reduceAdd Int.reduceSub UInt8.reduceToNat Int.reduceEq reduceCtorEq Int.reducePow Int.reduceMul Nat.reducePow E0
attribute [local go_sem ↓] reduceIte
attribute [local go_sem high] chunks_bvs
attribute [local go_sem] tgs_nil tgs_snoc tagC_eq rwb_nil jop_makeMap jop_lookup jop_mapUpdate jop_delete jop_range jop_next jop_entry jmmake_m jlook_m jlk_mI jmput_m jmp2_mI jmdel_m jmd2_mB jlenM_m jlm_mB jrange_m jnext_m jnx_m jentry_m jen_m jeo_mS nbB_mI nbB_mSI bmap_mI bmap_mSI mB_nil vI nbB_o nbB_r nbB_i bmap_o bmap_r bmap_i gfB_o gfB_r gfB_i cl1_iiib
attribute [local go_sem ←] List.map_take List.map_drop

theorem srtI_perm {a b : List Int} (h : a.Perm b) : srtI a = srtI b := by
  have p1 : (srtI a).Perm (srtI b) := (List.mergeSort_perm ..).trans (h.trans (List.mergeSort_perm ..).symm)
  have tot : ∀ x y : Int, (decide (x ≤ y) || decide (y ≤ x)) = true := fun x y => by
    rcases Int.le_total x y with h | h <;> simp [h]
  have tr : ∀ x y z : Int, decide (x ≤ y) = true → decide (y ≤ z) = true → decide (x ≤ z) = true := fun x y z h1 h2 => by
    simp only [decide_eq_true_eq] at *
    omega
  have s1 := List.pairwise_mergeSort tr tot a
  have s2 := List.pairwise_mergeSort tr tot b
  refine List.Perm.eq_of_pairwise (fun x y _ _ h1 h2 => ?_) s1 s2 p1
  simp only [decide_eq_true_eq] at h1 h2
  omega
/-- The keys met, in the order that they were met in. -/
def met (m : List (Int × Int)) (s : List Nat) : List Int := s.map fun i => (m.getD i (0, 0)).1
theorem met_snoc {m : List (Int × Int)} {s : List Nat} {i : Nat} {k a : Int} (h : m[i]? = some (k, a)) : met m (s ++ [i]) = met m s ++ [k] := by
  simp [met, List.getD_eq_getElem?_getD, h]
theorem met_all {m : List (Int × Int)} {s : List Nat} (h1 : s.Nodup) (h2 : ∀ i ∈ s, i < m.length) (h3 : ∀ i, i < m.length → i ∈ s) : (met m s).Perm (m.map (·.1)) := by
  have hp : s.Perm (List.range m.length) := by
    refine (List.perm_ext_iff_of_nodup h1 List.nodup_range).2 fun i => ?_
    rw [List.mem_range]
    exact ⟨h2 i, h3 i⟩
  have := hp.map fun i => (m.getD i (0, 0)).1
  refine this.trans (List.Perm.of_eq ?_)
  apply List.ext_getElem?
  intro j
  rw [List.getElem?_map, List.getElem?_map]
  by_cases hj : j < m.length
  · rw [List.getElem?_range hj, List.getElem?_eq_getElem hj]
    simp [List.getD_eq_getElem?_getD, hj]
  · rw [List.getElem?_eq_none (by simp; omega), List.getElem?_eq_none (by omega)]
    rfl
def SortOk : Prop := ∀ l : List Int, l.length ≤ 1000000 → ACalls E0 29 [.hs 0 1 0 l.length, .fn 30 [] []] [some (.row true 1 (cels l))] fun r H' => r = .tup [] ∧ H' = [some (.row true 1 (cels (srtI l)))]
def holders (st : List Lk) (i : Nat) : List Int := srtI ((lk st i).held.map (·.1))
theorem lholders_am (hso : SortOk) (st : List Lk) (i : Nat) (hi : i < st.length) (hr : (lk st i).held.length ≤ 1000000) : ACalls E0 17 [.ptr 0 0, .v (.int .i64 (i : Int))] (LH st) fun r H' => r = .sl 1 (cels (holders st i)) ∧ H' = LH st := by
  have h1 := lat_am st i hi
  have g1 := LH_o st hi
  have g2 := LH_m st hi
  have l0 := LH_len st
  unfold holders
  generalize (lk st i).held = m at *
  refine calls_q (calls_of Try.func17 rfl (by kernel_rfl) (by kernel_rfl) (by rw [Try.ntmps17]; exact Nat.le_of_ble_eq_true rfl) (fun hH0 hA0 => ?_)); rw [Try.results17]
  (repeat' (first | (have hs := Mk.out hs; (try simp only [decide_eq_true_eq, decide_eq_false_iff_not, Bool.not_eq_true, Bool.not_eq_false, Bool.not_true, Bool.not_false, Bool.not_eq_eq_eq_not, Bool.and_eq_true, Bool.or_eq_true, beq_iff_eq, bne_iff_ne, beq_eq_false_iff_ne, ne_eq, Classical.not_not, not_true_eq_false, not_false_eq_true, forall_const, Bool.false_eq_true, false_implies, eq_self] at hs); (try (exfalso; omega)); (try simp (disch := omega) only [go_sem, g1, g2, hs])) | (refine z_seqr rfl ?_) | (refine w_seq rfl fun K hK => ?_) | (refine z_reg rfl ?_) | (refine z_cond rfl ?_) | (refine w_skip rfl ?_; ((repeat ((fail_if_success (refine hK _ _ (cl_id ?_))); clear hK)); refine hK _ _ (cl_id ?_); clear hK)) | (refine w_ret rfl ?_; (try dsimp only [anorm, ablock, astay]); refine z_end ?_) | (refine z_end0 ?_) | (refine w_block rfl ?_) | (refine w_scope rfl ?_) | (refine w_label rfl ?_; ((repeat ((fail_if_success (refine hK _ _ (cl_id ?_))); clear hK)); refine hK _ _ (cl_id ?_); clear hK)) | (refine w_exit rfl ?_; (try dsimp only [anorm, ablock, astay]); (try simp only [reduceIte, ↓reduceIte, Nat.reduceEqDiff]); ((repeat ((fail_if_success (refine hK _ _ (cl_id ?_))); clear hK)); refine hK _ _ (cl_id ?_); clear hK)) | (refine jend_go [(10, [4]), (9, [6]), (8, [6, 17]), (7, [6, 7, 17]), (6, [6, 17, 19]), (5, [6, 17]), (4, [5, 6]), (3, [4]), (2, [5, 12]), (1, [5]), (0, [0, 1])] ?_; simp only [tabAt_cons, sel_nil, sel_cons, put_at, ofl_cons, ofl_nil, T0_at, List.getElem?_cons_zero, List.getElem?_cons_succ, List.getElem?_nil, Option.getD_some, Option.getD_none, reduceIte, ↓reduceIte, Nat.reduceEqDiff]; refine jl_go ?_) | simp (disch := omega) only [go_sem, g1, g2] | (refine jc_t ?_) | (refine jc_f ?_) | (refine z_ret (h1) ?_) | (refine jrg_go fun bs c => ?_) | (refine And.intro (by (first | omega | (simp; done) | (simp; omega))) ?_) | (refine mc_b (fun hs => ?_) fun hs => ?_) | (refine mg_st (fun hs => ?_) fun hs => ?_) | (refine mg_sf (fun hs => ?_) fun hs => ?_) | (refine mall_s (fun hs => ?_) fun hs => ?_) | (refine malln_s (fun hs => ?_) fun hs => ?_) | (refine mpk_s (fun hs => ?_) fun hs => ?_) | ((repeat ((fail_if_success (refine hK _ _ (cl_id ?_))); clear hK)); refine hK _ _ (cl_id ?_); clear hK)))
  obtain ⟨G, hG⟩ : ∃ G, G = (LH st).set (2 * i + 2) (some (mS vI m bs c)) := ⟨_, rfl⟩
  have lG : G.length = (LH st).length := by rw [hG, List.length_set]
  have gm : G[2 * i + 2]? = some (some (mS vI m bs c)) := by
    rw [hG, List.getElem?_set, if_pos rfl, if_pos (by omega)]
  have gmL := at_app gm
  have gb : G.set (2 * i + 2) (some (mB vI m)) = LH st := by
    rw [hG, List.set_set]
    exact set_same g2
  have gnb : ∀ (k : Nat) (B : Blk), G[k]? = some (some B) → nbB G.length B := by
    intro k B hk
    rw [lG]
    rw [hG, List.getElem?_set] at hk
    split at hk
    · split at hk
      · cases hk
        exact of_eq_true nbB_mSI
      · cases hk
    · exact LH_nbs st k B hk
  rw [← hG, ← lG]
  refine z_loop (α := List Nat) rfl (fun s => s.Nodup ∧ ∀ j ∈ s, j < m.length) (fun s => todo m.length s) (fun s => [(6, .hs (G.length + 1) 1 0 s.length), (17, .ptr G.length 0)]) (fun s => G ++ [some (.iter (2 * i + 2) bs c s), some (.row true 1 (cels (met m s)))]) [] ⟨by simp, by simp⟩ ?_ ?_
  · have hb := cq_bare (E := E0) (n := G.length) (T := ofl [(6, .v (.slice none 0 0)), (17, .ptr G.length 0)]) (H := G ++ [some (.iter (2 * i + 2) bs c [])]) 1 6 rfl
    rw [List.append_assoc, List.length_append] at hb
    refine hb.trans (cq_s ?_)
    (simp (disch := omega) only [go_sem])
  rintro s ⟨hs1, hs2⟩ K hK
  have hml : (met m s).length = s.length := by simp [met]
  have hsl : s.length ≤ m.length := by
    have hp : s.Perm ((List.range m.length).filter fun j => decide (j ∈ s)) := (List.perm_ext_iff_of_nodup hs1 (List.nodup_range.filter _)).2 fun j => by
      rw [List.mem_filter, List.mem_range, decide_eq_true_eq]
      exact ⟨fun h => ⟨hs2 j h, h⟩, fun h => h.2⟩
    have := List.length_filter_le (fun j => decide (j ∈ s)) (List.range m.length)
    rw [List.length_range] at this
    exact Nat.le_trans (Nat.le_of_eq hp.length_eq) this
  (repeat' (first | (have hs := Mk.out hs; (try simp only [decide_eq_true_eq, decide_eq_false_iff_not, Bool.not_eq_true, Bool.not_eq_false, Bool.not_true, Bool.not_false, Bool.not_eq_eq_eq_not, Bool.and_eq_true, Bool.or_eq_true, beq_iff_eq, bne_iff_ne, beq_eq_false_iff_ne, ne_eq, Classical.not_not, not_true_eq_false, not_false_eq_true, forall_const, Bool.false_eq_true, false_implies, eq_self] at hs); (try (exfalso; omega)); (try simp (disch := omega) only [go_sem, gm, gmL, hs])) | (refine z_seqr rfl ?_) | (refine w_seq rfl fun K hK => ?_) | (refine z_reg rfl ?_) | (refine z_cond rfl ?_) | (refine w_skip rfl ?_; ((repeat ((fail_if_success (refine hK _ _ (cl_id ?_))); clear hK)); refine hK _ _ (cl_id ?_); clear hK)) | (refine w_ret rfl ?_; (try dsimp only [anorm, ablock, astay]); refine z_end ?_) | (refine z_end0 ?_) | (refine w_block rfl ?_) | (refine w_scope rfl ?_) | (refine w_label rfl ?_; ((repeat ((fail_if_success (refine hK _ _ (cl_id ?_))); clear hK)); refine hK _ _ (cl_id ?_); clear hK)) | (refine w_exit rfl ?_; (try dsimp only [anorm, ablock, astay]); (try simp only [reduceIte, ↓reduceIte, Nat.reduceEqDiff]); ((repeat ((fail_if_success (refine hK _ _ (cl_id ?_))); clear hK)); refine hK _ _ (cl_id ?_); clear hK)) | (refine jend_go [(10, [4]), (9, [6]), (8, [6, 17]), (7, [6, 7, 17]), (6, [6, 17, 19]), (5, [6, 17]), (4, [5, 6]), (3, [4]), (2, [5, 12]), (1, [5]), (0, [0, 1])] ?_; simp only [tabAt_cons, sel_nil, sel_cons, put_at, ofl_cons, ofl_nil, T0_at, List.getElem?_cons_zero, List.getElem?_cons_succ, List.getElem?_nil, Option.getD_some, Option.getD_none, reduceIte, ↓reduceIte, Nat.reduceEqDiff]; refine jl_go ?_) | simp (disch := omega) only [go_sem, gm, gmL] | (refine jc_t ?_) | (refine jc_f ?_) | (refine And.intro (by (first | omega | (simp; done) | (simp; omega))) ?_) | (refine mc_b (fun hs => ?_) fun hs => ?_) | (refine mg_st (fun hs => ?_) fun hs => ?_) | (refine mg_sf (fun hs => ?_) fun hs => ?_) | (refine mall_s (fun hs => ?_) fun hs => ?_) | (refine malln_s (fun hs => ?_) fun hs => ?_) | (refine mpk_s (fun hs => ?_) fun hs => ?_) | ((repeat ((fail_if_success (refine hK _ _ (cl_id ?_))); clear hK)); refine hK _ _ (cl_id ?_); clear hK)))
  refine jny_go (f := vI) (fun hall => ?_) (fun j k a hm hsn => ?_)
  · clear hK
    have hp := met_all hs1 hs2 hall
    have hso2 := hso (met m s) (by omega)
    rw [srtI_perm hp, hml] at hso2
    have hzl : s.length = (srtI (m.map (·.1))).length := by rw [srtI_len, ← hml]; exact hp.length_eq
    generalize srtI (m.map (·.1)) = z at *
    have q1 : G.length + 1 < G.length + 2 := by omega
    (repeat' (first | (have hs := Mk.out hs; (try simp only [decide_eq_true_eq, decide_eq_false_iff_not, Bool.not_eq_true, Bool.not_eq_false, Bool.not_true, Bool.not_false, Bool.not_eq_eq_eq_not, Bool.and_eq_true, Bool.or_eq_true, beq_iff_eq, bne_iff_ne, beq_eq_false_iff_ne, ne_eq, Classical.not_not, not_true_eq_false, not_false_eq_true, forall_const, Bool.false_eq_true, false_implies, eq_self] at hs); (try (exfalso; omega)); (try simp (disch := omega) only [go_sem, gm, gmL, q1, hs])) | (refine z_seqr rfl ?_) | (refine w_seq rfl fun K hK => ?_) | (refine z_reg rfl ?_) | (refine z_cond rfl ?_) | (refine w_skip rfl ?_; ((repeat ((fail_if_success (refine hK _ _ (cl_id ?_))); clear hK)); refine hK _ _ (cl_id ?_); clear hK)) | (refine w_ret rfl ?_; (try dsimp only [anorm, ablock, astay]); refine z_end ?_) | (refine z_end0 ?_) | (refine w_block rfl ?_) | (refine w_scope rfl ?_) | (refine w_label rfl ?_; ((repeat ((fail_if_success (refine hK _ _ (cl_id ?_))); clear hK)); refine hK _ _ (cl_id ?_); clear hK)) | (refine w_exit rfl ?_; (try dsimp only [anorm, ablock, astay]); (try simp only [reduceIte, ↓reduceIte, Nat.reduceEqDiff]); ((repeat ((fail_if_success (refine hK _ _ (cl_id ?_))); clear hK)); refine hK _ _ (cl_id ?_); clear hK)) | (refine jend_go [(10, [4]), (9, [6]), (8, [6, 17]), (7, [6, 7, 17]), (6, [6, 17, 19]), (5, [6, 17]), (4, [5, 6]), (3, [4]), (2, [5, 12]), (1, [5]), (0, [0, 1])] ?_; simp only [tabAt_cons, sel_nil, sel_cons, put_at, ofl_cons, ofl_nil, T0_at, List.getElem?_cons_zero, List.getElem?_cons_succ, List.getElem?_nil, Option.getD_some, Option.getD_none, reduceIte, ↓reduceIte, Nat.reduceEqDiff]; refine jl_go ?_) | simp (disch := omega) only [go_sem, gm, gmL, q1] | (refine jc_t ?_) | (refine jc_f ?_) | (apply zc (hso2) [G.length + 1]; (case ok => simp (disch := omega) only [go_sem, cok, sgOk, bcl, gm, gmL, q1])) | (refine And.intro (by (first | omega | (simp; done) | (simp; omega))) ?_) | (refine mc_b (fun hs => ?_) fun hs => ?_) | (refine mg_st (fun hs => ?_) fun hs => ?_) | (refine mg_sf (fun hs => ?_) fun hs => ?_) | (refine mall_s (fun hs => ?_) fun hs => ?_) | (refine malln_s (fun hs => ?_) fun hs => ?_) | (refine mpk_s (fun hs => ?_) fun hs => ?_) | ((repeat ((fail_if_success (refine hK _ _ (cl_id ?_))); clear hK)); refine hK _ _ (cl_id ?_); clear hK)))
    refine (cq_forget (f := vI) (m := m) (2 * i + 2) (gmL _)).cl ?_
    rw [List.set_append_left _ _ (by omega), gb, lG, hzl]
    exact end_L 1 (Nat.le_refl _) ⟨rfl, rfl⟩ ⟨of_eq_true (cels_nbss _), Wk.of (frzC (Nat.le_succ _) (by rw [Nat.add_sub_cancel_left]; rfl) rfl)⟩
  · have hK2 := fun T' H' => hK T' H' (s ++ [j]) ⟨List.nodup_append.2 ⟨hs1, by simp, fun x hx y hy e => by
      rw [List.mem_singleton] at hy
      rw [e, hy] at hx
      exact hsn hx⟩, fun x hx => by
      rcases List.mem_append.1 hx with hx | hx
      · exact hs2 x hx
      · rw [List.mem_singleton.1 hx]
        exact (List.getElem?_eq_some_iff.1 hm).1⟩ (todo_less (List.getElem?_eq_some_iff.1 hm).1 hsn)
    clear hK
    rw [met_snoc hm] at hK2
    have hs3 : (s ++ [j]).length = s.length + 1 := by simp
    rw [hs3] at hK2
    generalize met m s = acc at *
    rw [← hml] at hK2 hsl
    rw [← hml]
    have hle : acc.length ≤ m.length := hsl
    have tk : List.take acc.length acc = acc := List.take_length
    (repeat' (first | (have hs := Mk.out hs; (try simp only [decide_eq_true_eq, decide_eq_false_iff_not, Bool.not_eq_true, Bool.not_eq_false, Bool.not_true, Bool.not_false, Bool.not_eq_eq_eq_not, Bool.and_eq_true, Bool.or_eq_true, beq_iff_eq, bne_iff_ne, beq_eq_false_iff_ne, ne_eq, Classical.not_not, not_true_eq_false, not_false_eq_true, forall_const, Bool.false_eq_true, false_implies, eq_self] at hs); (try (exfalso; omega)); (try simp (disch := omega) only [go_sem, gm, gmL, hm, tk, hs])) | (refine z_seqr rfl ?_) | (refine w_seq rfl fun K hK => ?_) | (refine z_reg rfl ?_) | (refine z_cond rfl ?_) | (refine w_skip rfl ?_; ((repeat ((fail_if_success (refine hK _ _ (cl_id ?_))); clear hK)); refine hK _ _ (cl_id ?_); clear hK)) | (refine w_ret rfl ?_; (try dsimp only [anorm, ablock, astay]); refine z_end ?_) | (refine z_end0 ?_) | (refine w_block rfl ?_) | (refine w_scope rfl ?_) | (refine w_label rfl ?_; ((repeat ((fail_if_success (refine hK _ _ (cl_id ?_))); clear hK)); refine hK _ _ (cl_id ?_); clear hK)) | (refine w_exit rfl ?_; (try dsimp only [anorm, ablock, astay]); (try simp only [reduceIte, ↓reduceIte, Nat.reduceEqDiff]); ((repeat ((fail_if_success (refine hK _ _ (cl_id ?_))); clear hK)); refine hK _ _ (cl_id ?_); clear hK)) | (refine jend_go [(10, [4]), (9, [6]), (8, [6, 17]), (7, [6, 7, 17]), (6, [6, 17, 19]), (5, [6, 17]), (4, [5, 6]), (3, [4]), (2, [5, 12]), (1, [5]), (0, [0, 1])] ?_; simp only [tabAt_cons, sel_nil, sel_cons, put_at, ofl_cons, ofl_nil, T0_at, List.getElem?_cons_zero, List.getElem?_cons_succ, List.getElem?_nil, Option.getD_some, Option.getD_none, reduceIte, ↓reduceIte, Nat.reduceEqDiff]; refine jl_go ?_) | simp (disch := omega) only [go_sem, gm, gmL, hm, tk] | (refine jc_t ?_) | (refine jc_f ?_) | (refine And.intro (by (first | omega | (simp; done) | (simp; omega))) ?_) | (refine mc_b (fun hs => ?_) fun hs => ?_) | (refine mg_st (fun hs => ?_) fun hs => ?_) | (refine mg_sf (fun hs => ?_) fun hs => ?_) | (refine mall_s (fun hs => ?_) fun hs => ?_) | (refine malln_s (fun hs => ?_) fun hs => ?_) | (refine mpk_s (fun hs => ?_) fun hs => ?_) | ((repeat ((fail_if_success (refine hK _ _ (cl_id ?_))); clear hK)); refine hK _ _ (cl_id ?_); clear hK)))
    refine hK2 _ _ (cq_ren [0, 3] (Nat.le_refl _) gnb (by decide) ?_ ?_)
    · (simp (disch := omega) only [go_sem])
    · (simp (disch := omega) only [go_sem])
      omega
end Go.Proofs.Ytckppkimjiifpaa
