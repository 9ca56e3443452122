/- Locks: another one that stands alike, by the machine: the walk. No condition but bounds of lengths. -/
import Derived.Test.YtckppkimjiifpaaQNg
import Derived.Test.YtckppkimjiifpaaQLs
import Derived.Test.YtckppkimjiifpaaQb1
import Derived.Test.YtckppkimjiifpaaQgs
set_option linter.unusedSectionVars false
set_option linter.unusedVariables false
set_option linter.unusedSimpArgs false
set_option linter.deprecated false
namespace Go.Proofs.Ytckppkimjiifpaa
open Go.RowKit Go.Cx Go.Am
set_option maxRecDepth 8000
set_option maxHeartbeats 2000000
attribute [local irreducible] ACalls jcall jsame jex jexg jexh jguard jconv jload jpart jstore jbin jslice jidxA jidx jfield jfieldA jbuild jbuildS jmake jappend jlen jpick jres jcnd jcopy jcap jborn jdraw jops jop jstr jstrc jlive jend jlenM jmmake jlook jmput jmdel jrange jnext jentry jlk jmp2 jmd2 jlm jrg jnx jny jen jeo
attribute [local go_sem] reduceIte Nat.reduceEqDiff Nat.reduceAdd Nat.reduceMul Nat.reduceLT Nat.reduceLeDiff Nat.reduceSub Int.reduceLT Int.reduceLE Int.reduceToNat Int.reduceNeg Int.reduceAdd Int.reduceSub UInt8.reduceToNat Int.reduceEq reduceCtorEq Int.reducePow Int.reduceMul Nat.reducePow E0
attribute [local go_sem ↓] reduceIte
attribute [local go_sem high] chunks_bvs
attribute [local go_sem] tgs_nil tgs_snoc tagC_eq rwb_nil jop_makeMap jop_lookup jop_mapUpdate jop_delete jop_range jop_next jop_entry jmmake_m jlook_m jlk_mI jmput_m jmp2_mI jmdel_m jmd2_mB jlenM_m jlm_mB jrange_m jnext_m jnx_m jentry_m jen_m jeo_mS nbB_mI nbB_mSI bmap_mI bmap_mSI mB_nil vI nbB_o nbB_r nbB_i bmap_o bmap_r bmap_i gfB_o gfB_r gfB_i cl1_iiib
attribute [local go_sem ←] List.map_take List.map_drop

/-- The entries met, in the order that they were met in. -/
def metP (m : List (Int × Int)) (s : List Nat) : List (Int × Int) := s.map fun i => m.getD i (0, 0)
theorem metP_snoc {m : List (Int × Int)} {s : List Nat} {i : Nat} {p : Int × Int} (h : m[i]? = some p) : metP m (s ++ [i]) = metP m s ++ [p] := by
  simp [metP, List.getD_eq_getElem?_getD, h]
theorem metP_all {m : List (Int × Int)} {s : List Nat} (h1 : s.Nodup) (h2 : ∀ i ∈ s, i < m.length) (h3 : ∀ i, i < m.length → i ∈ s) : (metP m s).Perm m := by
  have hp : s.Perm (List.range m.length) := by
    refine (List.perm_ext_iff_of_nodup h1 List.nodup_range).2 fun i => ?_
    rw [List.mem_range]
    exact ⟨h2 i, h3 i⟩
  have := hp.map fun i => m.getD i (0, 0)
  refine this.trans (List.Perm.of_eq ?_)
  apply List.ext_getElem?
  intro j
  rw [List.getElem?_map]
  by_cases hj : j < m.length
  · rw [List.getElem?_range hj]
    simp [List.getD_eq_getElem?_getD, hj]
  · rw [List.getElem?_eq_none (by simp; omega), List.getElem?_eq_none (by omega)]
    rfl
theorem metP_key {m : List (Int × Int)} {s : List Nat} {i : Nat} {k a : Int} (hnd : (keys m).Nodup) (hs : ∀ j ∈ s, j < m.length) (hm : m[i]? = some (k, a)) (hi : i ∉ s) : k ∉ keys (metP m s) := by
  intro h
  unfold keys metP at h
  rw [List.map_map] at h
  obtain ⟨j, hj, e⟩ := List.mem_map.1 h
  have hjl := hs j hj
  have hil := (List.getElem?_eq_some_iff.1 hm).1
  have e1 : (keys m)[j]'(by simp [keys]; omega) = (keys m)[i]'(by simp [keys]; omega) := by
    have a1 : m[i] = (k, a) := (List.getElem?_eq_some_iff.1 hm).2
    simp only [keys, List.getElem_map, a1]
    simpa [List.getD_eq_getElem?_getD, hjl] using e
  have hpw := List.pairwise_iff_getElem.1 hnd
  rcases Nat.lt_trichotomy i j with q | q | q
  · exact hpw i j (by simp [keys]; omega) (by simp [keys]; omega) q e1.symm
  · exact hi (q ▸ hj)
  · exact hpw j i (by simp [keys]; omega) (by simp [keys]; omega) q e1
theorem lfork_am (st : List Lk) (hpos : 0 < st.length) (hs : st.length ≤ 1000) (hr : ∀ i, (lk st i).row.length ≤ 1000000) (hnd : ∀ i, i < st.length → (keys (lk st i).held).Nodup) : ACalls E0 24 [.ptr 0 0] (LH st) fun r H' => r = .ptr (LH st).length 0 ∧ H' = LH st ++ LHb (LH st).length st := by
  have h0 := LH_0 st
  have hm := lmade_am st
  rw [decide_eq_true hpos] at hm
  have hl0 := LH_len st
  have hbC : ∀ T, Cq E0 (LH st).length T (LH st ++ [some (.obj [.v (.slice none 0 0)])]) T (LH st ++ NHb (LH st).length st 0) := fun T => by
    have hb := cq_bareC (E := E0) (n := (LH st).length) (T := T) (H := LH st ++ [some (Blk.obj [.v (.slice none 0 0)])]) 1 (LH st).length 0 (cs := [.v (.slice none 0 0)]) (by rw [List.getElem?_append_right (Nat.le_refl _), Nat.sub_self]; rfl) rfl
    rw [List.set_append_right _ _ (Nat.le_refl _), Nat.sub_self, List.append_assoc, List.length_append] at hb
    exact hb
  have h0L := at_app h0
  refine calls_q (calls_of Try.func24 rfl (by kernel_rfl) (by kernel_rfl) (by rw [Try.ntmps24]; exact Nat.le_of_ble_eq_true rfl) (fun hH0 hA0 => ?_)); rw [Try.results24]
  (repeat' (first | (have hs := Mk.out hs; (try simp only [decide_eq_true_eq, decide_eq_false_iff_not, Bool.not_eq_true, Bool.not_eq_false, Bool.not_true, Bool.not_false, Bool.not_eq_eq_eq_not, Bool.and_eq_true, Bool.or_eq_true, beq_iff_eq, bne_iff_ne, beq_eq_false_iff_ne, ne_eq, Classical.not_not, not_true_eq_false, not_false_eq_true, forall_const, Bool.false_eq_true, false_implies, eq_self] at hs); (try (exfalso; omega)); (try simp (disch := omega) only [go_sem, h0, h0L, lps_len, hs])) | (refine z_seqr rfl ?_) | (refine w_seq rfl fun K hK => ?_) | (refine z_reg rfl ?_) | (refine z_cond rfl ?_) | (refine w_skip rfl ?_; ((repeat ((fail_if_success (refine hK _ _ (cl_id ?_))); clear hK)); refine hK _ _ (cl_id ?_); clear hK)) | (refine w_ret rfl ?_; (try dsimp only [anorm, ablock, astay]); refine z_end ?_) | (refine z_end0 ?_) | (refine w_block rfl ?_) | (refine w_scope rfl ?_) | (refine w_label rfl ?_; ((repeat ((fail_if_success (refine hK _ _ (cl_id ?_))); clear hK)); refine hK _ _ (cl_id ?_); clear hK)) | (refine w_exit rfl ?_; (try dsimp only [anorm, ablock, astay]); (try simp only [reduceIte, ↓reduceIte, Nat.reduceEqDiff]); ((repeat ((fail_if_success (refine hK _ _ (cl_id ?_))); clear hK)); refine hK _ _ (cl_id ?_); clear hK)) | (refine jend_go [(14, [2]), (13, [3, 17, 18, 19]), (12, [3, 17, 18, 19]), (11, [3, 6, 17, 18, 19, 35]), (10, [3, 6, 7, 8, 17, 18, 19, 35]), (9, [3, 6, 17, 18, 19, 35, 37]), (8, [3, 6, 17, 18, 19, 35]), (7, [3, 5, 6, 17, 18, 19]), (6, [3, 5, 17, 18, 19]), (5, [3, 17, 18, 19, 20]), (4, [3, 17, 18, 19]), (3, [0, 3]), (2, [2]), (1, [0, 11]), (0, [0])] ?_; simp only [tabAt_cons, sel_nil, sel_cons, put_at, ofl_cons, ofl_nil, T0_at, List.getElem?_cons_zero, List.getElem?_cons_succ, List.getElem?_nil, Option.getD_some, Option.getD_none, reduceIte, ↓reduceIte, Nat.reduceEqDiff]; refine jl_go ?_) | simp (disch := omega) only [go_sem, h0, h0L, lps_len] | (refine jc_t ?_) | (refine jc_f ?_) | (refine z_ret (hm) ?_) | (refine And.intro (by (first | omega | (simp; done) | (simp; omega))) ?_) | (refine mc_b (fun hs => ?_) fun hs => ?_) | (refine mg_st (fun hs => ?_) fun hs => ?_) | (refine mg_sf (fun hs => ?_) fun hs => ?_) | (refine mall_s (fun hs => ?_) fun hs => ?_) | (refine malln_s (fun hs => ?_) fun hs => ?_) | (refine mpk_s (fun hs => ?_) fun hs => ?_) | ((repeat ((fail_if_success (refine hK _ _ (cl_id ?_))); clear hK)); refine hK _ _ (cl_id ?_); clear hK)))
  refine z_loop rfl (fun i => i ≤ st.length) (fun i => st.length - i) (fun i => [(3, .ptr (LH st).length 0), (17, .sl 1 (lps st.length)), (18, .v (.int .i64 (st.length : Int))), (19, .v (.int .i64 (i : Int)))]) (fun i => LH st ++ NHb (LH st).length st i) 0 (Nat.zero_le _) ((hbC _).trans (cq_s ?_)) ?_
  · (simp (disch := omega) only [go_sem])
  clear hbC hm
  intro i hi Ko hKo
  generalize hN : (LH st).length = N at *
  by_cases hlt : (i : Int) < st.length
  · have hin : i < st.length := by omega
    have g1 := at_app (at_app (LH_o st hin) (NHb N st i))
    have g2 := at_app (at_app (LH_m st hin) (NHb N st i))
    have g3 := lps_get hin
    have hc := lclone_cold (lk st i).row (by have := hr i; omega)
    have nd := hnd i hin
    have hlH : (LH st ++ NHb N st i).length = N + (2 * i + 2) := by rw [List.length_append, hN, NHb_len N st hi]
    have n0 : ∀ L, (LH st ++ NHb N st i ++ L)[N]? = some (some (.obj [.hs (N + (2 * i + 1)) 1 0 i])) := at_app (by rw [List.getElem?_append_right (by omega), hN, Nat.sub_self]; exact NHb_0 N st i)
    have nr : ∀ L, (LH st ++ NHb N st i ++ L)[N + (2 * i + 1)]? = some (some (.row true 1 (lpsb N i))) := at_app (by rw [List.getElem?_append_right (by omega), hN, Nat.add_sub_cancel_left]; exact NHb_r N st hi)
    have ll := lpsb_len N i
    have hKo2 := fun T' H' => hKo T' H' (i + 1) (by omega) (by omega)
    clear hKo
    generalize hHd : LH st ++ NHb N st i = H at *
    generalize hmd : (lk st i).held = m at *
    generalize hrd : (lk st i).row = row at *
    (repeat' (first | (have hs := Mk.out hs; (try simp only [decide_eq_true_eq, decide_eq_false_iff_not, Bool.not_eq_true, Bool.not_eq_false, Bool.not_true, Bool.not_false, Bool.not_eq_eq_eq_not, Bool.and_eq_true, Bool.or_eq_true, beq_iff_eq, bne_iff_ne, beq_eq_false_iff_ne, ne_eq, Classical.not_not, not_true_eq_false, not_false_eq_true, forall_const, Bool.false_eq_true, false_implies, eq_self] at hs); (try (exfalso; omega)); (try simp (disch := omega) only [go_sem, hlt, g1, g2, g3, hlH, lps_len, hs])) | (refine z_seqr rfl ?_) | (refine w_seq rfl fun K hK => ?_) | (refine z_reg rfl ?_) | (refine z_cond rfl ?_) | (refine w_skip rfl ?_; ((repeat ((fail_if_success (refine hK _ _ (cl_id ?_))); clear hK)); refine hK _ _ (cl_id ?_); clear hK)) | (refine w_ret rfl ?_; (try dsimp only [anorm, ablock, astay]); refine z_end ?_) | (refine z_end0 ?_) | (refine w_block rfl ?_) | (refine w_scope rfl ?_) | (refine w_label rfl ?_; ((repeat ((fail_if_success (refine hK _ _ (cl_id ?_))); clear hK)); refine hK _ _ (cl_id ?_); clear hK)) | (refine w_exit rfl ?_; (try dsimp only [anorm, ablock, astay]); (try simp only [reduceIte, ↓reduceIte, Nat.reduceEqDiff]); ((repeat ((fail_if_success (refine hK _ _ (cl_id ?_))); clear hK)); refine hK _ _ (cl_id ?_); clear hK)) | (refine jend_go [(14, [2]), (13, [3, 17, 18, 19]), (12, [3, 17, 18, 19]), (11, [3, 6, 17, 18, 19, 35]), (10, [3, 6, 7, 8, 17, 18, 19, 35]), (9, [3, 6, 17, 18, 19, 35, 37]), (8, [3, 6, 17, 18, 19, 35]), (7, [3, 5, 6, 17, 18, 19]), (6, [3, 5, 17, 18, 19]), (5, [3, 17, 18, 19, 20]), (4, [3, 17, 18, 19]), (3, [0, 3]), (2, [2]), (1, [0, 11]), (0, [0])] ?_; simp only [tabAt_cons, sel_nil, sel_cons, put_at, ofl_cons, ofl_nil, T0_at, List.getElem?_cons_zero, List.getElem?_cons_succ, List.getElem?_nil, Option.getD_some, Option.getD_none, reduceIte, ↓reduceIte, Nat.reduceEqDiff]; refine jl_go ?_) | simp (disch := omega) only [go_sem, hlt, g1, g2, g3, hlH, lps_len] | (refine jc_t ?_) | (refine jc_f ?_) | (apply zc (hc) []; (case ok => simp (disch := omega) only [go_sem, cok, sgOk, bcl, hlt, g1, g2, g3, hlH, lps_len])) | (refine jrg_go fun bs c => ?_) | (refine And.intro (by (first | omega | (simp; done) | (simp; omega))) ?_) | (refine mc_b (fun hs => ?_) fun hs => ?_) | (refine mg_st (fun hs => ?_) fun hs => ?_) | (refine mg_sf (fun hs => ?_) fun hs => ?_) | (refine mall_s (fun hs => ?_) fun hs => ?_) | (refine malln_s (fun hs => ?_) fun hs => ?_) | (refine mpk_s (fun hs => ?_) fun hs => ?_) | ((repeat ((fail_if_success (refine hK _ _ (cl_id ?_))); clear hK)); refine hK _ _ (cl_id ?_); clear hK)))
    obtain ⟨G, hG⟩ : ∃ G, G = H.set (2 * i + 2) (some (mS vI m bs c)) := ⟨_, rfl⟩
    have lG : G.length = N + (2 * i + 2) := by rw [hG, List.length_set, hlH]
    have gH2 : H[2 * i + 2]? = some (some (mB vI m)) := by have := g2 []; rwa [List.append_nil] at this
    have gm : ∀ L, (G ++ L)[2 * i + 2]? = some (some (mS vI m bs c)) := at_app (by rw [hG, List.getElem?_set, if_pos rfl, if_pos (by omega)])
    have m0 : ∀ L, (G ++ L)[N]? = some (some (.obj [.hs (N + (2 * i + 1)) 1 0 i])) := at_app (by rw [hG, List.getElem?_set_ne (by omega)]; have := n0 []; rwa [List.append_nil] at this)
    have mr : ∀ L, (G ++ L)[N + (2 * i + 1)]? = some (some (.row true 1 (lpsb N i))) := at_app (by rw [hG, List.getElem?_set_ne (by omega)]; have := nr []; rwa [List.append_nil] at this)
    have t0 : ∀ (A : Option Blk) L, (G ++ A :: L)[N + (2 * i + 2)]? = some A := fun A L => by rw [List.getElem?_append_right (by omega), lG, Nat.sub_self]; rfl
    have t1 : ∀ (A B : Option Blk) L, (G ++ A :: B :: L)[N + (2 * i + 2) + 1]? = some B := fun A B L => by rw [List.getElem?_append_right (by omega), lG, Nat.add_sub_cancel_left]; rfl
    have t2 : ∀ (A B C : Option Blk) L, (G ++ A :: B :: C :: L)[N + (2 * i + 2) + 2]? = some C := fun A B C L => by rw [List.getElem?_append_right (by omega), lG, Nat.add_sub_cancel_left]; rfl
    have s0 : ∀ (A X : Option Blk) L, (G ++ A :: L).set (N + (2 * i + 2)) X = G ++ X :: L := fun A X L => by rw [List.set_append_right _ _ (by omega), lG, Nat.sub_self]; rfl
    have s2 : ∀ (A B C X : Option Blk) L, (G ++ A :: B :: C :: L).set (N + (2 * i + 2) + 2) X = G ++ A :: B :: X :: L := fun A B C X L => by rw [List.set_append_right _ _ (by omega), lG, Nat.add_sub_cancel_left]; rfl
    rw [List.set_append_left _ _ (by omega), ← hG, List.append_assoc]
    clear g1 g2 g3 hc n0 nr hlH
    refine z_loop (α := List Nat) rfl (fun s => s.Nodup ∧ ∀ j ∈ s, j < m.length) (fun s => todo m.length s) (fun s => [(3, .ptr N 0), (6, .ptr (N + (2 * i + 2) + 1) 0), (17, .sl 1 (lps st.length)), (18, .v (.int .i64 (st.length : Int))), (19, .v (.int .i64 (i : Int))), (35, .ptr (N + (2 * i + 2) + 2) 0)]) (fun s => G ++ [some (mB vI (metP m s)), some (.obj [.mp (N + (2 * i + 2)), .sl 2 (cels row)]), some (.iter (2 * i + 2) bs c s)]) [] ⟨by simp, by simp⟩ ?_ ?_
    · have e0 : metP m [] = [] := rfl
      rw [e0]
      refine cq_s ?_
      (simp (disch := omega) only [go_sem])
    rintro s ⟨hs1, hs2⟩ Ki hKi
    (repeat' (first | (have hs := Mk.out hs; (try simp only [decide_eq_true_eq, decide_eq_false_iff_not, Bool.not_eq_true, Bool.not_eq_false, Bool.not_true, Bool.not_false, Bool.not_eq_eq_eq_not, Bool.and_eq_true, Bool.or_eq_true, beq_iff_eq, bne_iff_ne, beq_eq_false_iff_ne, ne_eq, Classical.not_not, not_true_eq_false, not_false_eq_true, forall_const, Bool.false_eq_true, false_implies, eq_self] at hs); (try (exfalso; omega)); (try simp (disch := omega) only [go_sem, gm, t0, t1, t2, s0, s2, hs])) | (refine z_seqr rfl ?_) | (refine w_seq rfl fun K hK => ?_) | (refine z_reg rfl ?_) | (refine z_cond rfl ?_) | (refine w_skip rfl ?_; ((repeat ((fail_if_success (refine hK _ _ (cl_id ?_))); clear hK)); refine hK _ _ (cl_id ?_); clear hK)) | (refine w_ret rfl ?_; (try dsimp only [anorm, ablock, astay]); refine z_end ?_) | (refine z_end0 ?_) | (refine w_block rfl ?_) | (refine w_scope rfl ?_) | (refine w_label rfl ?_; ((repeat ((fail_if_success (refine hK _ _ (cl_id ?_))); clear hK)); refine hK _ _ (cl_id ?_); clear hK)) | (refine w_exit rfl ?_; (try dsimp only [anorm, ablock, astay]); (try simp only [reduceIte, ↓reduceIte, Nat.reduceEqDiff]); ((repeat ((fail_if_success (refine hK _ _ (cl_id ?_))); clear hK)); refine hK _ _ (cl_id ?_); clear hK)) | (refine jend_go [(14, [2]), (13, [3, 17, 18, 19]), (12, [3, 17, 18, 19]), (11, [3, 6, 17, 18, 19, 35]), (10, [3, 6, 7, 8, 17, 18, 19, 35]), (9, [3, 6, 17, 18, 19, 35, 37]), (8, [3, 6, 17, 18, 19, 35]), (7, [3, 5, 6, 17, 18, 19]), (6, [3, 5, 17, 18, 19]), (5, [3, 17, 18, 19, 20]), (4, [3, 17, 18, 19]), (3, [0, 3]), (2, [2]), (1, [0, 11]), (0, [0])] ?_; simp only [tabAt_cons, sel_nil, sel_cons, put_at, ofl_cons, ofl_nil, T0_at, List.getElem?_cons_zero, List.getElem?_cons_succ, List.getElem?_nil, Option.getD_some, Option.getD_none, reduceIte, ↓reduceIte, Nat.reduceEqDiff]; refine jl_go ?_) | simp (disch := omega) only [go_sem, gm, t0, t1, t2, s0, s2] | (refine jc_t ?_) | (refine jc_f ?_) | (refine And.intro (by (first | omega | (simp; done) | (simp; omega))) ?_) | (refine mc_b (fun hs => ?_) fun hs => ?_) | (refine mg_st (fun hs => ?_) fun hs => ?_) | (refine mg_sf (fun hs => ?_) fun hs => ?_) | (refine mall_s (fun hs => ?_) fun hs => ?_) | (refine malln_s (fun hs => ?_) fun hs => ?_) | (refine mpk_s (fun hs => ?_) fun hs => ?_) | ((repeat ((fail_if_success (refine hK _ _ (cl_id ?_))); clear hK)); refine hK _ _ (cl_id ?_); clear hK)))
    refine jny_go (f := vI) (fun hall => ?_) (fun j k a hm hsn => ?_)
    · have hp := metP_all hs1 hs2 hall
      clear hKi
      obtain ⟨G1, hG1⟩ : ∃ G1, G1 = G.set (N + (2 * i + 1)) none := ⟨_, rfl⟩
      have ns : ∀ L, (G ++ L).set (N + (2 * i + 1)) none = G1 ++ L := fun L => by rw [hG1, List.set_append_left _ _ (by omega)]
      have lG1 : G1.length = N + (2 * i + 2) := by rw [hG1, List.length_set, lG]
      have gs : ∀ (L : Heap) (x : Option Blk), (G1 ++ L).set N x = G1.set N x ++ L := fun L x => List.set_append_left _ _ (by omega)
      have v0 : ∀ L, (G1 ++ L)[N]? = some (some (.obj [.hs (N + (2 * i + 1)) 1 0 i])) := at_app (by rw [hG1, List.getElem?_set_ne (by omega)]; have := m0 []; rwa [List.append_nil] at this)
      have t3 : ∀ (A B C D : Option Blk) L, (G ++ A :: B :: C :: D :: L)[N + (2 * i + 2) + 3]? = some D := fun A B C D L => by rw [List.getElem?_append_right (by omega), lG, Nat.add_sub_cancel_left]; rfl
      have tk : List.take i (lpsb N i) = lpsb N i := List.take_of_length_le (by omega)
      (repeat' (first | (have hs := Mk.out hs; (try simp only [decide_eq_true_eq, decide_eq_false_iff_not, Bool.not_eq_true, Bool.not_eq_false, Bool.not_true, Bool.not_false, Bool.not_eq_eq_eq_not, Bool.and_eq_true, Bool.or_eq_true, beq_iff_eq, bne_iff_ne, beq_eq_false_iff_ne, ne_eq, Classical.not_not, not_true_eq_false, not_false_eq_true, forall_const, Bool.false_eq_true, false_implies, eq_self] at hs); (try (exfalso; omega)); (try simp (disch := omega) only [go_sem, gm, m0, mr, t0, t1, t2, t3, ns, lG, lG1, gs, v0, tk, ll, hs])) | (refine z_seqr rfl ?_) | (refine w_seq rfl fun K hK => ?_) | (refine z_reg rfl ?_) | (refine z_cond rfl ?_) | (refine w_skip rfl ?_; ((repeat ((fail_if_success (refine hK _ _ (cl_id ?_))); clear hK)); refine hK _ _ (cl_id ?_); clear hK)) | (refine w_ret rfl ?_; (try dsimp only [anorm, ablock, astay]); refine z_end ?_) | (refine z_end0 ?_) | (refine w_block rfl ?_) | (refine w_scope rfl ?_) | (refine w_label rfl ?_; ((repeat ((fail_if_success (refine hK _ _ (cl_id ?_))); clear hK)); refine hK _ _ (cl_id ?_); clear hK)) | (refine w_exit rfl ?_; (try dsimp only [anorm, ablock, astay]); (try simp only [reduceIte, ↓reduceIte, Nat.reduceEqDiff]); ((repeat ((fail_if_success (refine hK _ _ (cl_id ?_))); clear hK)); refine hK _ _ (cl_id ?_); clear hK)) | (refine jend_go [(14, [2]), (13, [3, 17, 18, 19]), (12, [3, 17, 18, 19]), (11, [3, 6, 17, 18, 19, 35]), (10, [3, 6, 7, 8, 17, 18, 19, 35]), (9, [3, 6, 17, 18, 19, 35, 37]), (8, [3, 6, 17, 18, 19, 35]), (7, [3, 5, 6, 17, 18, 19]), (6, [3, 5, 17, 18, 19]), (5, [3, 17, 18, 19, 20]), (4, [3, 17, 18, 19]), (3, [0, 3]), (2, [2]), (1, [0, 11]), (0, [0])] ?_; simp only [tabAt_cons, sel_nil, sel_cons, put_at, ofl_cons, ofl_nil, T0_at, List.getElem?_cons_zero, List.getElem?_cons_succ, List.getElem?_nil, Option.getD_some, Option.getD_none, reduceIte, ↓reduceIte, Nat.reduceEqDiff]; refine jl_go ?_) | simp (disch := omega) only [go_sem, gm, m0, mr, t0, t1, t2, t3, ns, lG, lG1, gs, v0, tk, ll] | (refine jc_t ?_) | (refine jc_f ?_) | (refine And.intro (by (first | omega | (simp; done) | (simp; omega))) ?_) | (refine mc_b (fun hs => ?_) fun hs => ?_) | (refine mg_st (fun hs => ?_) fun hs => ?_) | (refine mg_sf (fun hs => ?_) fun hs => ?_) | (refine mall_s (fun hs => ?_) fun hs => ?_) | (refine malln_s (fun hs => ?_) fun hs => ?_) | (refine mpk_s (fun hs => ?_) fun hs => ?_) | ((repeat ((fail_if_success (refine hK _ _ (cl_id ?_))); clear hK)); refine hK _ _ (cl_id ?_); clear hK)))
      have nfN : nfb N i N = N := by unfold nfb; rw [if_pos (by omega)]
      have lpsF : amapss (nfb N i) (lps st.length) = lps st.length := amapss_id (n := N) (fun r h => by unfold nfb; rw [if_pos (by omega)]) (lps_nb (by omega))
      have lpsB : nbss (N + (2 * i + 4)) (lps st.length) = True := eq_true (lps_nb (by omega))
      obtain ⟨T5, hT5⟩ : ∃ T5 : Heap, T5 = [some (.obj [.mp (N + (2 * i + 2)), .sl 2 (cels row)]), some (.iter (2 * i + 2) bs c s), some (.row true 1 [[.ptr (N + (2 * i + 2) + 1) 0]]), some (.row true 1 (lpsb N i ++ [[.ptr (N + (2 * i + 2) + 1) 0]]))] := ⟨_, rfl⟩
      obtain ⟨O, hO⟩ : ∃ O : Option Blk, O = some (.obj [.hs (N + (2 * i + 2) + 4) 1 0 (i + 1)]) := ⟨_, rfl⟩
      have hH3 : ((G1.set N O).set (2 * i + 2) (some (mB vI m))) = (H.set (N + (2 * i + 1)) none).set N O := by
        rw [hG1, hG, List.set_comm _ _ (by omega : N ≠ 2 * i + 2), List.set_comm _ _ (by omega : N + (2 * i + 1) ≠ 2 * i + 2), List.set_set, set_same gH2]
      have gg : ∀ L, (G1.set N O ++ L)[2 * i + 2]? = some (some (mS vI m bs c)) := at_app (by rw [List.getElem?_set_ne (by omega), hG1, List.getElem?_set_ne (by omega)]; have := gm []; rwa [List.append_nil] at this)
      have l3 : ((H.set (N + (2 * i + 1)) none).set N O).length = N + (2 * i + 2) := by rw [← hH3, List.length_set, List.length_set, lG1]
      have hF : LH st ++ NFb N st i (some (.iter (2 * i + 2) bs c s)) = (H.set (N + (2 * i + 1)) none).set N O ++ some (mB vI m) :: T5 := by
        unfold NFb
        rw [← hHd, List.set_append_right _ _ (by omega), hN, Nat.add_sub_cancel_left, List.set_append_right _ _ (by omega), hN, Nat.sub_self, List.append_assoc, hmd, hrd, hO, hT5]
        rfl
      have hcn := fun T tl => cq_newb (n := N) (T := T) (tl := tl) st (some (.iter (2 * i + 2) bs c s)) i hin (by omega)
      rw [hN, hF] at hcn
      rw [← hO, ← hT5]
      refine hKo2 _ _ (Cq.trans (cq_forget (f := vI) (m := m) (2 * i + 2) (gg _)) ?_)
      rw [List.set_append_left _ _ (by rw [List.length_set, lG1]; omega), hH3]
      refine Cq.trans (cq_perm (f := vI) (m := metP m s) (N + (2 * i + 2)) (by rw [List.getElem?_append_right (by omega), l3, Nat.sub_self]; rfl) hp) ?_
      rw [List.set_append_right _ _ (by omega), l3, Nat.sub_self]
      refine hcn _ _ ?_
      (simp (disch := omega) only [go_sem, nfN, lpsF, lpsB])
      omega
    · have hk := metP_key nd hs2 hm hsn
      have hKi2 := fun T' H' => hKi T' H' (s ++ [j]) ⟨List.nodup_append.2 ⟨hs1, by simp, fun x hx y hy e => by
        rw [List.mem_singleton] at hy
        rw [e, hy] at hx
        exact hsn hx⟩, fun x hx => by
        rcases List.mem_append.1 hx with hx | hx
        · exact hs2 x hx
        · rw [List.mem_singleton.1 hx]
          exact (List.getElem?_eq_some_iff.1 hm).1⟩ (todo_less (List.getElem?_eq_some_iff.1 hm).1 hsn)
      have hmp : mput (metP m s) k a = metP m (s ++ [j]) := by rw [metP_snoc hm, mput_abs hk]
      clear hKi
      (repeat' (first | (have hs := Mk.out hs; (try simp only [decide_eq_true_eq, decide_eq_false_iff_not, Bool.not_eq_true, Bool.not_eq_false, Bool.not_true, Bool.not_false, Bool.not_eq_eq_eq_not, Bool.and_eq_true, Bool.or_eq_true, beq_iff_eq, bne_iff_ne, beq_eq_false_iff_ne, ne_eq, Classical.not_not, not_true_eq_false, not_false_eq_true, forall_const, Bool.false_eq_true, false_implies, eq_self] at hs); (try (exfalso; omega)); (try simp (disch := omega) only [go_sem, gm, t0, t1, t2, s0, s2, hm, hmp, hs])) | (refine z_seqr rfl ?_) | (refine w_seq rfl fun K hK => ?_) | (refine z_reg rfl ?_) | (refine z_cond rfl ?_) | (refine w_skip rfl ?_; ((repeat ((fail_if_success (refine hK _ _ (cl_id ?_))); clear hK)); refine hK _ _ (cl_id ?_); clear hK)) | (refine w_ret rfl ?_; (try dsimp only [anorm, ablock, astay]); refine z_end ?_) | (refine z_end0 ?_) | (refine w_block rfl ?_) | (refine w_scope rfl ?_) | (refine w_label rfl ?_; ((repeat ((fail_if_success (refine hK _ _ (cl_id ?_))); clear hK)); refine hK _ _ (cl_id ?_); clear hK)) | (refine w_exit rfl ?_; (try dsimp only [anorm, ablock, astay]); (try simp only [reduceIte, ↓reduceIte, Nat.reduceEqDiff]); ((repeat ((fail_if_success (refine hK _ _ (cl_id ?_))); clear hK)); refine hK _ _ (cl_id ?_); clear hK)) | (refine jend_go [(14, [2]), (13, [3, 17, 18, 19]), (12, [3, 17, 18, 19]), (11, [3, 6, 17, 18, 19, 35]), (10, [3, 6, 7, 8, 17, 18, 19, 35]), (9, [3, 6, 17, 18, 19, 35, 37]), (8, [3, 6, 17, 18, 19, 35]), (7, [3, 5, 6, 17, 18, 19]), (6, [3, 5, 17, 18, 19]), (5, [3, 17, 18, 19, 20]), (4, [3, 17, 18, 19]), (3, [0, 3]), (2, [2]), (1, [0, 11]), (0, [0])] ?_; simp only [tabAt_cons, sel_nil, sel_cons, put_at, ofl_cons, ofl_nil, T0_at, List.getElem?_cons_zero, List.getElem?_cons_succ, List.getElem?_nil, Option.getD_some, Option.getD_none, reduceIte, ↓reduceIte, Nat.reduceEqDiff]; refine jl_go ?_) | simp (disch := omega) only [go_sem, gm, t0, t1, t2, s0, s2, hm, hmp] | (refine jc_t ?_) | (refine jc_f ?_) | (refine And.intro (by (first | omega | (simp; done) | (simp; omega))) ?_) | (refine mc_b (fun hs => ?_) fun hs => ?_) | (refine mg_st (fun hs => ?_) fun hs => ?_) | (refine mg_sf (fun hs => ?_) fun hs => ?_) | (refine mall_s (fun hs => ?_) fun hs => ?_) | (refine malln_s (fun hs => ?_) fun hs => ?_) | (refine mpk_s (fun hs => ?_) fun hs => ?_) | ((repeat ((fail_if_success (refine hK _ _ (cl_id ?_))); clear hK)); refine hK _ _ (cl_id ?_); clear hK)))
      refine hKi2 _ _ (cq_s ?_)
      (simp (disch := omega) only [go_sem])
  · obtain rfl : i = st.length := by omega
    clear hKo
    have n0 : (LH st ++ NHb N st st.length)[N]? = some (some (.obj [.hs (N + (2 * st.length + 1)) 1 0 st.length])) := by rw [List.getElem?_append_right (by omega), hN, Nat.sub_self]; exact NHb_0 N st _
    (repeat' (first | (have hs := Mk.out hs; (try simp only [decide_eq_true_eq, decide_eq_false_iff_not, Bool.not_eq_true, Bool.not_eq_false, Bool.not_true, Bool.not_false, Bool.not_eq_eq_eq_not, Bool.and_eq_true, Bool.or_eq_true, beq_iff_eq, bne_iff_ne, beq_eq_false_iff_ne, ne_eq, Classical.not_not, not_true_eq_false, not_false_eq_true, forall_const, Bool.false_eq_true, false_implies, eq_self] at hs); (try (exfalso; omega)); (try simp (disch := omega) only [go_sem, hlt, hs])) | (refine z_seqr rfl ?_) | (refine w_seq rfl fun K hK => ?_) | (refine z_reg rfl ?_) | (refine z_cond rfl ?_) | (refine w_skip rfl ?_; ((repeat ((fail_if_success (refine hK _ _ (cl_id ?_))); clear hK)); refine hK _ _ (cl_id ?_); clear hK)) | (refine w_ret rfl ?_; (try dsimp only [anorm, ablock, astay]); refine z_end ?_) | (refine z_end0 ?_) | (refine w_block rfl ?_) | (refine w_scope rfl ?_) | (refine w_label rfl ?_; ((repeat ((fail_if_success (refine hK _ _ (cl_id ?_))); clear hK)); refine hK _ _ (cl_id ?_); clear hK)) | (refine w_exit rfl ?_; (try dsimp only [anorm, ablock, astay]); (try simp only [reduceIte, ↓reduceIte, Nat.reduceEqDiff]); ((repeat ((fail_if_success (refine hK _ _ (cl_id ?_))); clear hK)); refine hK _ _ (cl_id ?_); clear hK)) | (refine jend_go [(14, [2]), (13, [3, 17, 18, 19]), (12, [3, 17, 18, 19]), (11, [3, 6, 17, 18, 19, 35]), (10, [3, 6, 7, 8, 17, 18, 19, 35]), (9, [3, 6, 17, 18, 19, 35, 37]), (8, [3, 6, 17, 18, 19, 35]), (7, [3, 5, 6, 17, 18, 19]), (6, [3, 5, 17, 18, 19]), (5, [3, 17, 18, 19, 20]), (4, [3, 17, 18, 19]), (3, [0, 3]), (2, [2]), (1, [0, 11]), (0, [0])] ?_; simp only [tabAt_cons, sel_nil, sel_cons, put_at, ofl_cons, ofl_nil, T0_at, List.getElem?_cons_zero, List.getElem?_cons_succ, List.getElem?_nil, Option.getD_some, Option.getD_none, reduceIte, ↓reduceIte, Nat.reduceEqDiff]; refine jl_go ?_) | simp (disch := omega) only [go_sem, hlt] | (refine jc_t ?_) | (refine jc_f ?_) | (refine And.intro (by (first | omega | (simp; done) | (simp; omega))) ?_) | (refine mc_b (fun hs => ?_) fun hs => ?_) | (refine mg_st (fun hs => ?_) fun hs => ?_) | (refine mg_sf (fun hs => ?_) fun hs => ?_) | (refine mall_s (fun hs => ?_) fun hs => ?_) | (refine malln_s (fun hs => ?_) fun hs => ?_) | (refine mpk_s (fun hs => ?_) fun hs => ?_) | ((repeat ((fail_if_success (refine hK _ _ (cl_id ?_))); clear hK)); refine hK _ _ (cl_id ?_); clear hK)))
    have hd := cq_doneb (n := N) (T := ofl [(0, .ptr N 0)]) (tl := [(0, .ptr N 0)]) st (by omega) (fun x hx => by rw [List.mem_singleton.1 hx]; rfl)
    rw [hN] at hd
    refine ⟨_, _, hd ⟨⟨?_, Wk.refl _⟩, trivial⟩, rfl, rfl⟩
    have := LHb_len N st
    unfold nb
    rw [List.length_append]
    omega
end Go.Proofs.Ytckppkimjiifpaa
