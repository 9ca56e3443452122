/- Locks: For, by the machine, over the library's sort. No condition but bounds of lengths. -/
import Derived.Test.YtckppkimjiifpaaQLk
import Derived.Test.YtckppkimjiifpaaQLs
import Derived.Test.YtckppkimjiifpaaQb1
import Derived.Test.YtckppkimjiifpaaQgs
set_option linter.unusedSectionVars false
set_option linter.unusedVariables false
set_option linter.unusedSimpArgs false
set_option linter.deprecated false
namespace Go.Am
open Go.RowKit Go.Cx
section
variable {E : Env} {Hs Hs' Y : Heap} {g : FuncId} {al : List AV}
/-- A contract of the first blocks that brings one row more. -/
theorem ACalls.preR {sz k : Nat} {es : List (List AV)} (h : ACalls E g al Hs fun r H' => r = .hs Hs.length sz 0 k ∧ H' = Hs' ++ [some (.row true sz es)]) (hl : Hs'.length = Hs.length) (hn : nbs Hs.length al) (hB : ∀ (k : Nat) (B : Blk), Hs[k]? = some (some B) → nbB Hs.length B) (hB' : ∀ (k : Nat) (B : Blk), Hs'[k]? = some (some B) → nbB Hs.length B) (hes : nbss 0 es) (Y : Heap) :
    ACalls E g al (Hs ++ Y) fun r H' => r = .hs (Hs ++ Y).length sz 0 k ∧ H' = Hs' ++ Y ++ [some (.row true sz es)] := by
  have hgd : ∀ k, k < Hs.length → (List.range Hs.length).getD k 0 = k := fun k hk => by rw [List.getD_eq_getElem?_getD, List.getElem?_range hk]; rfl
  have hsg : ∀ r, r < Hs.length → sg (Hs ++ Y).length (List.range Hs.length) r = r := fun r hr => by
    unfold sg
    rw [List.length_range, if_pos hr, hgd r hr]
  have h2 := h.frame (H := Hs ++ Y) (as' := al) false (List.range Hs.length) List.nodup_range (by simp) (fun q hq => by have := List.mem_range.1 hq; simp; omega) (fun k B hk => by
    have hkl := (List.getElem?_eq_some_iff.1 hk).1
    refine ⟨hB k B hk, ?_⟩
    rw [hgd k hkl, List.getElem?_append_left hkl, hk, bmap_id (n := Hs.length) hsg (hB k B hk)]) (rdAs_id hsg hn) (fun _ _ _ hh => by cases hh)
  refine ⟨h2.1, fun w M vs hG hv => (h2.2 w M vs hG hv).mono ?_⟩
  rintro e w' ⟨r, H', v, M', rfl, ⟨r1, H1, ⟨rfl, rfl⟩, rfl, rfl⟩, rest⟩
  refine ⟨_, _, v, M', rfl, ⟨?_, ?_⟩, rest⟩
  · unfold amap sg
    rw [List.length_range, if_neg (by omega), Nat.sub_self, Nat.add_zero]
  unfold back
  have hd : (Hs' ++ [some (Blk.row true sz es)]).drop (List.range Hs.length).length = [some (.row true sz es)] := by
    rw [List.length_range, ← hl]
    exact List.drop_left
  have hm : bmap (sg (Hs ++ Y).length (List.range Hs.length)) (.row true sz es) = .row true sz es := by
    show Blk.row true sz (amapss _ es) = _
    rw [amapss_id (n := 0) (fun _ hr => absurd hr (Nat.not_lt_zero _)) hes]
  rw [hd, List.map_cons, List.map_nil, Option.map_some, hm]
  congr 1
  apply List.ext_getElem?
  intro k
  by_cases hk : k < Hs.length
  · have hk' : k < (Hs' ++ [some (Blk.row true sz es)]).length := by simp; omega
    have := backs_in (σ := List.range Hs.length) (f := sg (Hs ++ Y).length (List.range Hs.length)) (H := Hs ++ Y) (H' := Hs' ++ [some (Blk.row true sz es)]) (k := k) List.nodup_range (fun q hq => by have := List.mem_range.1 hq; simp; omega) (by simpa using hk) _ (List.getElem?_eq_getElem hk')
    rw [hgd k hk] at this
    rw [this, List.getElem?_append_left (by omega), List.getElem?_eq_getElem (by omega : k < Hs'.length), List.getElem_append_left (by omega)]
    cases hb : Hs'[k] with
    | none => rfl
    | some B =>
      have hB2 : Hs'[k]? = some (some B) := by rw [List.getElem?_eq_getElem (by omega), hb]
      simp only [Option.map_some]
      rw [bmap_id (n := Hs.length) hsg (hB' k B hB2)]
  · rw [backs_out (by simpa using hk), List.getElem?_append_right (by omega), List.getElem?_append_right (by omega), hl]
end
end Go.Am
namespace Go.Proofs.Ytckppkimjiifpaa
open Go.RowKit Go.Cx Go.Am
set_option maxRecDepth 8000
set_option maxHeartbeats 2000000
attribute [local irreducible] ACalls jcall jsame jex jexg jexh jguard jconv jload jpart jstore jbin jslice jidxA jidx jfield jfieldA jbuild jbuildS jmake jappend jlen jpick jres jcnd jcopy jcap jborn jdraw jops jop jstr jstrc jlive jend jlenM jmmake jlook jmput jmdel jrange jnext jentry jlk jmp2 jmd2 jlm jrg jnx jny jen jeo
attribute [local go_sem] reduceIte Nat.reduceEqDiff Nat.reduceAdd Nat.reduceMul Nat.reduceLT Nat.reduceLeDiff Nat.reduceSub Int.reduceLT Int.reduceLE Int.reduceToNat Int.reduceNeg Int.reduceAdd Int.reduceSub UInt8.reduceToNat Int.reduceEq reduceCtorEq Int.reducePow Int.reduceMul Nat.reducePow E0
attribute [local go_sem ↓] reduceIte
attribute [local go_sem high] chunks_bvs
attribute [local go_sem] tgs_nil tgs_snoc tagC_eq rwb_nil jop_makeMap jop_lookup jop_mapUpdate jop_delete jop_range jop_next jop_entry jmmake_m jlook_m jlk_mI jmput_m jmp2_mI jmdel_m jmd2_mB jlenM_m jlm_mB jrange_m jnext_m jnx_m jentry_m jen_m jeo_mS nbB_mI nbB_mSI bmap_mI bmap_mSI mB_nil vI nbB_o nbB_r nbB_i bmap_o bmap_r bmap_i gfB_o gfB_r gfB_i cl1_iiib
attribute [local go_sem ←] List.map_take List.map_drop

/-- A call that sees the locks alone, and brings a row. -/
theorem zLR {K : Kvh} {g : FuncId} {al : List AV} {st : List Lk} {sz k : Nat} {es : List (List AV)} {Y : Heap} (h : ACalls E0 g al (LH st) fun r H' => r = .hs (LH st).length sz 0 k ∧ H' = LH st ++ [some (.row true sz es)]) (hes : nbss 0 es) (ok : nbs (2 * st.length + 1) al) (hk : K.k (.hs (LH st ++ Y).length sz 0 k) (LH st ++ Y ++ [some (.row true sz es)])) : jcall (K := K) E0 g al (LH st ++ Y) := by
  rw [← LH_len] at ok
  exact z_ret (ACalls.preR h rfl ok (LH_nbs st) (LH_nbs st) hes Y) hk
theorem lholders_hot (hso : SortOk) (st : List Lk) (i : Nat) (hi : i < st.length) (hr : (lk st i).held.length ≤ 1000000) : ACalls E0 17 [.ptr 0 0, .v (.int .i64 (i : Int))] (LH st) fun r H' => r = .hs (LH st).length 1 0 (holders st i).length ∧ H' = LH st ++ [some (.row true 1 (cels (holders st i)))] := by
  have h1 := lat_am st i hi
  have g1 := LH_o st hi
  have g2 := LH_m st hi
  have l0 := LH_len st
  unfold holders
  generalize (lk st i).held = m at *
  refine calls_q (calls_of Try.func17 rfl (by kernel_rfl) (by kernel_rfl) (by rw [Try.ntmps17]; exact Nat.le_of_ble_eq_true rfl) (fun hH0 hA0 => ?_)); rw [Try.results17]
  (repeat' (first | (have hs := Mk.out hs; (try simp only [decide_eq_true_eq, decide_eq_false_iff_not, Bool.not_eq_true, Bool.not_eq_false, Bool.not_true, Bool.not_false, Bool.not_eq_eq_eq_not, Bool.and_eq_true, Bool.or_eq_true, beq_iff_eq, bne_iff_ne, beq_eq_false_iff_ne, ne_eq, Classical.not_not, not_true_eq_false, not_false_eq_true, forall_const, Bool.false_eq_true, false_implies, eq_self] at hs); (try (exfalso; omega)); (try simp (disch := omega) only [go_sem, g1, g2, hs])) | (refine z_seqr rfl ?_) | (refine w_seq rfl fun K hK => ?_) | (refine z_reg rfl ?_) | (refine z_cond rfl ?_) | (refine w_skip rfl ?_; ((repeat ((fail_if_success (refine hK _ _ (cl_id ?_))); clear hK)); refine hK _ _ (cl_id ?_); clear hK)) | (refine w_ret rfl ?_; (try dsimp only [anorm, ablock, astay]); refine z_end ?_) | (refine z_end0 ?_) | (refine w_block rfl ?_) | (refine w_scope rfl ?_) | (refine w_label rfl ?_; ((repeat ((fail_if_success (refine hK _ _ (cl_id ?_))); clear hK)); refine hK _ _ (cl_id ?_); clear hK)) | (refine w_exit rfl ?_; (try dsimp only [anorm, ablock, astay]); (try simp only [reduceIte, ↓reduceIte, Nat.reduceEqDiff]); ((repeat ((fail_if_success (refine hK _ _ (cl_id ?_))); clear hK)); refine hK _ _ (cl_id ?_); clear hK)) | (refine jend_go [(10, [4]), (9, [6]), (8, [6, 17]), (7, [6, 7, 17]), (6, [6, 17, 19]), (5, [6, 17]), (4, [5, 6]), (3, [4]), (2, [5, 12]), (1, [5]), (0, [0, 1])] ?_; simp only [tabAt_cons, sel_nil, sel_cons, put_at, ofl_cons, ofl_nil, T0_at, List.getElem?_cons_zero, List.getElem?_cons_succ, List.getElem?_nil, Option.getD_some, Option.getD_none, reduceIte, ↓reduceIte, Nat.reduceEqDiff]; refine jl_go ?_) | simp (disch := omega) only [go_sem, g1, g2] | (refine jc_t ?_) | (refine jc_f ?_) | (refine z_ret (h1) ?_) | (refine jrg_go fun bs c => ?_) | (refine And.intro (by (first | omega | (simp; done) | (simp; omega))) ?_) | (refine mc_b (fun hs => ?_) fun hs => ?_) | (refine mg_st (fun hs => ?_) fun hs => ?_) | (refine mg_sf (fun hs => ?_) fun hs => ?_) | (refine mall_s (fun hs => ?_) fun hs => ?_) | (refine malln_s (fun hs => ?_) fun hs => ?_) | (refine mpk_s (fun hs => ?_) fun hs => ?_) | ((repeat ((fail_if_success (refine hK _ _ (cl_id ?_))); clear hK)); refine hK _ _ (cl_id ?_); clear hK)))
  obtain ⟨G, hG⟩ : ∃ G, G = (LH st).set (2 * i + 2) (some (mS vI m bs c)) := ⟨_, rfl⟩
  have lG : G.length = (LH st).length := by rw [hG, List.length_set]
  have gm : G[2 * i + 2]? = some (some (mS vI m bs c)) := by
    rw [hG, List.getElem?_set, if_pos rfl, if_pos (by omega)]
  have gmL := at_app gm
  have gb : G.set (2 * i + 2) (some (mB vI m)) = LH st := by
    rw [hG, List.set_set]
    exact set_same g2
  have gnb : ∀ (k : Nat) (B : Blk), G[k]? = some (some B) → nbB G.length B := by
    intro k B hk
    rw [lG]
    rw [hG, List.getElem?_set] at hk
    split at hk
    · split at hk
      · cases hk
        exact of_eq_true nbB_mSI
      · cases hk
    · exact LH_nbs st k B hk
  rw [← hG, ← lG]
  refine z_loop (α := List Nat) rfl (fun s => s.Nodup ∧ ∀ j ∈ s, j < m.length) (fun s => todo m.length s) (fun s => [(6, .hs (G.length + 1) 1 0 s.length), (17, .ptr G.length 0)]) (fun s => G ++ [some (.iter (2 * i + 2) bs c s), some (.row true 1 (cels (met m s)))]) [] ⟨by simp, by simp⟩ ?_ ?_
  · have hb := cq_bare (E := E0) (n := G.length) (T := ofl [(6, .v (.slice none 0 0)), (17, .ptr G.length 0)]) (H := G ++ [some (.iter (2 * i + 2) bs c [])]) 1 6 rfl
    rw [List.append_assoc, List.length_append] at hb
    refine hb.trans (cq_s ?_)
    (simp (disch := omega) only [go_sem])
  rintro s ⟨hs1, hs2⟩ K hK
  have hml : (met m s).length = s.length := by simp [met]
  have hsl : s.length ≤ m.length := by
    have hp : s.Perm ((List.range m.length).filter fun j => decide (j ∈ s)) := (List.perm_ext_iff_of_nodup hs1 (List.nodup_range.filter _)).2 fun j => by
      rw [List.mem_filter, List.mem_range, decide_eq_true_eq]
      exact ⟨fun h => ⟨hs2 j h, h⟩, fun h => h.2⟩
    have := List.length_filter_le (fun j => decide (j ∈ s)) (List.range m.length)
    rw [List.length_range] at this
    exact Nat.le_trans (Nat.le_of_eq hp.length_eq) this
  (repeat' (first | (have hs := Mk.out hs; (try simp only [decide_eq_true_eq, decide_eq_false_iff_not, Bool.not_eq_true, Bool.not_eq_false, Bool.not_true, Bool.not_false, Bool.not_eq_eq_eq_not, Bool.and_eq_true, Bool.or_eq_true, beq_iff_eq, bne_iff_ne, beq_eq_false_iff_ne, ne_eq, Classical.not_not, not_true_eq_false, not_false_eq_true, forall_const, Bool.false_eq_true, false_implies, eq_self] at hs); (try (exfalso; omega)); (try simp (disch := omega) only [go_sem, gm, gmL, hs])) | (refine z_seqr rfl ?_) | (refine w_seq rfl fun K hK => ?_) | (refine z_reg rfl ?_) | (refine z_cond rfl ?_) | (refine w_skip rfl ?_; ((repeat ((fail_if_success (refine hK _ _ (cl_id ?_))); clear hK)); refine hK _ _ (cl_id ?_); clear hK)) | (refine w_ret rfl ?_; (try dsimp only [anorm, ablock, astay]); refine z_end ?_) | (refine z_end0 ?_) | (refine w_block rfl ?_) | (refine w_scope rfl ?_) | (refine w_label rfl ?_; ((repeat ((fail_if_success (refine hK _ _ (cl_id ?_))); clear hK)); refine hK _ _ (cl_id ?_); clear hK)) | (refine w_exit rfl ?_; (try dsimp only [anorm, ablock, astay]); (try simp only [reduceIte, ↓reduceIte, Nat.reduceEqDiff]); ((repeat ((fail_if_success (refine hK _ _ (cl_id ?_))); clear hK)); refine hK _ _ (cl_id ?_); clear hK)) | (refine jend_go [(10, [4]), (9, [6]), (8, [6, 17]), (7, [6, 7, 17]), (6, [6, 17, 19]), (5, [6, 17]), (4, [5, 6]), (3, [4]), (2, [5, 12]), (1, [5]), (0, [0, 1])] ?_; simp only [tabAt_cons, sel_nil, sel_cons, put_at, ofl_cons, ofl_nil, T0_at, List.getElem?_cons_zero, List.getElem?_cons_succ, List.getElem?_nil, Option.getD_some, Option.getD_none, reduceIte, ↓reduceIte, Nat.reduceEqDiff]; refine jl_go ?_) | simp (disch := omega) only [go_sem, gm, gmL] | (refine jc_t ?_) | (refine jc_f ?_) | (refine And.intro (by (first | omega | (simp; done) | (simp; omega))) ?_) | (refine mc_b (fun hs => ?_) fun hs => ?_) | (refine mg_st (fun hs => ?_) fun hs => ?_) | (refine mg_sf (fun hs => ?_) fun hs => ?_) | (refine mall_s (fun hs => ?_) fun hs => ?_) | (refine malln_s (fun hs => ?_) fun hs => ?_) | (refine mpk_s (fun hs => ?_) fun hs => ?_) | ((repeat ((fail_if_success (refine hK _ _ (cl_id ?_))); clear hK)); refine hK _ _ (cl_id ?_); clear hK)))
  refine jny_go (f := vI) (fun hall => ?_) (fun j k a hm hsn => ?_)
  · clear hK
    have hp := met_all hs1 hs2 hall
    have hso2 := hso (met m s) (by omega)
    rw [srtI_perm hp, hml] at hso2
    have hzl : s.length = (srtI (m.map (·.1))).length := by rw [srtI_len, ← hml]; exact hp.length_eq
    generalize srtI (m.map (·.1)) = z at *
    have q1 : G.length + 1 < G.length + 2 := by omega
    (repeat' (first | (have hs := Mk.out hs; (try simp only [decide_eq_true_eq, decide_eq_false_iff_not, Bool.not_eq_true, Bool.not_eq_false, Bool.not_true, Bool.not_false, Bool.not_eq_eq_eq_not, Bool.and_eq_true, Bool.or_eq_true, beq_iff_eq, bne_iff_ne, beq_eq_false_iff_ne, ne_eq, Classical.not_not, not_true_eq_false, not_false_eq_true, forall_const, Bool.false_eq_true, false_implies, eq_self] at hs); (try (exfalso; omega)); (try simp (disch := omega) only [go_sem, gm, gmL, q1, hs])) | (refine z_seqr rfl ?_) | (refine w_seq rfl fun K hK => ?_) | (refine z_reg rfl ?_) | (refine z_cond rfl ?_) | (refine w_skip rfl ?_; ((repeat ((fail_if_success (refine hK _ _ (cl_id ?_))); clear hK)); refine hK _ _ (cl_id ?_); clear hK)) | (refine w_ret rfl ?_; (try dsimp only [anorm, ablock, astay]); refine z_end ?_) | (refine z_end0 ?_) | (refine w_block rfl ?_) | (refine w_scope rfl ?_) | (refine w_label rfl ?_; ((repeat ((fail_if_success (refine hK _ _ (cl_id ?_))); clear hK)); refine hK _ _ (cl_id ?_); clear hK)) | (refine w_exit rfl ?_; (try dsimp only [anorm, ablock, astay]); (try simp only [reduceIte, ↓reduceIte, Nat.reduceEqDiff]); ((repeat ((fail_if_success (refine hK _ _ (cl_id ?_))); clear hK)); refine hK _ _ (cl_id ?_); clear hK)) | (refine jend_go [(10, [4]), (9, [6]), (8, [6, 17]), (7, [6, 7, 17]), (6, [6, 17, 19]), (5, [6, 17]), (4, [5, 6]), (3, [4]), (2, [5, 12]), (1, [5]), (0, [0, 1])] ?_; simp only [tabAt_cons, sel_nil, sel_cons, put_at, ofl_cons, ofl_nil, T0_at, List.getElem?_cons_zero, List.getElem?_cons_succ, List.getElem?_nil, Option.getD_some, Option.getD_none, reduceIte, ↓reduceIte, Nat.reduceEqDiff]; refine jl_go ?_) | simp (disch := omega) only [go_sem, gm, gmL, q1] | (refine jc_t ?_) | (refine jc_f ?_) | (apply zc (hso2) [G.length + 1]; (case ok => simp (disch := omega) only [go_sem, cok, sgOk, bcl, gm, gmL, q1])) | (refine And.intro (by (first | omega | (simp; done) | (simp; omega))) ?_) | (refine mc_b (fun hs => ?_) fun hs => ?_) | (refine mg_st (fun hs => ?_) fun hs => ?_) | (refine mg_sf (fun hs => ?_) fun hs => ?_) | (refine mall_s (fun hs => ?_) fun hs => ?_) | (refine malln_s (fun hs => ?_) fun hs => ?_) | (refine mpk_s (fun hs => ?_) fun hs => ?_) | ((repeat ((fail_if_success (refine hK _ _ (cl_id ?_))); clear hK)); refine hK _ _ (cl_id ?_); clear hK)))
    refine (cq_forget (f := vI) (m := m) (2 * i + 2) (gmL _)).cl ?_
    rw [List.set_append_left _ _ (by omega), gb, lG, hzl]
    refine ⟨_, _, cq_ren (tl := [(0, .hs (LH st).length 1 0 z.length)]) (L' := [some (.row true 1 (cels z))]) [1] (Nat.le_refl _) (LH_nbs st) (by decide) ?_ ?_, rfl, rfl⟩
    · (simp (disch := omega) only [go_sem])
    · (simp (disch := omega) only [go_sem])
  · have hK2 := fun T' H' => hK T' H' (s ++ [j]) ⟨List.nodup_append.2 ⟨hs1, by simp, fun x hx y hy e => by
      rw [List.mem_singleton] at hy
      rw [e, hy] at hx
      exact hsn hx⟩, fun x hx => by
      rcases List.mem_append.1 hx with hx | hx
      · exact hs2 x hx
      · rw [List.mem_singleton.1 hx]
        exact (List.getElem?_eq_some_iff.1 hm).1⟩ (todo_less (List.getElem?_eq_some_iff.1 hm).1 hsn)
    clear hK
    rw [met_snoc hm] at hK2
    have hs3 : (s ++ [j]).length = s.length + 1 := by simp
    rw [hs3] at hK2
    generalize met m s = acc at *
    rw [← hml] at hK2 hsl
    rw [← hml]
    have hle : acc.length ≤ m.length := hsl
    have tk : List.take acc.length acc = acc := List.take_length
    (repeat' (first | (have hs := Mk.out hs; (try simp only [decide_eq_true_eq, decide_eq_false_iff_not, Bool.not_eq_true, Bool.not_eq_false, Bool.not_true, Bool.not_false, Bool.not_eq_eq_eq_not, Bool.and_eq_true, Bool.or_eq_true, beq_iff_eq, bne_iff_ne, beq_eq_false_iff_ne, ne_eq, Classical.not_not, not_true_eq_false, not_false_eq_true, forall_const, Bool.false_eq_true, false_implies, eq_self] at hs); (try (exfalso; omega)); (try simp (disch := omega) only [go_sem, gm, gmL, hm, tk, hs])) | (refine z_seqr rfl ?_) | (refine w_seq rfl fun K hK => ?_) | (refine z_reg rfl ?_) | (refine z_cond rfl ?_) | (refine w_skip rfl ?_; ((repeat ((fail_if_success (refine hK _ _ (cl_id ?_))); clear hK)); refine hK _ _ (cl_id ?_); clear hK)) | (refine w_ret rfl ?_; (try dsimp only [anorm, ablock, astay]); refine z_end ?_) | (refine z_end0 ?_) | (refine w_block rfl ?_) | (refine w_scope rfl ?_) | (refine w_label rfl ?_; ((repeat ((fail_if_success (refine hK _ _ (cl_id ?_))); clear hK)); refine hK _ _ (cl_id ?_); clear hK)) | (refine w_exit rfl ?_; (try dsimp only [anorm, ablock, astay]); (try simp only [reduceIte, ↓reduceIte, Nat.reduceEqDiff]); ((repeat ((fail_if_success (refine hK _ _ (cl_id ?_))); clear hK)); refine hK _ _ (cl_id ?_); clear hK)) | (refine jend_go [(10, [4]), (9, [6]), (8, [6, 17]), (7, [6, 7, 17]), (6, [6, 17, 19]), (5, [6, 17]), (4, [5, 6]), (3, [4]), (2, [5, 12]), (1, [5]), (0, [0, 1])] ?_; simp only [tabAt_cons, sel_nil, sel_cons, put_at, ofl_cons, ofl_nil, T0_at, List.getElem?_cons_zero, List.getElem?_cons_succ, List.getElem?_nil, Option.getD_some, Option.getD_none, reduceIte, ↓reduceIte, Nat.reduceEqDiff]; refine jl_go ?_) | simp (disch := omega) only [go_sem, gm, gmL, hm, tk] | (refine jc_t ?_) | (refine jc_f ?_) | (refine And.intro (by (first | omega | (simp; done) | (simp; omega))) ?_) | (refine mc_b (fun hs => ?_) fun hs => ?_) | (refine mg_st (fun hs => ?_) fun hs => ?_) | (refine mg_sf (fun hs => ?_) fun hs => ?_) | (refine mall_s (fun hs => ?_) fun hs => ?_) | (refine malln_s (fun hs => ?_) fun hs => ?_) | (refine mpk_s (fun hs => ?_) fun hs => ?_) | ((repeat ((fail_if_success (refine hK _ _ (cl_id ?_))); clear hK)); refine hK _ _ (cl_id ?_); clear hK)))
    refine hK2 _ _ (cq_ren [0, 3] (Nat.le_refl _) gnb (by decide) ?_ ?_)
    · (simp (disch := omega) only [go_sem])
    · (simp (disch := omega) only [go_sem])
      omega
end Go.Proofs.Ytckppkimjiifpaa
