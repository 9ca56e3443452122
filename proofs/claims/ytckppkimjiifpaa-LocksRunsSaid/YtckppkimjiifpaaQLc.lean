/- Locks: how they lie in memory; made, at, isTask, Len, by the machine. No condition. -/
import Derived.Test.YtckppkimjiifpaaQLa
import Derived.Test.YtckppkimjiifpaaQb1
import Derived.Test.YtckppkimjiifpaaQgs
set_option linter.unusedSectionVars false
set_option linter.unusedVariables false
set_option linter.unusedSimpArgs false
set_option linter.deprecated false
namespace Go.Am
open Go.RowKit Go.Cx
section
variable {E : Env} {Hs Hs' Y : Heap} {g : FuncId} {al : List AV} {r0 : AV}
theorem rdAs_id {H : Heap} {σ : List Nat} {n : Nat} (hf : ∀ r, r < n → sg H.length σ r = r) : ∀ {al : List AV}, nbs n al → rdAs false σ H n al al
  | [], _ => trivial
  | a :: al, h => by
    unfold nbs at h
    unfold rdAs
    exact ⟨.inl (.inl ⟨h.1, Wk.of (amap_id hf h.1).symm⟩), rdAs_id hf h.2⟩
/-- A contract of the first blocks. -/
theorem ACalls.pre (h : ACalls E g al Hs fun r H' => r = r0 ∧ H' = Hs') (hl : Hs'.length = Hs.length) (hn : nbs Hs.length al) (hr : nb Hs.length r0) (hB : ∀ (k : Nat) (B : Blk), Hs[k]? = some (some B) → nbB Hs.length B) (hB' : ∀ (k : Nat) (B : Blk), Hs'[k]? = some (some B) → nbB Hs.length B) (Y : Heap) :
    ACalls E g al (Hs ++ Y) fun r H' => r = r0 ∧ H' = Hs' ++ Y := by
  have hgd : ∀ k, k < Hs.length → (List.range Hs.length).getD k 0 = k := fun k hk => by rw [List.getD_eq_getElem?_getD, List.getElem?_range hk]; rfl
  have hsg : ∀ r, r < Hs.length → sg (Hs ++ Y).length (List.range Hs.length) r = r := fun r hr => by
    unfold sg
    rw [List.length_range, if_pos hr, hgd r hr]
  have h2 := h.frame (H := Hs ++ Y) (as' := al) false (List.range Hs.length) List.nodup_range (by simp) (fun q hq => by have := List.mem_range.1 hq; simp; omega) (fun k B hk => by
    have hkl := (List.getElem?_eq_some_iff.1 hk).1
    refine ⟨hB k B hk, ?_⟩
    rw [hgd k hkl, List.getElem?_append_left hkl, hk, bmap_id (n := Hs.length) hsg (hB k B hk)]) (rdAs_id hsg hn) (fun _ _ _ hh => by cases hh)
  refine ⟨h2.1, fun w M vs hG hv => (h2.2 w M vs hG hv).mono ?_⟩
  rintro e w' ⟨r, H', v, M', rfl, ⟨r1, H1, ⟨rfl, rfl⟩, rfl, rfl⟩, rest⟩
  refine ⟨_, _, v, M', rfl, ⟨amap_id hsg hr, ?_⟩, rest⟩
  unfold back
  rw [List.drop_of_length_le (by simp; omega), List.map_nil, List.append_nil]
  apply List.ext_getElem?
  intro k
  by_cases hk : k < Hs.length
  · have hk' : k < H1.length := by omega
    have := backs_in (σ := List.range Hs.length) (f := sg (Hs ++ Y).length (List.range Hs.length)) (H := Hs ++ Y) (H' := H1) (k := k) List.nodup_range (fun q hq => by have := List.mem_range.1 hq; simp; omega) (by simpa using hk) _ (List.getElem?_eq_getElem hk')
    rw [hgd k hk] at this
    rw [this, List.getElem?_append_left hk', List.getElem?_eq_getElem hk']
    cases hb : H1[k] with
    | none => rfl
    | some B =>
      have hB2 : H1[k]? = some (some B) := by rw [List.getElem?_eq_getElem hk', hb]
      simp only [Option.map_some]
      rw [bmap_id (n := Hs.length) hsg (hB' k B hB2)]
  · rw [backs_out (by simpa using hk), List.getElem?_append_right (by omega), List.getElem?_append_right (by omega), hl]
end
end Go.Am
namespace Go.Proofs.Ytckppkimjiifpaa
open Go.RowKit Go.Cx Go.Am
set_option maxRecDepth 8000
set_option maxHeartbeats 2000000
attribute [local irreducible] ACalls jcall jsame jex jexg jexh jguard jconv jload jpart jstore jbin jslice jidxA jidx jfield jfieldA jbuild jbuildS jmake jappend jlen jpick jres jcnd jcopy jcap jborn jdraw jops jop jstr jstrc jlive jend jlenM jmmake jlook jmput jmdel jrange jnext jentry jlk jmp2 jmd2 jlm jrg jnx jny jen jeo
attribute [local go_sem] reduceIte Nat.reduceEqDiff Nat.reduceAdd Nat.reduceMul Nat.reduceLT Nat.reduceLeDiff Nat.reduceSub Int.reduceLT Int.reduceLE Int.reduceToNat Int.reduceNeg Int.reduceAdd Int.reduceSub UInt8.reduceToNat Int.reduceEq reduceCtorEq Int.reducePow Int.reduceMul Nat.reducePow E0
attribute [local go_sem ↓] reduceIte
attribute [local go_sem high] chunks_bvs
attribute [local go_sem] tgs_nil tgs_snoc tagC_eq rwb_nil jop_makeMap jop_lookup jop_mapUpdate jop_delete jop_range jop_next jop_entry jmmake_m jlook_m jlk_mI jmput_m jmp2_mI jmdel_m jmd2_mB jlenM_m jlm_mB jrange_m jnext_m jnx_m jentry_m jen_m jeo_mS nbB_mI nbB_mSI bmap_mI bmap_mSI mB_nil vI nbB_o nbB_r nbB_i bmap_o bmap_r bmap_i gfB_o gfB_r gfB_i
attribute [local go_sem ←] List.map_take List.map_drop

def lk0 : Lk := ⟨[], []⟩
def lk (st : List Lk) (i : Nat) : Lk := st.getD i lk0
/-- Pointers to n locks. -/
def lps (n : Nat) : List (List AV) := (List.range n).map fun j => [.ptr (2 * j + 1) 0]
def lkV : Nat → List Lk → Heap
  | _, [] => []
  | j, k :: st => some (.obj [.mp (2 * j + 2), .sl 2 (cels k.row)]) :: some (mB vI k.held) :: lkV (j + 1) st
/-- Locks: the row of pointers; each lock's struct and its map. -/
def LH (st : List Lk) : Heap := some (.obj [.sl 1 (lps st.length)]) :: lkV 0 st
theorem lps_len (n : Nat) : (lps n).length = n := by simp [lps]
theorem lps_get {n i : Nat} (h : i < n) : (lps n).getD i [] = [.ptr (2 * i + 1) 0] := by
  simp [lps, List.getD_eq_getElem?_getD, List.getElem?_map, List.getElem?_range h]
theorem lps_drop {n k i : Nat} (h : k + i < n) : ((lps n).drop k).getD i [] = [.ptr (2 * (k + i) + 1) 0] := by
  rw [List.getD_eq_getElem?_getD, List.getElem?_drop, ← List.getD_eq_getElem?_getD, lps_get h]
theorem lkV_len (j : Nat) (st : List Lk) : (lkV j st).length = 2 * st.length := by
  induction st generalizing j with
  | nil => rfl
  | cons k st ih => simp [lkV, ih]; omega
theorem LH_len (st : List Lk) : (LH st).length = 2 * st.length + 1 := by simp [LH, lkV_len]
theorem lkV_o (j : Nat) (st : List Lk) (i : Nat) (hi : i < st.length) : (lkV j st)[2 * i]? = some (some (.obj [.mp (2 * (j + i) + 2), .sl 2 (cels (lk st i).row)])) ∧ (lkV j st)[2 * i + 1]? = some (some (mB vI (lk st i).held)) := by
  induction st generalizing j i with
  | nil => simp at hi
  | cons k st ih =>
    cases i with
    | zero => exact ⟨rfl, rfl⟩
    | succ i =>
      have := ih (j + 1) i (by simpa using hi)
      have e : j + 1 + i = j + (i + 1) := by omega
      rw [e] at this
      exact this
theorem LH_0 (st : List Lk) : (LH st)[0]? = some (some (.obj [.sl 1 (lps st.length)])) := rfl
theorem LH_o (st : List Lk) {i : Nat} (hi : i < st.length) : (LH st)[2 * i + 1]? = some (some (.obj [.mp (2 * i + 2), .sl 2 (cels (lk st i).row)])) := by
  have := (lkV_o 0 st i hi).1
  rw [Nat.zero_add] at this
  exact this
theorem LH_m (st : List Lk) {i : Nat} (hi : i < st.length) : (LH st)[2 * i + 2]? = some (some (mB vI (lk st i).held)) := (lkV_o 0 st i hi).2
theorem at_app {H : Heap} {k : Nat} {x : Option Blk} (h : H[k]? = some x) (L : Heap) : (H ++ L)[k]? = some x := by
  rw [List.getElem?_append_left (List.getElem?_eq_some_iff.1 h).1]
  exact h
/-- Lock i turned. -/
theorem lkV_set (j : Nat) (st : List Lk) (i : Nat) (k : Lk) : ((lkV j st).set (2 * i) (some (.obj [.mp (2 * (j + i) + 2), .sl 2 (cels k.row)]))).set (2 * i + 1) (some (mB vI k.held)) = lkV j (st.set i k) := by
  induction st generalizing j i with
  | nil => simp [lkV]
  | cons a st ih =>
    cases i with
    | zero => rfl
    | succ i =>
      have := ih (j + 1) i
      have e : j + 1 + i = j + (i + 1) := by omega
      rw [e] at this
      show _ :: _ :: (((lkV (j + 1) st).set (2 * i) _).set (2 * i + 1) _) = _ :: _ :: lkV (j + 1) (st.set i k)
      rw [this]
theorem LH_set (st : List Lk) (i : Nat) (k : Lk) : ((LH st).set (2 * i + 1) (some (.obj [.mp (2 * i + 2), .sl 2 (cels k.row)]))).set (2 * i + 2) (some (mB vI k.held)) = LH (st.set i k) := by
  have := lkV_set 0 st i k
  rw [Nat.zero_add] at this
  unfold LH
  rw [List.length_set, ← this]
  rfl
theorem set_same {H : Heap} {k : Nat} {x : Option Blk} (h : H[k]? = some x) : H.set k x = H := by
  apply List.ext_getElem?
  intro q
  rw [List.getElem?_set]
  split
  · next e => subst e; rw [if_pos (List.getElem?_eq_some_iff.1 h).1, h]
  · rfl
theorem LH_setM (st : List Lk) {i : Nat} (hi : i < st.length) (m : List (Int × Int)) : (LH st).set (2 * i + 2) (some (mB vI m)) = LH (st.set i ⟨m, (lk st i).row⟩) := by
  rw [← LH_set, set_same (LH_o st hi)]
theorem LH_nbs (st : List Lk) : ∀ (k : Nat) (B : Blk), (LH st)[k]? = some (some B) → nbB (LH st).length B := by
  intro k B hk
  rw [LH_len]
  rcases Nat.eq_zero_or_pos k with rfl | hp
  · rw [LH_0] at hk
    cases hk
    refine ⟨?_, trivial⟩
    unfold nb
    rw [nbss_iff]
    intro e he
    obtain ⟨j, hj, rfl⟩ := List.mem_map.1 he
    have := List.mem_range.1 hj
    exact ⟨by unfold nb; omega, trivial⟩
  · have hk2 := (List.getElem?_eq_some_iff.1 hk).1
    rw [LH_len] at hk2
    obtain ⟨i, h | h⟩ : ∃ i, k = 2 * i + 1 ∨ k = 2 * i + 2 := ⟨(k - 1) / 2, by omega⟩
    · subst h
      rw [LH_o st (by omega)] at hk
      cases hk
      exact ⟨by unfold nb; omega, of_eq_true (cels_nbss _), trivial⟩
    · subst h
      rw [LH_m st (by omega)] at hk
      cases hk
      exact of_eq_true nbB_mI
theorem preL {g : FuncId} {al : List AV} {r0 : AV} {st st' : List Lk} (h : ACalls E0 g al (LH st) fun r H' => r = r0 ∧ H' = LH st') (hl : st'.length = st.length) (ok : nbs (2 * st.length + 1) al ∧ nb (2 * st.length + 1) r0) (Y : Heap) : ACalls E0 g al (LH st ++ Y) fun r H' => r = r0 ∧ H' = LH st' ++ Y := by
  have hl2 : (LH st').length = (LH st).length := by rw [LH_len, LH_len, hl]
  rw [← LH_len] at ok
  exact ACalls.pre h hl2 ok.1 ok.2 (LH_nbs st) (fun k B hk => by rw [← hl2]; exact LH_nbs st' k B hk) Y
/-- A call that sees the locks alone. -/
theorem zL {K : Kvh} {g : FuncId} {al : List AV} {r0 : AV} {st st' : List Lk} {Y : Heap} (h : ACalls E0 g al (LH st) fun r H' => r = r0 ∧ H' = LH st') (hl : st'.length = st.length) (ok : nbs (2 * st.length + 1) al ∧ nb (2 * st.length + 1) r0) (hk : K.k r0 (LH st' ++ Y)) : jcall (K := K) E0 g al (LH st ++ Y) := z_ret (preL h hl ok Y) hk
theorem lps_nb {n N : Nat} (h : 2 * n ≤ N) : nbss N (lps n) := by
  rw [nbss_iff]
  intro e he
  obtain ⟨j, hj, rfl⟩ := List.mem_map.1 he
  have := List.mem_range.1 hj
  exact ⟨by unfold nb; omega, trivial⟩
theorem lpsN (st : List Lk) : nbss (LH st).length (lps st.length) = True := eq_true (lps_nb (by rw [LH_len]; omega))
theorem lpsK (st : List Lk) (k : Nat) : nbss ((LH st).length + k) (lps st.length) = True := eq_true (lps_nb (by rw [LH_len]; omega))
theorem lpsA (st : List Lk) (σ : List Nat) : amapss (sh (LH st).length σ) (lps st.length) = lps st.length := amapss_id (n := (LH st).length) (fun _ h => sh_lt h) (of_eq_true (lpsN st))
theorem nbss_drop' {N : Nat} : ∀ {l : List (List AV)}, nbss N l → ∀ d, nbss N (l.drop d)
  | l, h, 0 => h
  | [], _, d + 1 => by simp [nbss]
  | _ :: l, h, d + 1 => nbss_drop' (l := l) h.2 d
theorem lpsDK (st : List Lk) (k d : Nat) : nbss ((LH st).length + k) ((lps st.length).drop d) = True := eq_true (nbss_drop' (lps_nb (by rw [LH_len]; omega)) d)
theorem lpsDA (st : List Lk) (σ : List Nat) (d : Nat) : amapss (sh (LH st).length σ) ((lps st.length).drop d) = (lps st.length).drop d := amapss_id (n := (LH st).length) (fun _ h => sh_lt h) (nbss_drop' (of_eq_true (lpsN st)) d)
/-- A function's end that leaves the locks, and nothing else. -/
theorem end_L {r r2 : AV} {st : List Lk} {L : Heap} {n : Nat} {p : (Nat → AV) → Heap → Prop} (d : Nat) (hn : n ≤ (LH st).length) (hR : p (ofl [(0, r2)]) (LH st)) (hr : nb (LH st).length r2 ∧ Wk (frz d L (LH st).length r) r2) : Cl E0 n p (ofl [(0, r)]) (LH st ++ L) :=
  ⟨ofl [(0, r2)], LH st, cq_drop d hn (LH_nbs st) ⟨⟨hr.1, hr.2⟩, trivial⟩, hR⟩
theorem lmade_am (st : List Lk) : ACalls E0 25 [.ptr 0 0] (LH st) fun r H' => r = .v (.bool (decide (0 < st.length))) ∧ H' = LH st := by
  have h0 := LH_0 st
  have e : decide (0 < (st.length : Int)) = decide (0 < st.length) := by congr 1; simp
  refine calls_q (calls_of Try.func25 rfl (by kernel_rfl) (by kernel_rfl) (by rw [Try.ntmps25]; exact Nat.le_of_ble_eq_true rfl) (fun hH0 hA0 => ?_)); rw [Try.results25]
  (repeat' (first | (have hs := Mk.out hs; (try simp only [decide_eq_true_eq, decide_eq_false_iff_not, Bool.not_eq_true, Bool.not_eq_false, Bool.not_true, Bool.not_false, Bool.not_eq_eq_eq_not, Bool.and_eq_true, Bool.or_eq_true, beq_iff_eq, bne_iff_ne, beq_eq_false_iff_ne, ne_eq, Classical.not_not, not_true_eq_false, not_false_eq_true, forall_const, Bool.false_eq_true, false_implies, eq_self] at hs); (try (exfalso; omega)); (try simp (disch := omega) only [go_sem, h0, lps_len, e, hs])) | (refine z_seqr rfl ?_) | (refine w_seq rfl fun K hK => ?_) | (refine z_reg rfl ?_) | (refine z_cond rfl ?_) | (refine w_skip rfl ?_; ((repeat ((fail_if_success (refine hK _ _ (cl_id ?_))); clear hK)); refine hK _ _ (cl_id ?_); clear hK)) | (refine w_ret rfl ?_; (try dsimp only [anorm, ablock, astay]); refine z_end ?_) | (refine z_end0 ?_) | (refine w_block rfl ?_) | (refine w_scope rfl ?_) | (refine w_label rfl ?_; ((repeat ((fail_if_success (refine hK _ _ (cl_id ?_))); clear hK)); refine hK _ _ (cl_id ?_); clear hK)) | (refine w_exit rfl ?_; (try dsimp only [anorm, ablock, astay]); (try simp only [reduceIte, ↓reduceIte, Nat.reduceEqDiff]); ((repeat ((fail_if_success (refine hK _ _ (cl_id ?_))); clear hK)); refine hK _ _ (cl_id ?_); clear hK)) | (refine jend_go [(1, [2]), (0, [0])] ?_; simp only [tabAt_cons, sel_nil, sel_cons, put_at, ofl_cons, ofl_nil, T0_at, List.getElem?_cons_zero, List.getElem?_cons_succ, List.getElem?_nil, Option.getD_some, Option.getD_none, reduceIte, ↓reduceIte, Nat.reduceEqDiff]; refine jl_go ?_) | simp (disch := omega) only [go_sem, h0, lps_len, e] | (refine jc_t ?_) | (refine jc_f ?_) | (refine And.intro (by (first | omega | (simp; done) | (simp; omega))) ?_) | (refine mc_b (fun hs => ?_) fun hs => ?_) | (refine mg_st (fun hs => ?_) fun hs => ?_) | (refine mg_sf (fun hs => ?_) fun hs => ?_) | (refine mall_s (fun hs => ?_) fun hs => ?_) | (refine malln_s (fun hs => ?_) fun hs => ?_) | (refine mpk_s (fun hs => ?_) fun hs => ?_) | ((repeat ((fail_if_success (refine hK _ _ (cl_id ?_))); clear hK)); refine hK _ _ (cl_id ?_); clear hK)))
  exact cl_id ⟨rfl, rfl⟩
theorem lisTask_am (t : Int) : ACalls E0 27 [.v (.int .i64 t)] [] fun r H' => r = .v (.bool (decide (0 ≤ t ∧ t < 4096))) ∧ H' = [] := by
  by_cases h1 : 0 ≤ t
  · have e : decide (0 ≤ t ∧ t < 4096) = decide (t < 4096) := by simp [h1]
    rw [e]
    refine calls_q (calls_of Try.func27 rfl (by kernel_rfl) (by kernel_rfl) (by rw [Try.ntmps27]; exact Nat.le_of_ble_eq_true rfl) (fun hH0 hA0 => ?_)); rw [Try.results27]
    (repeat' (first | (have hs := Mk.out hs; (try simp only [decide_eq_true_eq, decide_eq_false_iff_not, Bool.not_eq_true, Bool.not_eq_false, Bool.not_true, Bool.not_false, Bool.not_eq_eq_eq_not, Bool.and_eq_true, Bool.or_eq_true, beq_iff_eq, bne_iff_ne, beq_eq_false_iff_ne, ne_eq, Classical.not_not, not_true_eq_false, not_false_eq_true, forall_const, Bool.false_eq_true, false_implies, eq_self] at hs); (try (exfalso; omega)); (try simp (disch := omega) only [go_sem, h1, hs])) | (refine z_seqr rfl ?_) | (refine w_seq rfl fun K hK => ?_) | (refine z_reg rfl ?_) | (refine z_cond rfl ?_) | (refine w_skip rfl ?_; ((repeat ((fail_if_success (refine hK _ _ (cl_id ?_))); clear hK)); refine hK _ _ (cl_id ?_); clear hK)) | (refine w_ret rfl ?_; (try dsimp only [anorm, ablock, astay]); refine z_end ?_) | (refine z_end0 ?_) | (refine w_block rfl ?_) | (refine w_scope rfl ?_) | (refine w_label rfl ?_; ((repeat ((fail_if_success (refine hK _ _ (cl_id ?_))); clear hK)); refine hK _ _ (cl_id ?_); clear hK)) | (refine w_exit rfl ?_; (try dsimp only [anorm, ablock, astay]); (try simp only [reduceIte, ↓reduceIte, Nat.reduceEqDiff]); ((repeat ((fail_if_success (refine hK _ _ (cl_id ?_))); clear hK)); refine hK _ _ (cl_id ?_); clear hK)) | (refine jend_go [(1, [2]), (0, [0])] ?_; simp only [tabAt_cons, sel_nil, sel_cons, put_at, ofl_cons, ofl_nil, T0_at, List.getElem?_cons_zero, List.getElem?_cons_succ, List.getElem?_nil, Option.getD_some, Option.getD_none, reduceIte, ↓reduceIte, Nat.reduceEqDiff]; refine jl_go ?_) | simp (disch := omega) only [go_sem, h1] | (refine jc_t ?_) | (refine jc_f ?_) | (refine And.intro (by (first | omega | (simp; done) | (simp; omega))) ?_) | (refine mc_b (fun hs => ?_) fun hs => ?_) | (refine mg_st (fun hs => ?_) fun hs => ?_) | (refine mg_sf (fun hs => ?_) fun hs => ?_) | (refine mall_s (fun hs => ?_) fun hs => ?_) | (refine malln_s (fun hs => ?_) fun hs => ?_) | (refine mpk_s (fun hs => ?_) fun hs => ?_) | ((repeat ((fail_if_success (refine hK _ _ (cl_id ?_))); clear hK)); refine hK _ _ (cl_id ?_); clear hK)))
    exact cl_id ⟨rfl, rfl⟩
  · have e : decide (0 ≤ t ∧ t < 4096) = false := by simp [h1]
    rw [e]
    refine calls_q (calls_of Try.func27 rfl (by kernel_rfl) (by kernel_rfl) (by rw [Try.ntmps27]; exact Nat.le_of_ble_eq_true rfl) (fun hH0 hA0 => ?_)); rw [Try.results27]
    (repeat' (first | (have hs := Mk.out hs; (try simp only [decide_eq_true_eq, decide_eq_false_iff_not, Bool.not_eq_true, Bool.not_eq_false, Bool.not_true, Bool.not_false, Bool.not_eq_eq_eq_not, Bool.and_eq_true, Bool.or_eq_true, beq_iff_eq, bne_iff_ne, beq_eq_false_iff_ne, ne_eq, Classical.not_not, not_true_eq_false, not_false_eq_true, forall_const, Bool.false_eq_true, false_implies, eq_self] at hs); (try (exfalso; omega)); (try simp (disch := omega) only [go_sem, h1, hs])) | (refine z_seqr rfl ?_) | (refine w_seq rfl fun K hK => ?_) | (refine z_reg rfl ?_) | (refine z_cond rfl ?_) | (refine w_skip rfl ?_; ((repeat ((fail_if_success (refine hK _ _ (cl_id ?_))); clear hK)); refine hK _ _ (cl_id ?_); clear hK)) | (refine w_ret rfl ?_; (try dsimp only [anorm, ablock, astay]); refine z_end ?_) | (refine z_end0 ?_) | (refine w_block rfl ?_) | (refine w_scope rfl ?_) | (refine w_label rfl ?_; ((repeat ((fail_if_success (refine hK _ _ (cl_id ?_))); clear hK)); refine hK _ _ (cl_id ?_); clear hK)) | (refine w_exit rfl ?_; (try dsimp only [anorm, ablock, astay]); (try simp only [reduceIte, ↓reduceIte, Nat.reduceEqDiff]); ((repeat ((fail_if_success (refine hK _ _ (cl_id ?_))); clear hK)); refine hK _ _ (cl_id ?_); clear hK)) | (refine jend_go [(1, [2]), (0, [0])] ?_; simp only [tabAt_cons, sel_nil, sel_cons, put_at, ofl_cons, ofl_nil, T0_at, List.getElem?_cons_zero, List.getElem?_cons_succ, List.getElem?_nil, Option.getD_some, Option.getD_none, reduceIte, ↓reduceIte, Nat.reduceEqDiff]; refine jl_go ?_) | simp (disch := omega) only [go_sem, h1] | (refine jc_t ?_) | (refine jc_f ?_) | (refine And.intro (by (first | omega | (simp; done) | (simp; omega))) ?_) | (refine mc_b (fun hs => ?_) fun hs => ?_) | (refine mg_st (fun hs => ?_) fun hs => ?_) | (refine mg_sf (fun hs => ?_) fun hs => ?_) | (refine mall_s (fun hs => ?_) fun hs => ?_) | (refine malln_s (fun hs => ?_) fun hs => ?_) | (refine mpk_s (fun hs => ?_) fun hs => ?_) | ((repeat ((fail_if_success (refine hK _ _ (cl_id ?_))); clear hK)); refine hK _ _ (cl_id ?_); clear hK)))
    exact cl_id ⟨rfl, rfl⟩
theorem lat_am (st : List Lk) (i : Nat) (hi : i < st.length) : ACalls E0 26 [.ptr 0 0, .v (.int .i64 (i : Int))] (LH st) fun r H' => r = .ptr (2 * i + 1) 0 ∧ H' = LH st := by
  have h0 := LH_0 st
  have hm := lmade_am st
  have e : decide (0 < st.length) = true := decide_eq_true (by omega)
  rw [e] at hm
  have g1 : ¬ (st.length : Int) ≤ i := by omega
  have g2 : ¬ (i : Int) < 0 := by omega
  have g3 := lps_get hi
  refine calls_q (calls_of Try.func26 rfl (by kernel_rfl) (by kernel_rfl) (by rw [Try.ntmps26]; exact Nat.le_of_ble_eq_true rfl) (fun hH0 hA0 => ?_)); rw [Try.results26]
  (repeat' (first | (have hs := Mk.out hs; (try simp only [decide_eq_true_eq, decide_eq_false_iff_not, Bool.not_eq_true, Bool.not_eq_false, Bool.not_true, Bool.not_false, Bool.not_eq_eq_eq_not, Bool.and_eq_true, Bool.or_eq_true, beq_iff_eq, bne_iff_ne, beq_eq_false_iff_ne, ne_eq, Classical.not_not, not_true_eq_false, not_false_eq_true, forall_const, Bool.false_eq_true, false_implies, eq_self] at hs); (try (exfalso; omega)); (try simp (disch := omega) only [go_sem, h0, lps_len, g1, g2, g3, hs])) | (refine z_seqr rfl ?_) | (refine w_seq rfl fun K hK => ?_) | (refine z_reg rfl ?_) | (refine z_cond rfl ?_) | (refine w_skip rfl ?_; ((repeat ((fail_if_success (refine hK _ _ (cl_id ?_))); clear hK)); refine hK _ _ (cl_id ?_); clear hK)) | (refine w_ret rfl ?_; (try dsimp only [anorm, ablock, astay]); refine z_end ?_) | (refine z_end0 ?_) | (refine w_block rfl ?_) | (refine w_scope rfl ?_) | (refine w_label rfl ?_; ((repeat ((fail_if_success (refine hK _ _ (cl_id ?_))); clear hK)); refine hK _ _ (cl_id ?_); clear hK)) | (refine w_exit rfl ?_; (try dsimp only [anorm, ablock, astay]); (try simp only [reduceIte, ↓reduceIte, Nat.reduceEqDiff]); ((repeat ((fail_if_success (refine hK _ _ (cl_id ?_))); clear hK)); refine hK _ _ (cl_id ?_); clear hK)) | (refine jend_go [(3, [4]), (2, [4]), (1, [0, 1, 20]), (0, [0, 1])] ?_; simp only [tabAt_cons, sel_nil, sel_cons, put_at, ofl_cons, ofl_nil, T0_at, List.getElem?_cons_zero, List.getElem?_cons_succ, List.getElem?_nil, Option.getD_some, Option.getD_none, reduceIte, ↓reduceIte, Nat.reduceEqDiff]; refine jl_go ?_) | simp (disch := omega) only [go_sem, h0, lps_len, g1, g2, g3] | (refine jc_t ?_) | (refine jc_f ?_) | (refine z_ret (hm) ?_) | (refine And.intro (by (first | omega | (simp; done) | (simp; omega))) ?_) | (refine mc_b (fun hs => ?_) fun hs => ?_) | (refine mg_st (fun hs => ?_) fun hs => ?_) | (refine mg_sf (fun hs => ?_) fun hs => ?_) | (refine mall_s (fun hs => ?_) fun hs => ?_) | (refine malln_s (fun hs => ?_) fun hs => ?_) | (refine mpk_s (fun hs => ?_) fun hs => ?_) | ((repeat ((fail_if_success (refine hK _ _ (cl_id ?_))); clear hK)); refine hK _ _ (cl_id ?_); clear hK)))
  exact cl_id ⟨rfl, rfl⟩
theorem latN_am (st : List Lk) (n : Int) (h : ¬ (0 ≤ n ∧ n < st.length)) : ACalls E0 26 [.ptr 0 0, .v (.int .i64 n)] (LH st) fun r H' => r = .v (.pointer none) ∧ H' = LH st := by
  have h0 := LH_0 st
  have hm := lmade_am st
  by_cases e : 0 < st.length
  · rw [decide_eq_true e] at hm
    by_cases g1 : n < 0
    · refine calls_q (calls_of Try.func26 rfl (by kernel_rfl) (by kernel_rfl) (by rw [Try.ntmps26]; exact Nat.le_of_ble_eq_true rfl) (fun hH0 hA0 => ?_)); rw [Try.results26]
      (repeat' (first | (have hs := Mk.out hs; (try simp only [decide_eq_true_eq, decide_eq_false_iff_not, Bool.not_eq_true, Bool.not_eq_false, Bool.not_true, Bool.not_false, Bool.not_eq_eq_eq_not, Bool.and_eq_true, Bool.or_eq_true, beq_iff_eq, bne_iff_ne, beq_eq_false_iff_ne, ne_eq, Classical.not_not, not_true_eq_false, not_false_eq_true, forall_const, Bool.false_eq_true, false_implies, eq_self] at hs); (try (exfalso; omega)); (try simp (disch := omega) only [go_sem, h0, lps_len, g1, hs])) | (refine z_seqr rfl ?_) | (refine w_seq rfl fun K hK => ?_) | (refine z_reg rfl ?_) | (refine z_cond rfl ?_) | (refine w_skip rfl ?_; ((repeat ((fail_if_success (refine hK _ _ (cl_id ?_))); clear hK)); refine hK _ _ (cl_id ?_); clear hK)) | (refine w_ret rfl ?_; (try dsimp only [anorm, ablock, astay]); refine z_end ?_) | (refine z_end0 ?_) | (refine w_block rfl ?_) | (refine w_scope rfl ?_) | (refine w_label rfl ?_; ((repeat ((fail_if_success (refine hK _ _ (cl_id ?_))); clear hK)); refine hK _ _ (cl_id ?_); clear hK)) | (refine w_exit rfl ?_; (try dsimp only [anorm, ablock, astay]); (try simp only [reduceIte, ↓reduceIte, Nat.reduceEqDiff]); ((repeat ((fail_if_success (refine hK _ _ (cl_id ?_))); clear hK)); refine hK _ _ (cl_id ?_); clear hK)) | (refine jend_go [(3, [4]), (2, [4]), (1, [0, 1, 20]), (0, [0, 1])] ?_; simp only [tabAt_cons, sel_nil, sel_cons, put_at, ofl_cons, ofl_nil, T0_at, List.getElem?_cons_zero, List.getElem?_cons_succ, List.getElem?_nil, Option.getD_some, Option.getD_none, reduceIte, ↓reduceIte, Nat.reduceEqDiff]; refine jl_go ?_) | simp (disch := omega) only [go_sem, h0, lps_len, g1] | (refine jc_t ?_) | (refine jc_f ?_) | (refine z_ret (hm) ?_) | (refine And.intro (by (first | omega | (simp; done) | (simp; omega))) ?_) | (refine mc_b (fun hs => ?_) fun hs => ?_) | (refine mg_st (fun hs => ?_) fun hs => ?_) | (refine mg_sf (fun hs => ?_) fun hs => ?_) | (refine mall_s (fun hs => ?_) fun hs => ?_) | (refine malln_s (fun hs => ?_) fun hs => ?_) | (refine mpk_s (fun hs => ?_) fun hs => ?_) | ((repeat ((fail_if_success (refine hK _ _ (cl_id ?_))); clear hK)); refine hK _ _ (cl_id ?_); clear hK)))
      exact cl_id ⟨rfl, rfl⟩
    · have g2 : (st.length : Int) ≤ n := by omega
      refine calls_q (calls_of Try.func26 rfl (by kernel_rfl) (by kernel_rfl) (by rw [Try.ntmps26]; exact Nat.le_of_ble_eq_true rfl) (fun hH0 hA0 => ?_)); rw [Try.results26]
      (repeat' (first | (have hs := Mk.out hs; (try simp only [decide_eq_true_eq, decide_eq_false_iff_not, Bool.not_eq_true, Bool.not_eq_false, Bool.not_true, Bool.not_false, Bool.not_eq_eq_eq_not, Bool.and_eq_true, Bool.or_eq_true, beq_iff_eq, bne_iff_ne, beq_eq_false_iff_ne, ne_eq, Classical.not_not, not_true_eq_false, not_false_eq_true, forall_const, Bool.false_eq_true, false_implies, eq_self] at hs); (try (exfalso; omega)); (try simp (disch := omega) only [go_sem, h0, lps_len, g1, g2, hs])) | (refine z_seqr rfl ?_) | (refine w_seq rfl fun K hK => ?_) | (refine z_reg rfl ?_) | (refine z_cond rfl ?_) | (refine w_skip rfl ?_; ((repeat ((fail_if_success (refine hK _ _ (cl_id ?_))); clear hK)); refine hK _ _ (cl_id ?_); clear hK)) | (refine w_ret rfl ?_; (try dsimp only [anorm, ablock, astay]); refine z_end ?_) | (refine z_end0 ?_) | (refine w_block rfl ?_) | (refine w_scope rfl ?_) | (refine w_label rfl ?_; ((repeat ((fail_if_success (refine hK _ _ (cl_id ?_))); clear hK)); refine hK _ _ (cl_id ?_); clear hK)) | (refine w_exit rfl ?_; (try dsimp only [anorm, ablock, astay]); (try simp only [reduceIte, ↓reduceIte, Nat.reduceEqDiff]); ((repeat ((fail_if_success (refine hK _ _ (cl_id ?_))); clear hK)); refine hK _ _ (cl_id ?_); clear hK)) | (refine jend_go [(3, [4]), (2, [4]), (1, [0, 1, 20]), (0, [0, 1])] ?_; simp only [tabAt_cons, sel_nil, sel_cons, put_at, ofl_cons, ofl_nil, T0_at, List.getElem?_cons_zero, List.getElem?_cons_succ, List.getElem?_nil, Option.getD_some, Option.getD_none, reduceIte, ↓reduceIte, Nat.reduceEqDiff]; refine jl_go ?_) | simp (disch := omega) only [go_sem, h0, lps_len, g1, g2] | (refine jc_t ?_) | (refine jc_f ?_) | (refine z_ret (hm) ?_) | (refine And.intro (by (first | omega | (simp; done) | (simp; omega))) ?_) | (refine mc_b (fun hs => ?_) fun hs => ?_) | (refine mg_st (fun hs => ?_) fun hs => ?_) | (refine mg_sf (fun hs => ?_) fun hs => ?_) | (refine mall_s (fun hs => ?_) fun hs => ?_) | (refine malln_s (fun hs => ?_) fun hs => ?_) | (refine mpk_s (fun hs => ?_) fun hs => ?_) | ((repeat ((fail_if_success (refine hK _ _ (cl_id ?_))); clear hK)); refine hK _ _ (cl_id ?_); clear hK)))
      exact cl_id ⟨rfl, rfl⟩
  · rw [decide_eq_false e] at hm
    refine calls_q (calls_of Try.func26 rfl (by kernel_rfl) (by kernel_rfl) (by rw [Try.ntmps26]; exact Nat.le_of_ble_eq_true rfl) (fun hH0 hA0 => ?_)); rw [Try.results26]
    (repeat' (first | (have hs := Mk.out hs; (try simp only [decide_eq_true_eq, decide_eq_false_iff_not, Bool.not_eq_true, Bool.not_eq_false, Bool.not_true, Bool.not_false, Bool.not_eq_eq_eq_not, Bool.and_eq_true, Bool.or_eq_true, beq_iff_eq, bne_iff_ne, beq_eq_false_iff_ne, ne_eq, Classical.not_not, not_true_eq_false, not_false_eq_true, forall_const, Bool.false_eq_true, false_implies, eq_self] at hs); (try (exfalso; omega)); (try simp (disch := omega) only [go_sem, h0, lps_len, hs])) | (refine z_seqr rfl ?_) | (refine w_seq rfl fun K hK => ?_) | (refine z_reg rfl ?_) | (refine z_cond rfl ?_) | (refine w_skip rfl ?_; ((repeat ((fail_if_success (refine hK _ _ (cl_id ?_))); clear hK)); refine hK _ _ (cl_id ?_); clear hK)) | (refine w_ret rfl ?_; (try dsimp only [anorm, ablock, astay]); refine z_end ?_) | (refine z_end0 ?_) | (refine w_block rfl ?_) | (refine w_scope rfl ?_) | (refine w_label rfl ?_; ((repeat ((fail_if_success (refine hK _ _ (cl_id ?_))); clear hK)); refine hK _ _ (cl_id ?_); clear hK)) | (refine w_exit rfl ?_; (try dsimp only [anorm, ablock, astay]); (try simp only [reduceIte, ↓reduceIte, Nat.reduceEqDiff]); ((repeat ((fail_if_success (refine hK _ _ (cl_id ?_))); clear hK)); refine hK _ _ (cl_id ?_); clear hK)) | (refine jend_go [(3, [4]), (2, [4]), (1, [0, 1, 20]), (0, [0, 1])] ?_; simp only [tabAt_cons, sel_nil, sel_cons, put_at, ofl_cons, ofl_nil, T0_at, List.getElem?_cons_zero, List.getElem?_cons_succ, List.getElem?_nil, Option.getD_some, Option.getD_none, reduceIte, ↓reduceIte, Nat.reduceEqDiff]; refine jl_go ?_) | simp (disch := omega) only [go_sem, h0, lps_len] | (refine jc_t ?_) | (refine jc_f ?_) | (refine z_ret (hm) ?_) | (refine And.intro (by (first | omega | (simp; done) | (simp; omega))) ?_) | (refine mc_b (fun hs => ?_) fun hs => ?_) | (refine mg_st (fun hs => ?_) fun hs => ?_) | (refine mg_sf (fun hs => ?_) fun hs => ?_) | (refine mall_s (fun hs => ?_) fun hs => ?_) | (refine malln_s (fun hs => ?_) fun hs => ?_) | (refine mpk_s (fun hs => ?_) fun hs => ?_) | ((repeat ((fail_if_success (refine hK _ _ (cl_id ?_))); clear hK)); refine hK _ _ (cl_id ?_); clear hK)))
    exact cl_id ⟨rfl, rfl⟩
end Go.Proofs.Ytckppkimjiifpaa
