/- Timers: what is due, by the machine. No condition. -/
import Derived.Test.YtmafdnbdaaedgaaYQk
import Derived.Test.YtmafdnbdaaedgaaYb1
import Derived.Test.YtmafdnbdaaedgaaYgs
set_option linter.unusedSectionVars false
set_option linter.unusedVariables false
set_option linter.unusedSimpArgs false
set_option linter.deprecated false
namespace Go.Proofs.Ytmafdnbdaaedgaa
open Go.RowKit Go.Cx Go.Am
set_option maxRecDepth 8000
set_option maxHeartbeats 2000000
attribute [local irreducible] ACalls jcall jsame jex jexg jexh jguard jconv jload jpart jstore jbin jslice jidxA jidx jfield jfieldA jbuild jbuildS jmake jappend jlen jpick jres jcnd jcopy jcap jborn jdraw jops jop jstr jstrc jlive jend jlenM jmmake jlook jmput jmdel jrange jnext jentry jlk jmp2 jmd2 jlm jrg jnx jny jen jeo jinvoke jmkI jtyA
attribute [local go_sem] reduceIte Nat.reduceEqDiff Nat.reduceAdd Nat.reduceMul Nat.reduceLT Nat.reduceLeDiff Nat.reduceSub Int.reduceLT Int.reduceLE Int.reduceToNat Int.reduceNeg Int.reduceAdd Int.reduceSub UInt8.reduceToNat Int.reduceEq reduceCtorEq Int.reducePow Int.reduceMul Nat.reducePow E0
attribute [local go_sem ↓] reduceIte
attribute [local go_sem high] chunks_bvs
attribute [local go_sem] jop_makeMap jop_lookup jop_mapUpdate jop_delete jop_range jop_next jop_entry jmmake_m jlook_m jlk_mI jmput_m jmdel_m jmd2_mB jlm_mB jrange_m jnext_m jnx_m jentry_m jen_m jeo_mS bmap_mI bmap_mSI mB_nil vI nbB_o nbB_r nbB_i bmap_o bmap_r bmap_i gfB_o gfB_r gfB_i jop_invoke jop_makeInterface jop_typeAssert jinvoke_m jmkI_m jtyA_m ifp_nb
attribute [local go_sem ←] List.map_take List.map_drop

/-- A row is frozen at the end. -/
theorem end_ice {H : Heap} {r sz k n : Nat} {es : List (List AV)} {p : (Nat → AV) → Heap → Prop} (hr : H[r]? = some (some (.row true sz es))) (hk : k = es.length) (hR : p (ofl [(0, .sl sz es)]) (H.set r none)) : Cl E0 n p (ofl [(0, .hs r sz 0 k)]) H := by
  refine ⟨_, _, cq_ice r hr (List.length_set ..) (fun q B' e => ?_) (fun x hx => ?_), hR⟩
  · rw [List.getElem?_set] at e
    split at e
    · split at e <;> cases e
    · next h => exact ⟨Ne.symm h, B', e, rlB_refl B'⟩
  · rw [List.mem_singleton] at hx
    subst hx
    subst hk
    show rl r sz es (.hs r sz 0 es.length) (.sl sz es)
    have := rl_hs (r := r) (sz := sz) (es := es) (off := 0) (k := es.length) (by omega)
    rwa [List.drop_zero, List.take_length] at this
theorem at_app' {H : Heap} {k : Nat} (h : k < H.length) (L : Heap) : (H ++ L)[k]? = H[k]? := List.getElem?_append_left h
def lt2 (a b : Int × Int) : Prop := a.2 < b.2 ∨ (a.2 = b.2 ∧ a.1 < b.1)
theorem hp_head {p : List It} {l : List (Int × Int)} (hp : Hp p p.length) (hs : l.Pairwise lt2) (pm : l.Perm (kt p)) (h0 : 0 < p.length) : ∃ r, l = (at3 p 0).2 :: r := by
  have hm : (at3 p 0).2 ∈ l := pm.mem_iff.2 (List.mem_map.2 ⟨_, at3_mem h0, rfl⟩)
  cases l with
  | nil => cases hm
  | cons x r =>
    refine ⟨r, ?_⟩
    rcases List.mem_cons.1 hm with e | e
    · rw [e]
    · exfalso
      have h1 := (List.pairwise_cons.1 hs).1 _ e
      obtain ⟨y, hy, rfl⟩ := List.mem_map.1 (pm.mem_iff.1 (List.mem_cons_self (a := x) (l := r)))
      obtain ⟨k, hk, rfl⟩ := List.getElem_of_mem hy
      have h2 := hp_root hp k hk
      rw [at3_eq hk] at h2
      exact h2 h1
theorem tw_of {α : Type} {f : α → Bool} : ∀ {l : List α} {i : Nat}, (∀ d ∈ l.take i, f d = true) → (∀ x r, l.drop i = x :: r → f x = false) → l.takeWhile f = l.take i ∧ l.dropWhile f = l.drop i
  | [], i, _, _ => by simp
  | x :: l, 0, _, h2 => by
    have := h2 x l rfl
    simp [List.takeWhile, List.dropWhile, this]
  | x :: l, i + 1, h1, h2 => by
    have e := h1 x (by simp)
    have := tw_of (l := l) (i := i) (fun d hd => h1 d (by simp [hd])) (fun y r hy => h2 y r (by simpa using hy))
    simp [List.takeWhile, List.dropWhile, e, this]
structure DuS where
  H : Heap
  m : List (Int × Nat)
  p : List It
  Z : List (List AV)
  o : Nat
  i : Nat
structure DuP (H0 : Heap) (b c q : Nat) (p0 : List It) (l : List (Int × Int)) (tick : Int) (s : DuS) : Prop where
  tz : Tz s.H b c q s.m s.p s.Z
  fw : Fw H0 b c q p0 s.H q s.p
  row : s.H[s.o]? = some (some (.row true 2 (cels (l.take s.i))))
  ho : H0.length ≤ s.o
  hi : s.i ≤ l.length
  pm : (l.drop s.i).Perm (kt s.p)
  ti : ∀ d ∈ l.take s.i, d.2 ≤ tick
def DueR (H : Heap) (b c q : Nat) (p : List It) (l : List (Int × Int)) (tick : Int) (H' : Heap) : Prop := ∃ m' p' Z', Tz H' b c q m' p' Z' ∧ (l.dropWhile fun d => decide (d.2 ≤ tick)).Perm (kt p') ∧ Fw H b c q p H' q p'
section
variable {H : Heap} {b c q : Nat} {m : List (Int × Nat)} {p : List It} {Z : List (List AV)}
/-- A row of another kind is not Timers' own. -/
theorem not_own (S : Tz H b c q m p Z) {o : Nat} {es : List (List AV)} (h : H[o]? = some (some (.row true 2 es))) : ¬ Ow b c q p o := by
  have hm := S.mp
  rintro (rfl | rfl | rfl | hk)
  · rcases S.th with T | ⟨_, _, hB⟩
    · rw [T.o] at h; cases h
    · rw [hB] at h; cases h
  · rw [hm] at h
    unfold mB at h
    cases h
  · rcases S.th with T | ⟨_, rfl, hB⟩
    · rw [T.row] at h; cases h
    · rw [hB] at h; cases h
  · rcases S.th with T | ⟨rfl, _, hB⟩
    · obtain ⟨a, ha, rfl⟩ := List.mem_map.1 hk
      obtain ⟨i, hi, rfl⟩ := List.getElem_of_mem ha
      have := T.it i hi
      rw [at3_eq hi, h] at this
      unfold itO at this
      cases this
    · cases hk
/-- A row of the call's own goes; more is laid behind. -/
theorem own_go {H1 H2 : Heap} {m1 : List (Int × Nat)} {p1 : List It} {Z1 : List (List AV)} (tz : Tz H1 b c q m1 p1 Z1) (fw : Fw H b c q p H1 q p1) {o : Nat} (ho : H.length ≤ o) (hno : ¬ Ow b c q p1 o) (hl : H1.length ≤ H2.length) (h : ∀ k, k < H1.length → k ≠ o → H2[k]? = H1[k]?) : Tz H2 b c q m1 p1 Z1 ∧ Fw H b c q p H2 q p1 :=
  ⟨tz.keep fun k hk => h k (tz.lt hk) fun e => hno (e ▸ hk), by have := fw.len; omega, fun k hk hn => (h k (by have := fw.len; omega) (by omega)).trans (fw.keep k hk hn), fw.own⟩
theorem set_o {H1 L : Heap} {o k : Nat} {x : Option Blk} (hk : k < H1.length) (n : k ≠ o) : ((H1 ++ L).set o x)[k]? = H1[k]? := by
  rw [List.getElem?_set_ne (Ne.symm n), List.getElem?_append_left hk]
theorem due_end {H1 : Heap} {m1 : List (Int × Nat)} {p1 : List It} {Z1 : List (List AV)} {l : List (Int × Int)} {tick : Int} (tz : Tz H1 b c q m1 p1 Z1) (fw : Fw H b c q p H1 q p1) {o i : Nat} (ho : H.length ≤ o) (hno : ¬ Ow b c q p1 o) (e : (l.dropWhile fun d => decide (d.2 ≤ tick)) = l.drop i) (pm : (l.drop i).Perm (kt p1)) (L : Heap) : DueR H b c q p l tick ((H1 ++ L).set o none) := by
  obtain ⟨t1, f1⟩ := own_go (H2 := (H1 ++ L).set o none) tz fw ho hno (by simp) fun k hk n => set_o hk n
  exact ⟨m1, p1, Z1, t1, by rw [e]; exact pm, f1⟩
theorem due_pm {p1 p2 : List It} {l r : List (Int × Int)} {key tk : Int} (nd : (p1.map (·.2.1)).Nodup) (h : l = (key, tk) :: r) (pm1 : l.Perm (kt p1)) (pm2 : (kt p2).Perm ((kt p1).filter fun a => decide (a.1 ≠ key))) : r.Perm (kt p2) := by
  subst h
  have n2 := ((pm1.map (·.1)).nodup_iff).2 (by rw [kt_keys]; exact nd)
  rw [List.map_cons, List.nodup_cons] at n2
  have h2 := (pm2.trans (pm1.filter _).symm).symm
  rw [List.filter_cons_of_neg (by simp), List.filter_eq_self.2] at h2
  · exact h2
  · intro x hx
    apply decide_eq_true
    rintro rfl
    exact n2.1 (List.mem_map.2 ⟨x, hx, rfl⟩)
theorem due_am (S : Tz H b c q m p Z) {l : List (Int × Int)} (hs : l.Pairwise lt2) (pm : l.Perm (kt p)) (tick : Int) (hl : p.length ≤ 1000000) : ACalls E0 9 [.ptr b 0, .v (.int .i64 tick)] H fun r H' => r = .sl 2 (cels (l.takeWhile fun d => decide (d.2 ≤ tick))) ∧ DueR H b c q p l tick H' := by
  obtain ⟨rv, hB⟩ := S.th.ob
  have hm := made_am hB
  have llen : l.length = p.length := by have := pm.length_eq; unfold kt at this; rwa [List.length_map] at this
  refine calls_q (calls_of Try.func9 rfl (by kernel_rfl) (by kernel_rfl) (by rw [Try.ntmps9]; exact Nat.le_of_ble_eq_true rfl) (fun hH0 hA0 => ?_)); rw [Try.results9]
  (repeat' (first | (have hs := Mk.out hs; (try simp only [decide_eq_true_eq, decide_eq_false_iff_not, Bool.not_eq_true, Bool.not_eq_false, Bool.not_true, Bool.not_false, Bool.not_eq_eq_eq_not, Bool.and_eq_true, Bool.or_eq_true, beq_iff_eq, bne_iff_ne, beq_eq_false_iff_ne, ne_eq, Classical.not_not, not_true_eq_false, not_false_eq_true, forall_const, Bool.false_eq_true, false_implies, eq_self] at hs); (try (exfalso; omega)); (try simp (disch := omega) only [go_sem, hB, hs])) | (refine z_seqr rfl ?_) | (refine w_seq rfl fun K hK => ?_) | (refine z_reg rfl ?_) | (refine z_cond rfl ?_) | (refine w_skip rfl ?_; ((repeat ((fail_if_success (refine hK _ _ (cl_id ?_))); clear hK)); refine hK _ _ (cl_id ?_); clear hK)) | (refine w_ret rfl ?_; (try dsimp only [anorm, ablock, astay]); refine z_end ?_) | (refine z_end0 ?_) | (refine w_block rfl ?_) | (refine w_scope rfl ?_) | (refine w_label rfl ?_; ((repeat ((fail_if_success (refine hK _ _ (cl_id ?_))); clear hK)); refine hK _ _ (cl_id ?_); clear hK)) | (refine w_exit rfl ?_; (try dsimp only [anorm, ablock, astay]); (try simp only [reduceIte, ↓reduceIte, Nat.reduceEqDiff]); ((repeat ((fail_if_success (refine hK _ _ (cl_id ?_))); clear hK)); refine hK _ _ (cl_id ?_); clear hK)) | (refine w_exit rfl ?_; (try dsimp only [anorm, ablock, astay]); (try simp only [reduceIte, ↓reduceIte, Nat.reduceEqDiff]); refine z_end0 ?_) | (refine jend_go [(8, [0, 1, 5]), (7, [0, 1, 5, 6]), (6, [4]), (5, [0, 1, 5, 6, 23]), (4, [0, 1, 5, 6, 7]), (3, [0, 1, 5]), (2, [4]), (1, [0, 1, 10]), (0, [0, 1])] ?_; simp only [tabAt_cons, sel_nil, sel_cons, put_at, ofl_cons, ofl_nil, T0_at, List.getElem?_cons_zero, List.getElem?_cons_succ, List.getElem?_nil, Option.getD_some, Option.getD_none, reduceIte, ↓reduceIte, Nat.reduceEqDiff]; refine jl_go ?_) | simp (disch := omega) only [go_sem, hB] | (refine jc_t ?_) | (refine jc_f ?_) | (refine z_ret (hm) ?_) | (refine And.intro (by (first | omega | (simp; done) | (simp; omega))) ?_) | (refine mc_b (fun hs => ?_) fun hs => ?_) | (refine mg_st (fun hs => ?_) fun hs => ?_) | (refine mg_sf (fun hs => ?_) fun hs => ?_) | (refine mall_s (fun hs => ?_) fun hs => ?_) | (refine malln_s (fun hs => ?_) fun hs => ?_) | (refine mpk_s (fun hs => ?_) fun hs => ?_) | ((repeat ((fail_if_success (refine hK _ _ (cl_id ?_))); clear hK)); refine hK _ _ (cl_id ?_); clear hK)))
  refine z_loop rfl (DuP H b c q p l tick) (fun s => l.length - s.i) (fun s => [(0, .ptr b 0), (1, .v (.int .i64 tick)), (5, .hs s.o 2 0 s.i)]) (fun s => s.H) ⟨H ++ [some (.row true 2 [])], m, p, Z, H.length, 0⟩ ⟨S.keep fun k hk => at_app' (S.lt hk) _, ⟨by simp, fun k hk _ => at_app' hk _, fun k h _ => h⟩, by simp; rfl, Nat.le_refl _, Nat.zero_le _, pm, by simp⟩ ?_ ?_
  · refine (cq_bare 2 5 rfl).trans (cq_s ?_)
    (simp (disch := omega) only [go_sem])
  rintro ⟨H1, m1, p1, Z1, o, i⟩ ⟨tz, fw, row, ho, hi, pm1, ti⟩ Ko hKo
  simp only at tz fw row ho hi pm1 ti ⊢
  have hs1 : (l.drop i).Pairwise lt2 := hs.sublist (List.drop_sublist ..)
  have tl : (l.take i).length = i := by rw [List.length_take]; omega
  have plen : l.length - i = p1.length := by have := pm1.length_eq; unfold kt at this; rwa [List.length_map, List.length_drop] at this
  have hno := not_own tz row
  by_cases h0 : 0 < p1.length
  · have T := tz.th.tm h0
    have hn := next_am T h0
    obtain ⟨r, hr⟩ := hp_head tz.hp hs1 pm1 h0
    obtain ⟨⟨key, tk⟩, hx⟩ : ∃ x, (at3 p1 0).2 = x := ⟨_, rfl⟩
    rw [hx] at hn hr
    simp only at hn hr
    by_cases c1 : tick < tk
    · obtain ⟨e1, e2⟩ := tw_of (f := fun d : Int × Int => decide (d.2 ≤ tick)) (l := l) (i := i) (fun d hd => decide_eq_true (ti d hd)) (fun x r' e => by
        rw [hr] at e
        cases e
        simp only [decide_eq_false_iff_not]
        omega)
      rw [e1]
      have fin := due_end tz fw ho hno e2 pm1
      clear hKo
      (repeat' (first | (have hs := Mk.out hs; (try simp only [decide_eq_true_eq, decide_eq_false_iff_not, Bool.not_eq_true, Bool.not_eq_false, Bool.not_true, Bool.not_false, Bool.not_eq_eq_eq_not, Bool.and_eq_true, Bool.or_eq_true, beq_iff_eq, bne_iff_ne, beq_eq_false_iff_ne, ne_eq, Classical.not_not, not_true_eq_false, not_false_eq_true, forall_const, Bool.false_eq_true, false_implies, eq_self] at hs); (try (exfalso; omega)); (try simp (disch := omega) only [go_sem, c1, hs])) | (refine z_seqr rfl ?_) | (refine w_seq rfl fun K hK => ?_) | (refine z_reg rfl ?_) | (refine z_cond rfl ?_) | (refine w_skip rfl ?_; ((repeat ((fail_if_success (refine hK _ _ (cl_id ?_))); clear hK)); refine hK _ _ (cl_id ?_); clear hK)) | (refine w_ret rfl ?_; (try dsimp only [anorm, ablock, astay]); refine z_end ?_) | (refine z_end0 ?_) | (refine w_block rfl ?_) | (refine w_scope rfl ?_) | (refine w_label rfl ?_; ((repeat ((fail_if_success (refine hK _ _ (cl_id ?_))); clear hK)); refine hK _ _ (cl_id ?_); clear hK)) | (refine w_exit rfl ?_; (try dsimp only [anorm, ablock, astay]); (try simp only [reduceIte, ↓reduceIte, Nat.reduceEqDiff]); ((repeat ((fail_if_success (refine hK _ _ (cl_id ?_))); clear hK)); refine hK _ _ (cl_id ?_); clear hK)) | (refine w_exit rfl ?_; (try dsimp only [anorm, ablock, astay]); (try simp only [reduceIte, ↓reduceIte, Nat.reduceEqDiff]); refine z_end0 ?_) | (refine jend_go [(8, [0, 1, 5]), (7, [0, 1, 5, 6]), (6, [4]), (5, [0, 1, 5, 6, 23]), (4, [0, 1, 5, 6, 7]), (3, [0, 1, 5]), (2, [4]), (1, [0, 1, 10]), (0, [0, 1])] ?_; simp only [tabAt_cons, sel_nil, sel_cons, put_at, ofl_cons, ofl_nil, T0_at, List.getElem?_cons_zero, List.getElem?_cons_succ, List.getElem?_nil, Option.getD_some, Option.getD_none, reduceIte, ↓reduceIte, Nat.reduceEqDiff]; refine jl_go ?_) | simp (disch := omega) only [go_sem, c1] | (refine jc_t ?_) | (refine jc_f ?_) | (refine z_ret (hn) ?_) | (refine And.intro (by (first | omega | (simp; done) | (simp; omega))) ?_) | (refine mc_b (fun hs => ?_) fun hs => ?_) | (refine mg_st (fun hs => ?_) fun hs => ?_) | (refine mg_sf (fun hs => ?_) fun hs => ?_) | (refine mall_s (fun hs => ?_) fun hs => ?_) | (refine malln_s (fun hs => ?_) fun hs => ?_) | (refine mpk_s (fun hs => ?_) fun hs => ?_) | ((repeat ((fail_if_success (refine hK _ _ (cl_id ?_))); clear hK)); refine hK _ _ (cl_id ?_); clear hK)))
      exact end_ice (at_app row _) (by simp [cels, hi]) ⟨rfl, fin _⟩
    · have hG := tz.keep (H' := H1 ++ [some (Blk.obj [.v (.int .i64 key), .v (.int .i64 tk)])]) fun k hk => at_app' (tz.lt hk) _
      have hd := drop2_am hG key (by omega)
      obtain ⟨G, eG⟩ : ∃ G, G = H1 ++ [some (Blk.obj [.v (.int .i64 key), .v (.int .i64 tk)])] := ⟨_, rfl⟩
      rw [← eG] at hd
      have eG2 := eG.symm
      have gl : G[H1.length]? = some (some (Blk.obj [.v (.int .i64 key), .v (.int .i64 tk)])) := by rw [eG, List.getElem?_append_right (Nat.le_refl _), Nat.sub_self]; rfl
      (repeat' (first | (have hs := Mk.out hs; (try simp only [decide_eq_true_eq, decide_eq_false_iff_not, Bool.not_eq_true, Bool.not_eq_false, Bool.not_true, Bool.not_false, Bool.not_eq_eq_eq_not, Bool.and_eq_true, Bool.or_eq_true, beq_iff_eq, bne_iff_ne, beq_eq_false_iff_ne, ne_eq, Classical.not_not, not_true_eq_false, not_false_eq_true, forall_const, Bool.false_eq_true, false_implies, eq_self] at hs); (try (exfalso; omega)); (try simp (disch := omega) only [go_sem, c1, eG2, gl, hs])) | (refine z_seqr rfl ?_) | (refine w_seq rfl fun K hK => ?_) | (refine z_reg rfl ?_) | (refine z_cond rfl ?_) | (refine w_skip rfl ?_; ((repeat ((fail_if_success (refine hK _ _ (cl_id ?_))); clear hK)); refine hK _ _ (cl_id ?_); clear hK)) | (refine w_ret rfl ?_; (try dsimp only [anorm, ablock, astay]); refine z_end ?_) | (refine z_end0 ?_) | (refine w_block rfl ?_) | (refine w_scope rfl ?_) | (refine w_label rfl ?_; ((repeat ((fail_if_success (refine hK _ _ (cl_id ?_))); clear hK)); refine hK _ _ (cl_id ?_); clear hK)) | (refine w_exit rfl ?_; (try dsimp only [anorm, ablock, astay]); (try simp only [reduceIte, ↓reduceIte, Nat.reduceEqDiff]); ((repeat ((fail_if_success (refine hK _ _ (cl_id ?_))); clear hK)); refine hK _ _ (cl_id ?_); clear hK)) | (refine w_exit rfl ?_; (try dsimp only [anorm, ablock, astay]); (try simp only [reduceIte, ↓reduceIte, Nat.reduceEqDiff]); refine z_end0 ?_) | (refine jend_go [(8, [0, 1, 5]), (7, [0, 1, 5, 6]), (6, [4]), (5, [0, 1, 5, 6, 23]), (4, [0, 1, 5, 6, 7]), (3, [0, 1, 5]), (2, [4]), (1, [0, 1, 10]), (0, [0, 1])] ?_; simp only [tabAt_cons, sel_nil, sel_cons, put_at, ofl_cons, ofl_nil, T0_at, List.getElem?_cons_zero, List.getElem?_cons_succ, List.getElem?_nil, Option.getD_some, Option.getD_none, reduceIte, ↓reduceIte, Nat.reduceEqDiff]; refine jl_go ?_) | simp (disch := omega) only [go_sem, c1, eG2, gl] | (refine jc_t ?_) | (refine jc_f ?_) | (refine z_ret (hn) ?_) | (refine And.intro (by (first | omega | (simp; done) | (simp; omega))) ?_) | (refine mc_b (fun hs => ?_) fun hs => ?_) | (refine mg_st (fun hs => ?_) fun hs => ?_) | (refine mg_sf (fun hs => ?_) fun hs => ?_) | (refine mall_s (fun hs => ?_) fun hs => ?_) | (refine malln_s (fun hs => ?_) fun hs => ?_) | (refine mpk_s (fun hs => ?_) fun hs => ?_) | ((repeat ((fail_if_success (refine hK _ _ (cl_id ?_))); clear hK)); refine hK _ _ (cl_id ?_); clear hK)))
      refine z_call hd ?_
      rintro _ H2 ⟨rfl, m2, p2, Z2, tz2, pm2, nk, fw2, hlen⟩
      have n1 : ¬ Ow b c q p1 H1.length := fun h => Nat.lt_irrefl _ (tz.lt h)
      have gd := (fw2.keep H1.length (by rw [eG]; simp) n1).trans gl
      have gr := (fw2.keep o (by have := (List.getElem?_eq_some_iff.1 row).1; rw [eG, List.length_append]; omega) hno).trans (show G[o]? = some (some (.row true 2 (cels (l.take i)))) by rw [eG]; exact at_app row _)
      have lG : G.length = H1.length + 1 := by rw [eG]; simp
      have pm3 := due_pm tz.ms.nd hr pm1 pm2
      have hr1 : l.drop (i + 1) = r := by rw [← List.drop_drop, hr]; rfl
      have ht1 : l.take (i + 1) = l.take i ++ [(key, tk)] := by
        have hil : i < l.length := by
          have := congrArg List.length hr
          rw [List.length_drop, List.length_cons] at this
          omega
        rw [List.take_succ, List.getElem?_eq_getElem hil]
        have e3 := List.drop_eq_getElem_cons hil
        rw [hr] at e3
        rw [← (List.cons.inj e3).1]
        rfl
      have hKo2 := fun T' H' (P' : DuP H b c q p l tick ⟨H', m2, p2, Z2, H2.length + 1, i + 1⟩) => hKo T' H' ⟨H', m2, p2, Z2, H2.length + 1, i + 1⟩ P' (by simp only; omega)
      simp only at hKo2
      clear hKo
      have gr2 := at_app gr
      obtain ⟨H3, eH3⟩ : ∃ H3, H3 = (H2 ++ [some (Blk.row true 2 [[.v (.int .i64 key), .v (.int .i64 tk)]])]).set o none := ⟨_, rfl⟩
      have eH3' := eH3.symm
      obtain ⟨acc, ha⟩ : ∃ acc, acc = l.take i := ⟨_, rfl⟩
      rw [← ha] at tl gr gr2 ht1
      have tk2 : acc.take i = acc := by rw [← tl, List.take_length]
      have il : i ≤ acc.length := by omega
      have lH3 : H3.length = H2.length + 1 := by rw [eH3]; simp
      (repeat' (first | (have hs := Mk.out hs; (try simp only [decide_eq_true_eq, decide_eq_false_iff_not, Bool.not_eq_true, Bool.not_eq_false, Bool.not_true, Bool.not_false, Bool.not_eq_eq_eq_not, Bool.and_eq_true, Bool.or_eq_true, beq_iff_eq, bne_iff_ne, beq_eq_false_iff_ne, ne_eq, Classical.not_not, not_true_eq_false, not_false_eq_true, forall_const, Bool.false_eq_true, false_implies, eq_self] at hs); (try (exfalso; omega)); (try simp (disch := omega) only [go_sem, gd, gr, gr2, eH3', tk2, il, tl, lH3, hs])) | (refine z_seqr rfl ?_) | (refine w_seq rfl fun K hK => ?_) | (refine z_reg rfl ?_) | (refine z_cond rfl ?_) | (refine w_skip rfl ?_; ((repeat ((fail_if_success (refine hK _ _ (cl_id ?_))); clear hK)); refine hK _ _ (cl_id ?_); clear hK)) | (refine w_ret rfl ?_; (try dsimp only [anorm, ablock, astay]); refine z_end ?_) | (refine z_end0 ?_) | (refine w_block rfl ?_) | (refine w_scope rfl ?_) | (refine w_label rfl ?_; ((repeat ((fail_if_success (refine hK _ _ (cl_id ?_))); clear hK)); refine hK _ _ (cl_id ?_); clear hK)) | (refine w_exit rfl ?_; (try dsimp only [anorm, ablock, astay]); (try simp only [reduceIte, ↓reduceIte, Nat.reduceEqDiff]); ((repeat ((fail_if_success (refine hK _ _ (cl_id ?_))); clear hK)); refine hK _ _ (cl_id ?_); clear hK)) | (refine w_exit rfl ?_; (try dsimp only [anorm, ablock, astay]); (try simp only [reduceIte, ↓reduceIte, Nat.reduceEqDiff]); refine z_end0 ?_) | (refine jend_go [(8, [0, 1, 5]), (7, [0, 1, 5, 6]), (6, [4]), (5, [0, 1, 5, 6, 23]), (4, [0, 1, 5, 6, 7]), (3, [0, 1, 5]), (2, [4]), (1, [0, 1, 10]), (0, [0, 1])] ?_; simp only [tabAt_cons, sel_nil, sel_cons, put_at, ofl_cons, ofl_nil, T0_at, List.getElem?_cons_zero, List.getElem?_cons_succ, List.getElem?_nil, Option.getD_some, Option.getD_none, reduceIte, ↓reduceIte, Nat.reduceEqDiff]; refine jl_go ?_) | simp (disch := omega) only [go_sem, gd, gr, gr2, eH3', tk2, il, tl, lH3] | (refine jc_t ?_) | (refine jc_f ?_) | (refine And.intro (by (first | omega | (simp; done) | (simp; omega))) ?_) | (refine mc_b (fun hs => ?_) fun hs => ?_) | (refine mg_st (fun hs => ?_) fun hs => ?_) | (refine mg_sf (fun hs => ?_) fun hs => ?_) | (refine mall_s (fun hs => ?_) fun hs => ?_) | (refine malln_s (fun hs => ?_) fun hs => ?_) | (refine mpk_s (fun hs => ?_) fun hs => ?_) | ((repeat ((fail_if_success (refine hK _ _ (cl_id ?_))); clear hK)); refine hK _ _ (cl_id ?_); clear hK)))
      have own1 : ∀ k, Ow b c q p2 k → k < H2.length := fun k hk => tz2.lt hk
      have hno2 := not_own tz2 gr
      have at3' : ∀ k, k < H2.length → k ≠ o → ∀ L : Heap, (H3 ++ L)[k]? = H2[k]? := fun k hk n L => by
        rw [List.getElem?_append_left (by omega), eH3]
        exact set_o hk n
      refine hKo2 _ _ ⟨tz2.keep fun k hk => at3' k (own1 k hk) (fun e => hno2 (e ▸ hk)) _, ⟨?_, fun k hk hn => ?_, fun k hk hl2 => ?_⟩, ?_, ?_, ?_, ?_, ?_⟩ (cq_s ?_)
      · simp only [List.length_append]
        have := fw.len
        omega
      · have := fw.len
        refine (at3' k (by omega) (by omega) _).trans ((fw2.keep k (by omega) fun e => hn (fw.own k e hk)).trans ?_)
        rw [eG]
        exact (at_app' (by omega) _).trans (fw.keep k hk hn)
      · have := fw.len
        simp only at hk
        exact fw.own k (fw2.own k hk (by omega)) hl2
      · simp only
        rw [List.getElem?_append_right (by omega), lH3, Nat.sub_self, ht1]
        rfl
      · simp only
        have := fw.len
        omega
      · simp only
        omega
      · simp only
        rw [hr1]
        exact pm3
      · simp only
        rw [ht1]
        intro d hd
        rcases List.mem_append.1 hd with hd | hd
        · exact ti d (by rw [← ha]; exact hd)
        · rw [List.mem_singleton] at hd
          subst hd
          simp only
          omega
      · (simp (disch := omega) only [go_sem])
  · obtain rfl : p1 = [] := List.length_eq_zero_iff.1 (by omega)
    have hn := next0_am tz.th
    have il : l.drop i = [] := List.drop_eq_nil_of_le (by have : ([] : List It).length = 0 := rfl; omega)
    obtain ⟨e1, e2⟩ := tw_of (f := fun d : Int × Int => decide (d.2 ≤ tick)) (l := l) (i := i) (fun d hd => decide_eq_true (ti d hd)) (fun x r' e => by rw [il] at e; cases e)
    rw [e1]
    have fin := due_end tz fw ho hno e2 pm1
    clear hKo
    (repeat' (first | (have hs := Mk.out hs; (try simp only [decide_eq_true_eq, decide_eq_false_iff_not, Bool.not_eq_true, Bool.not_eq_false, Bool.not_true, Bool.not_false, Bool.not_eq_eq_eq_not, Bool.and_eq_true, Bool.or_eq_true, beq_iff_eq, bne_iff_ne, beq_eq_false_iff_ne, ne_eq, Classical.not_not, not_true_eq_false, not_false_eq_true, forall_const, Bool.false_eq_true, false_implies, eq_self] at hs); (try (exfalso; omega)); (try simp (disch := omega) only [go_sem, hs])) | (refine z_seqr rfl ?_) | (refine w_seq rfl fun K hK => ?_) | (refine z_reg rfl ?_) | (refine z_cond rfl ?_) | (refine w_skip rfl ?_; ((repeat ((fail_if_success (refine hK _ _ (cl_id ?_))); clear hK)); refine hK _ _ (cl_id ?_); clear hK)) | (refine w_ret rfl ?_; (try dsimp only [anorm, ablock, astay]); refine z_end ?_) | (refine z_end0 ?_) | (refine w_block rfl ?_) | (refine w_scope rfl ?_) | (refine w_label rfl ?_; ((repeat ((fail_if_success (refine hK _ _ (cl_id ?_))); clear hK)); refine hK _ _ (cl_id ?_); clear hK)) | (refine w_exit rfl ?_; (try dsimp only [anorm, ablock, astay]); (try simp only [reduceIte, ↓reduceIte, Nat.reduceEqDiff]); ((repeat ((fail_if_success (refine hK _ _ (cl_id ?_))); clear hK)); refine hK _ _ (cl_id ?_); clear hK)) | (refine w_exit rfl ?_; (try dsimp only [anorm, ablock, astay]); (try simp only [reduceIte, ↓reduceIte, Nat.reduceEqDiff]); refine z_end0 ?_) | (refine jend_go [(8, [0, 1, 5]), (7, [0, 1, 5, 6]), (6, [4]), (5, [0, 1, 5, 6, 23]), (4, [0, 1, 5, 6, 7]), (3, [0, 1, 5]), (2, [4]), (1, [0, 1, 10]), (0, [0, 1])] ?_; simp only [tabAt_cons, sel_nil, sel_cons, put_at, ofl_cons, ofl_nil, T0_at, List.getElem?_cons_zero, List.getElem?_cons_succ, List.getElem?_nil, Option.getD_some, Option.getD_none, reduceIte, ↓reduceIte, Nat.reduceEqDiff]; refine jl_go ?_) | simp (disch := omega) only [go_sem] | (refine jc_t ?_) | (refine jc_f ?_) | (refine z_ret (hn) ?_) | (refine And.intro (by (first | omega | (simp; done) | (simp; omega))) ?_) | (refine mc_b (fun hs => ?_) fun hs => ?_) | (refine mg_st (fun hs => ?_) fun hs => ?_) | (refine mg_sf (fun hs => ?_) fun hs => ?_) | (refine mall_s (fun hs => ?_) fun hs => ?_) | (refine malln_s (fun hs => ?_) fun hs => ?_) | (refine mpk_s (fun hs => ?_) fun hs => ?_) | ((repeat ((fail_if_success (refine hK _ _ (cl_id ?_))); clear hK)); refine hK _ _ (cl_id ?_); clear hK)))
    exact end_ice (at_app row _) (by simp [cels, hi]) ⟨rfl, fin _⟩
end
end Go.Proofs.Ytmafdnbdaaedgaa
