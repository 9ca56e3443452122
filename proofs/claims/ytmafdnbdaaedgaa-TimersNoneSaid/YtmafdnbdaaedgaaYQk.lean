/- Timers: Set, by the machine. No condition. -/
import Derived.Test.YtmafdnbdaaedgaaYQj
import Derived.Test.YtmafdnbdaaedgaaYb1
import Derived.Test.YtmafdnbdaaedgaaYgs
set_option linter.unusedSectionVars false
set_option linter.unusedVariables false
set_option linter.unusedSimpArgs false
set_option linter.deprecated false
namespace Go.Proofs.Ytmafdnbdaaedgaa
open Go.RowKit Go.Cx Go.Am
theorem acalls_imp {E : Env} {f : FuncId} {al : List AV} {H : Heap} {R R' : AV → Heap → Prop} (h : ACalls E f al H R) (k : ∀ r H', R r H' → R' r H') : ACalls E f al H R' := by
  refine ⟨h.1, fun w M vs hG hv => (h.2 w M vs hG hv).mono ?_⟩
  rintro e w' ⟨r, H', v, M', e1, hR, g1, g2, g3⟩
  exact ⟨r, H', v, M', e1, k _ _ hR, g1, g2, g3⟩
set_option maxRecDepth 8000
set_option maxHeartbeats 2000000
attribute [local irreducible] ACalls jcall jsame jex jexg jexh jguard jconv jload jpart jstore jbin jslice jidxA jidx jfield jfieldA jbuild jbuildS jmake jappend jlen jpick jres jcnd jcopy jcap jborn jdraw jops jop jstr jstrc jlive jend jlenM jmmake jlook jmput jmdel jrange jnext jentry jlk jmp2 jmd2 jlm jrg jnx jny jen jeo jinvoke jmkI jtyA
attribute [local go_sem] reduceIte Nat.reduceEqDiff Nat.reduceAdd Nat.reduceMul Nat.reduceLT Nat.reduceLeDiff Nat.reduceSub Int.reduceLT Int.reduceLE Int.reduceToNat Int.reduceNeg Int.reduceAdd Int.reduceSub UInt8.reduceToNat Int.reduceEq reduceCtorEq Int.reducePow Int.reduceMul Nat.reducePow E0
attribute [local go_sem ↓] reduceIte
attribute [local go_sem high] chunks_bvs
attribute [local go_sem] jop_makeMap jop_lookup jop_mapUpdate jop_delete jop_range jop_next jop_entry jmmake_m jlook_m jlk_mI jmput_m jmdel_m jmd2_mB jlm_mB jrange_m jnext_m jnx_m jentry_m jen_m jeo_mS bmap_mI bmap_mSI mB_nil vI nbB_o nbB_r nbB_i bmap_o bmap_r bmap_i gfB_o gfB_r gfB_i jop_invoke jop_makeInterface jop_typeAssert jinvoke_m jmkI_m jtyA_m ifp_nb
attribute [local go_sem ←] List.map_take List.map_drop

/-- Keys and ticks. -/
def kt (p : List It) : List (Int × Int) := p.map (·.2)
theorem kt_keys (p : List It) : (kt p).map (·.1) = p.map (·.2.1) := by
  unfold kt
  rw [List.map_map]
  rfl
def Drop2 (H : Heap) (b c q : Nat) (p : List It) (key : Int) (H' : Heap) : Prop := ∃ m' p' Z', Tz H' b c q m' p' Z' ∧ (kt p').Perm ((kt p).filter fun a => a.1 ≠ key) ∧ key ∉ p'.map (·.2.1) ∧ Fw H b c q p H' q p' ∧ H'.length = H.length
def SetR (H : Heap) (b c q : Nat) (p : List It) (key tick : Int) (H' : Heap) : Prop := ∃ q' m' p' Z', Tz H' b c q' m' p' Z' ∧ (kt p').Perm ((key, tick) :: (kt p).filter fun a => a.1 ≠ key) ∧ Fw H b c q p H' q' p'
section
variable {H : Heap} {b c q : Nat} {m : List (Int × Nat)} {p : List It} {Z : List (List AV)}
theorem drop_2 {a : It} {H' : Heap} (S : Tz H b c q m p Z) (h : DropR H b c q p a H') : Drop2 H b c q p a.2.1 H' := by
  obtain ⟨m', p', Z', S', pp, hl, hk⟩ := h
  have nd := ((pp.map (·.2.1)).nodup_iff).1 S.ms.nd
  rw [List.map_cons, List.nodup_cons] at nd
  refine ⟨m', p', Z', S', ?_, nd.1, ⟨by omega, fun k hk' hn => hk k hn, fun k hk' _ => ?_⟩, hl⟩
  · have h1 : (kt p).Perm (a.2 :: kt p') := pp.map (fun x : It => x.2)
    refine .trans ?_ (h1.filter _).symm
    rw [List.filter_cons_of_neg (by simp), List.filter_eq_self.2]
    intro x hx
    apply decide_eq_true
    intro e
    apply nd.1
    rw [← kt_keys, ← e]
    exact List.mem_map.2 ⟨x, hx, rfl⟩
  · rcases hk' with h | h | h | h
    · exact .inl h
    · exact .inr (.inl h)
    · exact .inr (.inr (.inl h))
    · exact .inr (.inr (.inr (((pp.map _).mem_iff).2 (List.mem_cons_of_mem _ h))))
theorem drop_20 {key : Int} (S : Tz H b c q m p Z) (hk : key ∉ p.map (·.2.1)) : Drop2 H b c q p key H := by
  refine ⟨m, p, Z, S, ?_, hk, Fw.rfl', rfl⟩
  rw [List.filter_eq_self.2]
  intro x hx
  apply decide_eq_true
  intro e
  apply hk
  rw [← kt_keys, ← e]
  exact List.mem_map.2 ⟨x, hx, rfl⟩
theorem drop2_am (S : Tz H b c q m p Z) (key : Int) (hl : p.length ≤ 1000000) : ACalls E0 20 [.ptr b 0, .v (.int .i64 key)] H fun r H' => r = .v (.bool (decide (key ∈ p.map (·.2.1)))) ∧ Drop2 H b c q p key H' := by
  by_cases hk : key ∈ p.map (·.2.1)
  · rw [decide_eq_true hk]
    obtain ⟨a, ha, rfl⟩ := List.mem_map.1 hk
    obtain ⟨i, hi, rfl⟩ := List.getElem_of_mem ha
    have h := drop_am S hi hl
    rw [at3_eq hi] at h
    exact acalls_imp h fun r H' ⟨h1, h2⟩ => ⟨h1, drop_2 S h2⟩
  · rw [decide_eq_false hk]
    refine acalls_imp (drop0_am S hk) ?_
    rintro r H' ⟨h1, rfl⟩
    exact ⟨h1, drop_20 S hk⟩
theorem stop2_am (S : Tz H b c q m p Z) (key : Int) (hl : p.length ≤ 1000000) : ACalls E0 13 [.ptr b 0, .v (.int .i64 key)] H fun r H' => r = .v (.bool (decide (key ∈ p.map (·.2.1)))) ∧ Drop2 H b c q p key H' := by
  by_cases hk : key ∈ p.map (·.2.1)
  · rw [decide_eq_true hk]
    obtain ⟨a, ha, rfl⟩ := List.mem_map.1 hk
    obtain ⟨i, hi, rfl⟩ := List.getElem_of_mem ha
    have h := stop_am S hi hl
    rw [at3_eq hi] at h
    exact acalls_imp h fun r H' ⟨h1, h2⟩ => ⟨h1, drop_2 S h2⟩
  · rw [decide_eq_false hk]
    refine acalls_imp (stop0_am S hk) ?_
    rintro r H' ⟨h1, rfl⟩
    exact ⟨h1, drop_20 S hk⟩
/-- The new timer lies in memory, and the map names it. -/
def inH (H : Heap) (c : Nat) (m : List (Int × Nat)) (key tick : Int) : Heap := (H ++ [itO (H.length, key, tick) 0]).set c (some (mB pv (mput m key H.length)))
theorem inH_at {key tick : Int} {k : Nat} (hk : k < H.length) (hc : k ≠ c) : (inH H c m key tick)[k]? = H[k]? := by
  unfold inH
  rw [List.getElem?_set_ne (Ne.symm hc), List.getElem?_append_left hk]
theorem inH_len {key tick : Int} : (inH H c m key tick).length = H.length + 1 := by simp [inH]
theorem in_th {key tick : Int} (S : Tz H b c q m p Z) : Th (inH H c m key tick) b c q p Z := by
  refine S.th.keep fun k hk => inH_at ?_ ?_
  · have := S.th.lt
    rcases hk with rfl | rfl | hk
    · exact this.1
    · exact this.2.1
    · exact this.2.2 k hk
  · have := S.nc
    rintro rfl
    rcases hk with hk | hk | hk
    · exact this.1 hk
    · exact this.2.1 hk
    · exact this.2.2 hk
theorem in_x {key tick : Int} (S : Tz H b c q m p Z) : (inH H c m key tick)[H.length]? = some (itO (H.length, key, tick) 0) := by
  have := S.lt (k := c) (.inr (.inl rfl))
  unfold inH
  rw [List.getElem?_set_ne (by omega), List.getElem?_append_right (Nat.le_refl _), Nat.sub_self]
  rfl
theorem in_c {key tick : Int} (S : Tz H b c q m p Z) : (inH H c m key tick)[c]? = some (some (mB pv (mput m key H.length))) := by
  have := S.lt (k := c) (.inr (.inl rfl))
  unfold inH
  rw [List.getElem?_set, if_pos rfl, if_pos (by simp; omega)]
theorem in_nx (S : Tz H b c q m p Z) : H.length ∉ p.map (·.1) := fun h => Nat.lt_irrefl _ (S.th.lt.2.2 _ h)
theorem set_r {key tick : Int} {H1 H2 : Heap} (S : Tz H b c q m p Z) {m1 : List (Int × Nat)} {p1 : List It} {Z1 : List (List AV)} (S1 : Tz H1 b c q m1 p1 Z1) (pp : (kt p1).Perm ((kt p).filter fun a => a.1 ≠ key)) (hk : key ∉ p1.map (·.2.1)) (F : Fw H b c q p H1 q p1) (R : PushR (inH H1 c m1 key tick) b c q p1 (H1.length, key, tick) H2) : SetR H b c q p key tick H2 := by
  obtain ⟨q', p', T', pp', hp', l1, l2, keep⟩ := R
  rw [inH_len] at l1 l2 keep
  have lc := S1.lt (k := c) (.inr (.inl rfl))
  have nc := S1.nc
  refine ⟨q', _, p', [], ⟨.inl T', hp', ?_, S1.ms.put (a := (H1.length, key, tick)) hk pp'⟩, ?_, F.trans ⟨by omega, fun k k1 k2 => ?_, fun k k1 k2 => ?_⟩⟩
  · rw [keep c (by omega) nc.1 nc.2.1 (by simp only; omega) nc.2.2]
    exact in_c S1
  · refine (pp'.map (·.2)).trans ?_
    exact pp.cons _
  · have n1 : k ≠ b ∧ k ≠ c ∧ k ≠ q ∧ k ∉ p1.map (·.1) := by
      unfold Ow at k2
      simpa only [not_or] using k2
    rw [keep k (by omega) n1.1 n1.2.2.1 (by simp only; omega) n1.2.2.2, inH_at k1 n1.2.1]
  · rcases k1 with h | h | h | h
    · exact .inl h
    · exact .inr (.inl h)
    · omega
    · have := ((pp'.map (·.1)).mem_iff).1 h
      rw [List.map_cons] at this
      rcases List.mem_cons.1 this with h | h
      · simp only at h
        omega
      · exact .inr (.inr (.inr h))
theorem kt_len {p1 : List It} {key : Int} (pp : (kt p1).Perm ((kt p).filter fun a => a.1 ≠ key)) : p1.length ≤ p.length := by
  have h1 := pp.length_eq
  have h2 := List.length_filter_le (fun a : Int × Int => decide (a.1 ≠ key)) (kt p)
  unfold kt at h1 h2
  rw [List.length_map] at h1 h2
  omega
theorem set_am (S : Tz H b c q m p Z) {key tick : Int} (k0 : 0 ≤ key) (k1 : key ≤ 1099511627776) (t0 : 1 ≤ tick) (t1 : tick ≤ 1099511627776) (hl : p.length ≤ 1000000) : ACalls E0 8 [.ptr b 0, .v (.int .i64 key), .v (.int .i64 tick)] H fun r H' => r = .v (.int .i64 0) ∧ SetR H b c q p key tick H' := by
  obtain ⟨rv, hB⟩ := S.th.ob
  have hm := made_am hB
  have hd := drop2_am S key hl
  have c1 : ¬ key < 0 := by omega
  have c2 : ¬ 1099511627776 < key := by omega
  have c3 : ¬ tick < 1 := by omega
  have c4 : ¬ 1099511627776 < tick := by omega
  refine calls_q (calls_of Try.func8 rfl (by kernel_rfl) (by kernel_rfl) (by rw [Try.ntmps8]; exact Nat.le_of_ble_eq_true rfl) (fun hH0 hA0 => ?_)); rw [Try.results8]
  (repeat' (first | (have hs := Mk.out hs; (try simp only [decide_eq_true_eq, decide_eq_false_iff_not, Bool.not_eq_true, Bool.not_eq_false, Bool.not_true, Bool.not_false, Bool.not_eq_eq_eq_not, Bool.and_eq_true, Bool.or_eq_true, beq_iff_eq, bne_iff_ne, beq_eq_false_iff_ne, ne_eq, Classical.not_not, not_true_eq_false, not_false_eq_true, forall_const, Bool.false_eq_true, false_implies, eq_self] at hs); (try (exfalso; omega)); (try simp (disch := omega) only [go_sem, hB, c1, c2, c3, c4, hs])) | (refine z_seqr rfl ?_) | (refine w_seq rfl fun K hK => ?_) | (refine z_reg rfl ?_) | (refine z_cond rfl ?_) | (refine w_skip rfl ?_; ((repeat ((fail_if_success (refine hK _ _ (cl_id ?_))); clear hK)); refine hK _ _ (cl_id ?_); clear hK)) | (refine w_ret rfl ?_; (try dsimp only [anorm, ablock, astay]); refine z_end ?_) | (refine z_end0 ?_) | (refine w_block rfl ?_) | (refine w_scope rfl ?_) | (refine w_label rfl ?_; ((repeat ((fail_if_success (refine hK _ _ (cl_id ?_))); clear hK)); refine hK _ _ (cl_id ?_); clear hK)) | (refine w_exit rfl ?_; (try dsimp only [anorm, ablock, astay]); (try simp only [reduceIte, ↓reduceIte, Nat.reduceEqDiff]); ((repeat ((fail_if_success (refine hK _ _ (cl_id ?_))); clear hK)); refine hK _ _ (cl_id ?_); clear hK)) | (refine w_exit rfl ?_; (try dsimp only [anorm, ablock, astay]); (try simp only [reduceIte, ↓reduceIte, Nat.reduceEqDiff]); refine z_end0 ?_) | (refine jend_go [(9, [6]), (8, []), (7, [0, 7]), (6, [0, 1, 7]), (5, [0, 1, 2]), (2, [6]), (4, [6]), (3, [0, 1, 2, 12]), (1, [0, 1, 2, 8]), (0, [0, 1, 2])] ?_; simp only [tabAt_cons, sel_nil, sel_cons, put_at, ofl_cons, ofl_nil, T0_at, List.getElem?_cons_zero, List.getElem?_cons_succ, List.getElem?_nil, Option.getD_some, Option.getD_none, reduceIte, ↓reduceIte, Nat.reduceEqDiff]; refine jl_go ?_) | simp (disch := omega) only [go_sem, hB, c1, c2, c3, c4] | (refine jc_t ?_) | (refine jc_f ?_) | (refine z_ret (hm) ?_) | (refine And.intro (by (first | omega | (simp; done) | (simp; omega))) ?_) | (refine mc_b (fun hs => ?_) fun hs => ?_) | (refine mg_st (fun hs => ?_) fun hs => ?_) | (refine mg_sf (fun hs => ?_) fun hs => ?_) | (refine mall_s (fun hs => ?_) fun hs => ?_) | (refine malln_s (fun hs => ?_) fun hs => ?_) | (refine mpk_s (fun hs => ?_) fun hs => ?_) | ((repeat ((fail_if_success (refine hK _ _ (cl_id ?_))); clear hK)); refine hK _ _ (cl_id ?_); clear hK)))
  refine z_call hd ?_
  rintro _ H1 ⟨rfl, m1, p1, Z1, S1, pp, hk, F, hlen⟩
  obtain ⟨rv1, hB1⟩ := S1.th.ob
  have hM1 := S1.mp
  have hp := hpush_am (a := (H1.length, key, tick)) (in_th (key := key) (tick := tick) S1) S1.hp (in_x S1) (in_nx S1) (by have := kt_len pp; omega)
  have fin := fun H2 => set_r (H2 := H2) (tick := tick) S S1 pp hk F
  have hB2 := (inH_at (m := m1) (key := key) (tick := tick) (S1.lt (.inl rfl)) (Ne.symm S1.nc.1)).trans hB1
  have eI : (H1 ++ [some (Blk.obj [.v (.int .i64 key), .v (.int .i64 tick), .v (.int .i64 0)])]).set c (some (mB pv (mput m1 key H1.length))) = inH H1 c m1 key tick := rfl
  have hB1 := at_app hB1 [some (Blk.obj [.v (.int .i64 key), .v (.int .i64 tick), .v (.int .i64 0)])]
  have hM1 := at_app hM1 [some (Blk.obj [.v (.int .i64 key), .v (.int .i64 tick), .v (.int .i64 0)])]
  generalize inH H1 c m1 key tick = H2 at *
  (repeat' (first | (have hs := Mk.out hs; (try simp only [decide_eq_true_eq, decide_eq_false_iff_not, Bool.not_eq_true, Bool.not_eq_false, Bool.not_true, Bool.not_false, Bool.not_eq_eq_eq_not, Bool.and_eq_true, Bool.or_eq_true, beq_iff_eq, bne_iff_ne, beq_eq_false_iff_ne, ne_eq, Classical.not_not, not_true_eq_false, not_false_eq_true, forall_const, Bool.false_eq_true, false_implies, eq_self] at hs); (try (exfalso; omega)); (try simp (disch := omega) only [go_sem, hB1, hM1, jmp2_mP, eI, hB2, hs])) | (refine z_seqr rfl ?_) | (refine w_seq rfl fun K hK => ?_) | (refine z_reg rfl ?_) | (refine z_cond rfl ?_) | (refine w_skip rfl ?_; ((repeat ((fail_if_success (refine hK _ _ (cl_id ?_))); clear hK)); refine hK _ _ (cl_id ?_); clear hK)) | (refine w_ret rfl ?_; (try dsimp only [anorm, ablock, astay]); refine z_end ?_) | (refine z_end0 ?_) | (refine w_block rfl ?_) | (refine w_scope rfl ?_) | (refine w_label rfl ?_; ((repeat ((fail_if_success (refine hK _ _ (cl_id ?_))); clear hK)); refine hK _ _ (cl_id ?_); clear hK)) | (refine w_exit rfl ?_; (try dsimp only [anorm, ablock, astay]); (try simp only [reduceIte, ↓reduceIte, Nat.reduceEqDiff]); ((repeat ((fail_if_success (refine hK _ _ (cl_id ?_))); clear hK)); refine hK _ _ (cl_id ?_); clear hK)) | (refine w_exit rfl ?_; (try dsimp only [anorm, ablock, astay]); (try simp only [reduceIte, ↓reduceIte, Nat.reduceEqDiff]); refine z_end0 ?_) | (refine jend_go [(9, [6]), (8, []), (7, [0, 7]), (6, [0, 1, 7]), (5, [0, 1, 2]), (2, [6]), (4, [6]), (3, [0, 1, 2, 12]), (1, [0, 1, 2, 8]), (0, [0, 1, 2])] ?_; simp only [tabAt_cons, sel_nil, sel_cons, put_at, ofl_cons, ofl_nil, T0_at, List.getElem?_cons_zero, List.getElem?_cons_succ, List.getElem?_nil, Option.getD_some, Option.getD_none, reduceIte, ↓reduceIte, Nat.reduceEqDiff]; refine jl_go ?_) | simp (disch := omega) only [go_sem, hB1, hM1, jmp2_mP, eI, hB2] | (refine jc_t ?_) | (refine jc_f ?_) | (refine And.intro (by (first | omega | (simp; done) | (simp; omega))) ?_) | (refine mc_b (fun hs => ?_) fun hs => ?_) | (refine mg_st (fun hs => ?_) fun hs => ?_) | (refine mg_sf (fun hs => ?_) fun hs => ?_) | (refine mall_s (fun hs => ?_) fun hs => ?_) | (refine malln_s (fun hs => ?_) fun hs => ?_) | (refine mpk_s (fun hs => ?_) fun hs => ?_) | ((repeat ((fail_if_success (refine hK _ _ (cl_id ?_))); clear hK)); refine hK _ _ (cl_id ?_); clear hK)))
  refine z_call hp ?_
  rintro _ H3 ⟨rfl, R⟩
  have fn := fin H3 R
  clear fin
  (repeat' (first | (have hs := Mk.out hs; (try simp only [decide_eq_true_eq, decide_eq_false_iff_not, Bool.not_eq_true, Bool.not_eq_false, Bool.not_true, Bool.not_false, Bool.not_eq_eq_eq_not, Bool.and_eq_true, Bool.or_eq_true, beq_iff_eq, bne_iff_ne, beq_eq_false_iff_ne, ne_eq, Classical.not_not, not_true_eq_false, not_false_eq_true, forall_const, Bool.false_eq_true, false_implies, eq_self] at hs); (try (exfalso; omega)); (try simp (disch := omega) only [go_sem, hs])) | (refine z_seqr rfl ?_) | (refine w_seq rfl fun K hK => ?_) | (refine z_reg rfl ?_) | (refine z_cond rfl ?_) | (refine w_skip rfl ?_; ((repeat ((fail_if_success (refine hK _ _ (cl_id ?_))); clear hK)); refine hK _ _ (cl_id ?_); clear hK)) | (refine w_ret rfl ?_; (try dsimp only [anorm, ablock, astay]); refine z_end ?_) | (refine z_end0 ?_) | (refine w_block rfl ?_) | (refine w_scope rfl ?_) | (refine w_label rfl ?_; ((repeat ((fail_if_success (refine hK _ _ (cl_id ?_))); clear hK)); refine hK _ _ (cl_id ?_); clear hK)) | (refine w_exit rfl ?_; (try dsimp only [anorm, ablock, astay]); (try simp only [reduceIte, ↓reduceIte, Nat.reduceEqDiff]); ((repeat ((fail_if_success (refine hK _ _ (cl_id ?_))); clear hK)); refine hK _ _ (cl_id ?_); clear hK)) | (refine w_exit rfl ?_; (try dsimp only [anorm, ablock, astay]); (try simp only [reduceIte, ↓reduceIte, Nat.reduceEqDiff]); refine z_end0 ?_) | (refine jend_go [(9, [6]), (8, []), (7, [0, 7]), (6, [0, 1, 7]), (5, [0, 1, 2]), (2, [6]), (4, [6]), (3, [0, 1, 2, 12]), (1, [0, 1, 2, 8]), (0, [0, 1, 2])] ?_; simp only [tabAt_cons, sel_nil, sel_cons, put_at, ofl_cons, ofl_nil, T0_at, List.getElem?_cons_zero, List.getElem?_cons_succ, List.getElem?_nil, Option.getD_some, Option.getD_none, reduceIte, ↓reduceIte, Nat.reduceEqDiff]; refine jl_go ?_) | simp (disch := omega) only [go_sem] | (refine jc_t ?_) | (refine jc_f ?_) | (refine And.intro (by (first | omega | (simp; done) | (simp; omega))) ?_) | (refine mc_b (fun hs => ?_) fun hs => ?_) | (refine mg_st (fun hs => ?_) fun hs => ?_) | (refine mg_sf (fun hs => ?_) fun hs => ?_) | (refine mall_s (fun hs => ?_) fun hs => ?_) | (refine malln_s (fun hs => ?_) fun hs => ?_) | (refine mpk_s (fun hs => ?_) fun hs => ?_) | ((repeat ((fail_if_success (refine hK _ _ (cl_id ?_))); clear hK)); refine hK _ _ (cl_id ?_); clear hK)))
  exact cl_id ⟨rfl, fn⟩
theorem set0_am (S : Tz H b c q m p Z) {key tick : Int} (hn : key < 0 ∨ 1099511627776 < key ∨ tick < 1 ∨ 1099511627776 < tick) : ACalls E0 8 [.ptr b 0, .v (.int .i64 key), .v (.int .i64 tick)] H fun r H' => r = .v (.int .i64 130) ∧ H' = H := by
  obtain ⟨rv, hB⟩ := S.th.ob
  have hm := made_am hB
  by_cases c1 : key < 0
  · refine calls_q (calls_of Try.func8 rfl (by kernel_rfl) (by kernel_rfl) (by rw [Try.ntmps8]; exact Nat.le_of_ble_eq_true rfl) (fun hH0 hA0 => ?_)); rw [Try.results8]
    (repeat' (first | (have hs := Mk.out hs; (try simp only [decide_eq_true_eq, decide_eq_false_iff_not, Bool.not_eq_true, Bool.not_eq_false, Bool.not_true, Bool.not_false, Bool.not_eq_eq_eq_not, Bool.and_eq_true, Bool.or_eq_true, beq_iff_eq, bne_iff_ne, beq_eq_false_iff_ne, ne_eq, Classical.not_not, not_true_eq_false, not_false_eq_true, forall_const, Bool.false_eq_true, false_implies, eq_self] at hs); (try (exfalso; omega)); (try simp (disch := omega) only [go_sem, hB, c1, hs])) | (refine z_seqr rfl ?_) | (refine w_seq rfl fun K hK => ?_) | (refine z_reg rfl ?_) | (refine z_cond rfl ?_) | (refine w_skip rfl ?_; ((repeat ((fail_if_success (refine hK _ _ (cl_id ?_))); clear hK)); refine hK _ _ (cl_id ?_); clear hK)) | (refine w_ret rfl ?_; (try dsimp only [anorm, ablock, astay]); refine z_end ?_) | (refine z_end0 ?_) | (refine w_block rfl ?_) | (refine w_scope rfl ?_) | (refine w_label rfl ?_; ((repeat ((fail_if_success (refine hK _ _ (cl_id ?_))); clear hK)); refine hK _ _ (cl_id ?_); clear hK)) | (refine w_exit rfl ?_; (try dsimp only [anorm, ablock, astay]); (try simp only [reduceIte, ↓reduceIte, Nat.reduceEqDiff]); ((repeat ((fail_if_success (refine hK _ _ (cl_id ?_))); clear hK)); refine hK _ _ (cl_id ?_); clear hK)) | (refine w_exit rfl ?_; (try dsimp only [anorm, ablock, astay]); (try simp only [reduceIte, ↓reduceIte, Nat.reduceEqDiff]); refine z_end0 ?_) | (refine jend_go [(9, [6]), (8, []), (7, [0, 7]), (6, [0, 1, 7]), (5, [0, 1, 2]), (2, [6]), (4, [6]), (3, [0, 1, 2, 12]), (1, [0, 1, 2, 8]), (0, [0, 1, 2])] ?_; simp only [tabAt_cons, sel_nil, sel_cons, put_at, ofl_cons, ofl_nil, T0_at, List.getElem?_cons_zero, List.getElem?_cons_succ, List.getElem?_nil, Option.getD_some, Option.getD_none, reduceIte, ↓reduceIte, Nat.reduceEqDiff]; refine jl_go ?_) | simp (disch := omega) only [go_sem, hB, c1] | (refine jc_t ?_) | (refine jc_f ?_) | (refine z_ret (hm) ?_) | (refine And.intro (by (first | omega | (simp; done) | (simp; omega))) ?_) | (refine mc_b (fun hs => ?_) fun hs => ?_) | (refine mg_st (fun hs => ?_) fun hs => ?_) | (refine mg_sf (fun hs => ?_) fun hs => ?_) | (refine mall_s (fun hs => ?_) fun hs => ?_) | (refine malln_s (fun hs => ?_) fun hs => ?_) | (refine mpk_s (fun hs => ?_) fun hs => ?_) | ((repeat ((fail_if_success (refine hK _ _ (cl_id ?_))); clear hK)); refine hK _ _ (cl_id ?_); clear hK)))
    exact cl_id ⟨rfl, rfl⟩
  by_cases c2 : 1099511627776 < key
  · refine calls_q (calls_of Try.func8 rfl (by kernel_rfl) (by kernel_rfl) (by rw [Try.ntmps8]; exact Nat.le_of_ble_eq_true rfl) (fun hH0 hA0 => ?_)); rw [Try.results8]
    (repeat' (first | (have hs := Mk.out hs; (try simp only [decide_eq_true_eq, decide_eq_false_iff_not, Bool.not_eq_true, Bool.not_eq_false, Bool.not_true, Bool.not_false, Bool.not_eq_eq_eq_not, Bool.and_eq_true, Bool.or_eq_true, beq_iff_eq, bne_iff_ne, beq_eq_false_iff_ne, ne_eq, Classical.not_not, not_true_eq_false, not_false_eq_true, forall_const, Bool.false_eq_true, false_implies, eq_self] at hs); (try (exfalso; omega)); (try simp (disch := omega) only [go_sem, hB, c1, c2, hs])) | (refine z_seqr rfl ?_) | (refine w_seq rfl fun K hK => ?_) | (refine z_reg rfl ?_) | (refine z_cond rfl ?_) | (refine w_skip rfl ?_; ((repeat ((fail_if_success (refine hK _ _ (cl_id ?_))); clear hK)); refine hK _ _ (cl_id ?_); clear hK)) | (refine w_ret rfl ?_; (try dsimp only [anorm, ablock, astay]); refine z_end ?_) | (refine z_end0 ?_) | (refine w_block rfl ?_) | (refine w_scope rfl ?_) | (refine w_label rfl ?_; ((repeat ((fail_if_success (refine hK _ _ (cl_id ?_))); clear hK)); refine hK _ _ (cl_id ?_); clear hK)) | (refine w_exit rfl ?_; (try dsimp only [anorm, ablock, astay]); (try simp only [reduceIte, ↓reduceIte, Nat.reduceEqDiff]); ((repeat ((fail_if_success (refine hK _ _ (cl_id ?_))); clear hK)); refine hK _ _ (cl_id ?_); clear hK)) | (refine w_exit rfl ?_; (try dsimp only [anorm, ablock, astay]); (try simp only [reduceIte, ↓reduceIte, Nat.reduceEqDiff]); refine z_end0 ?_) | (refine jend_go [(9, [6]), (8, []), (7, [0, 7]), (6, [0, 1, 7]), (5, [0, 1, 2]), (2, [6]), (4, [6]), (3, [0, 1, 2, 12]), (1, [0, 1, 2, 8]), (0, [0, 1, 2])] ?_; simp only [tabAt_cons, sel_nil, sel_cons, put_at, ofl_cons, ofl_nil, T0_at, List.getElem?_cons_zero, List.getElem?_cons_succ, List.getElem?_nil, Option.getD_some, Option.getD_none, reduceIte, ↓reduceIte, Nat.reduceEqDiff]; refine jl_go ?_) | simp (disch := omega) only [go_sem, hB, c1, c2] | (refine jc_t ?_) | (refine jc_f ?_) | (refine z_ret (hm) ?_) | (refine And.intro (by (first | omega | (simp; done) | (simp; omega))) ?_) | (refine mc_b (fun hs => ?_) fun hs => ?_) | (refine mg_st (fun hs => ?_) fun hs => ?_) | (refine mg_sf (fun hs => ?_) fun hs => ?_) | (refine mall_s (fun hs => ?_) fun hs => ?_) | (refine malln_s (fun hs => ?_) fun hs => ?_) | (refine mpk_s (fun hs => ?_) fun hs => ?_) | ((repeat ((fail_if_success (refine hK _ _ (cl_id ?_))); clear hK)); refine hK _ _ (cl_id ?_); clear hK)))
    exact cl_id ⟨rfl, rfl⟩
  by_cases c3 : tick < 1
  · refine calls_q (calls_of Try.func8 rfl (by kernel_rfl) (by kernel_rfl) (by rw [Try.ntmps8]; exact Nat.le_of_ble_eq_true rfl) (fun hH0 hA0 => ?_)); rw [Try.results8]
    (repeat' (first | (have hs := Mk.out hs; (try simp only [decide_eq_true_eq, decide_eq_false_iff_not, Bool.not_eq_true, Bool.not_eq_false, Bool.not_true, Bool.not_false, Bool.not_eq_eq_eq_not, Bool.and_eq_true, Bool.or_eq_true, beq_iff_eq, bne_iff_ne, beq_eq_false_iff_ne, ne_eq, Classical.not_not, not_true_eq_false, not_false_eq_true, forall_const, Bool.false_eq_true, false_implies, eq_self] at hs); (try (exfalso; omega)); (try simp (disch := omega) only [go_sem, hB, c1, c2, c3, hs])) | (refine z_seqr rfl ?_) | (refine w_seq rfl fun K hK => ?_) | (refine z_reg rfl ?_) | (refine z_cond rfl ?_) | (refine w_skip rfl ?_; ((repeat ((fail_if_success (refine hK _ _ (cl_id ?_))); clear hK)); refine hK _ _ (cl_id ?_); clear hK)) | (refine w_ret rfl ?_; (try dsimp only [anorm, ablock, astay]); refine z_end ?_) | (refine z_end0 ?_) | (refine w_block rfl ?_) | (refine w_scope rfl ?_) | (refine w_label rfl ?_; ((repeat ((fail_if_success (refine hK _ _ (cl_id ?_))); clear hK)); refine hK _ _ (cl_id ?_); clear hK)) | (refine w_exit rfl ?_; (try dsimp only [anorm, ablock, astay]); (try simp only [reduceIte, ↓reduceIte, Nat.reduceEqDiff]); ((repeat ((fail_if_success (refine hK _ _ (cl_id ?_))); clear hK)); refine hK _ _ (cl_id ?_); clear hK)) | (refine w_exit rfl ?_; (try dsimp only [anorm, ablock, astay]); (try simp only [reduceIte, ↓reduceIte, Nat.reduceEqDiff]); refine z_end0 ?_) | (refine jend_go [(9, [6]), (8, []), (7, [0, 7]), (6, [0, 1, 7]), (5, [0, 1, 2]), (2, [6]), (4, [6]), (3, [0, 1, 2, 12]), (1, [0, 1, 2, 8]), (0, [0, 1, 2])] ?_; simp only [tabAt_cons, sel_nil, sel_cons, put_at, ofl_cons, ofl_nil, T0_at, List.getElem?_cons_zero, List.getElem?_cons_succ, List.getElem?_nil, Option.getD_some, Option.getD_none, reduceIte, ↓reduceIte, Nat.reduceEqDiff]; refine jl_go ?_) | simp (disch := omega) only [go_sem, hB, c1, c2, c3] | (refine jc_t ?_) | (refine jc_f ?_) | (refine z_ret (hm) ?_) | (refine And.intro (by (first | omega | (simp; done) | (simp; omega))) ?_) | (refine mc_b (fun hs => ?_) fun hs => ?_) | (refine mg_st (fun hs => ?_) fun hs => ?_) | (refine mg_sf (fun hs => ?_) fun hs => ?_) | (refine mall_s (fun hs => ?_) fun hs => ?_) | (refine malln_s (fun hs => ?_) fun hs => ?_) | (refine mpk_s (fun hs => ?_) fun hs => ?_) | ((repeat ((fail_if_success (refine hK _ _ (cl_id ?_))); clear hK)); refine hK _ _ (cl_id ?_); clear hK)))
    exact cl_id ⟨rfl, rfl⟩
  have c4 : 1099511627776 < tick := by omega
  refine calls_q (calls_of Try.func8 rfl (by kernel_rfl) (by kernel_rfl) (by rw [Try.ntmps8]; exact Nat.le_of_ble_eq_true rfl) (fun hH0 hA0 => ?_)); rw [Try.results8]
  (repeat' (first | (have hs := Mk.out hs; (try simp only [decide_eq_true_eq, decide_eq_false_iff_not, Bool.not_eq_true, Bool.not_eq_false, Bool.not_true, Bool.not_false, Bool.not_eq_eq_eq_not, Bool.and_eq_true, Bool.or_eq_true, beq_iff_eq, bne_iff_ne, beq_eq_false_iff_ne, ne_eq, Classical.not_not, not_true_eq_false, not_false_eq_true, forall_const, Bool.false_eq_true, false_implies, eq_self] at hs); (try (exfalso; omega)); (try simp (disch := omega) only [go_sem, hB, c1, c2, c3, c4, hs])) | (refine z_seqr rfl ?_) | (refine w_seq rfl fun K hK => ?_) | (refine z_reg rfl ?_) | (refine z_cond rfl ?_) | (refine w_skip rfl ?_; ((repeat ((fail_if_success (refine hK _ _ (cl_id ?_))); clear hK)); refine hK _ _ (cl_id ?_); clear hK)) | (refine w_ret rfl ?_; (try dsimp only [anorm, ablock, astay]); refine z_end ?_) | (refine z_end0 ?_) | (refine w_block rfl ?_) | (refine w_scope rfl ?_) | (refine w_label rfl ?_; ((repeat ((fail_if_success (refine hK _ _ (cl_id ?_))); clear hK)); refine hK _ _ (cl_id ?_); clear hK)) | (refine w_exit rfl ?_; (try dsimp only [anorm, ablock, astay]); (try simp only [reduceIte, ↓reduceIte, Nat.reduceEqDiff]); ((repeat ((fail_if_success (refine hK _ _ (cl_id ?_))); clear hK)); refine hK _ _ (cl_id ?_); clear hK)) | (refine w_exit rfl ?_; (try dsimp only [anorm, ablock, astay]); (try simp only [reduceIte, ↓reduceIte, Nat.reduceEqDiff]); refine z_end0 ?_) | (refine jend_go [(9, [6]), (8, []), (7, [0, 7]), (6, [0, 1, 7]), (5, [0, 1, 2]), (2, [6]), (4, [6]), (3, [0, 1, 2, 12]), (1, [0, 1, 2, 8]), (0, [0, 1, 2])] ?_; simp only [tabAt_cons, sel_nil, sel_cons, put_at, ofl_cons, ofl_nil, T0_at, List.getElem?_cons_zero, List.getElem?_cons_succ, List.getElem?_nil, Option.getD_some, Option.getD_none, reduceIte, ↓reduceIte, Nat.reduceEqDiff]; refine jl_go ?_) | simp (disch := omega) only [go_sem, hB, c1, c2, c3, c4] | (refine jc_t ?_) | (refine jc_f ?_) | (refine z_ret (hm) ?_) | (refine And.intro (by (first | omega | (simp; done) | (simp; omega))) ?_) | (refine mc_b (fun hs => ?_) fun hs => ?_) | (refine mg_st (fun hs => ?_) fun hs => ?_) | (refine mg_sf (fun hs => ?_) fun hs => ?_) | (refine mall_s (fun hs => ?_) fun hs => ?_) | (refine malln_s (fun hs => ?_) fun hs => ?_) | (refine mpk_s (fun hs => ?_) fun hs => ?_) | ((repeat ((fail_if_success (refine hK _ _ (cl_id ?_))); clear hK)); refine hK _ _ (cl_id ?_); clear hK)))
  exact cl_id ⟨rfl, rfl⟩
end
end Go.Proofs.Ytmafdnbdaaedgaa
