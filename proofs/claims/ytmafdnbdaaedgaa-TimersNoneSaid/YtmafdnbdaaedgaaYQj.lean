/- Timers: a key's timer is taken out; Stop, by the machine. No condition. -/
import Derived.Test.YtmafdnbdaaedgaaYQi
import Derived.Test.YtmafdnbdaaedgaaYb1
import Derived.Test.YtmafdnbdaaedgaaYgs
set_option linter.unusedSectionVars false
set_option linter.unusedVariables false
set_option linter.unusedSimpArgs false
set_option linter.deprecated false
namespace Go.Proofs.Ytmafdnbdaaedgaa
open Go.RowKit Go.Cx Go.Am
set_option maxRecDepth 8000
set_option maxHeartbeats 2000000
attribute [local irreducible] ACalls jcall jsame jex jexg jexh jguard jconv jload jpart jstore jbin jslice jidxA jidx jfield jfieldA jbuild jbuildS jmake jappend jlen jpick jres jcnd jcopy jcap jborn jdraw jops jop jstr jstrc jlive jend jlenM jmmake jlook jmput jmdel jrange jnext jentry jlk jmp2 jmd2 jlm jrg jnx jny jen jeo jinvoke jmkI jtyA
attribute [local go_sem] reduceIte Nat.reduceEqDiff Nat.reduceAdd Nat.reduceMul Nat.reduceLT Nat.reduceLeDiff Nat.reduceSub Int.reduceLT Int.reduceLE Int.reduceToNat Int.reduceNeg Int.reduceAdd Int.reduceSub UInt8.reduceToNat Int.reduceEq reduceCtorEq Int.reducePow Int.reduceMul Nat.reducePow E0
attribute [local go_sem ↓] reduceIte
attribute [local go_sem high] chunks_bvs
attribute [local go_sem] jop_makeMap jop_lookup jop_mapUpdate jop_delete jop_range jop_next jop_entry jmmake_m jlook_m jlk_mI jmput_m jmdel_m jmd2_mB jlm_mB jrange_m jnext_m jnx_m jentry_m jen_m jeo_mS bmap_mI bmap_mSI mB_nil vI nbB_o nbB_r nbB_i bmap_o bmap_r bmap_i gfB_o gfB_r gfB_i jop_invoke jop_makeInterface jop_typeAssert jinvoke_m jmkI_m jtyA_m ifp_nb
attribute [local go_sem ←] List.map_take List.map_drop

theorem jlk_mP1 {K : Kv} {m : List (Int × Nat)} {z : AV} {n : Int} {a : Nat} (h : mfind m n = some a) : jlk (some z) (some (some (mB pv m))) n true = K.k (.tup [.ptr a 0, .v (.bool true)]) := by
  unfold mB
  rw [jlk_mB, h]
  rfl
theorem jlk_mP0 {K : Kv} {m : List (Int × Nat)} {z : AV} {n : Int} (h : mfind m n = none) : jlk (some z) (some (some (mB pv m))) n true = K.k (.tup [z, .v (.bool false)]) := by
  unfold mB
  rw [jlk_mB, h]
  rfl
theorem jmp2_mP {K : Kh} {r : Nat} {m : List (Int × Nat)} {n : Int} {x : Nat} {H : Heap} : jmp2 r (some (some (mB pv m))) n (.ptr x 0) H = K.k (H.set r (some (mB pv (mput m n x)))) := jmp2_mB (f := pv)
def DropR (H : Heap) (b c q : Nat) (p : List It) (a : It) (H' : Heap) : Prop := ∃ m' p' Z', Tz H' b c q m' p' Z' ∧ p.Perm (a :: p') ∧ H'.length = H.length ∧ ∀ k, ¬ Ow b c q p k → H'[k]? = H[k]?
section
variable {H : Heap} {b c q : Nat} {m : List (Int × Nat)} {p : List It} {Z : List (List AV)}
theorem Th.tm (S : Th H b c q p Z) (h : 0 < p.length) : Tm H b c q p Z := by
  rcases S with T | ⟨rfl, -, -⟩
  · exact T
  · cases h
theorem drop_r (S : Tz H b c q m p Z) {i : Nat} (hi : i < p.length) {H2 : Heap} (R : RemR H b c q p i H2) : DropR H b c q p (at3 p i) (H2.set c (some (mB pv (mdel m (at3 p i).2.1)))) := by
  obtain ⟨p', Z', T', pp, hp', hl, hk⟩ := R
  have nc := S.nc
  have own (k : Nat) (h : k ∈ p'.map (·.1)) : k ∈ p.map (·.1) := ((pp.map (·.1)).mem_iff).2 (List.mem_cons_of_mem _ h)
  have lc : c < H2.length := by rw [hl]; exact (List.getElem?_eq_some_iff.1 S.mp).1
  refine ⟨_, p', Z', ⟨Th.setc (.inl T') ⟨nc.1, nc.2.1, fun e => nc.2.2 (own c e)⟩, hp', ?_, S.ms.del pp⟩, pp, by rw [List.length_set, hl], fun k hn => ?_⟩
  · rw [List.getElem?_set, if_pos rfl, if_pos lc]
  · have n1 : k ≠ b ∧ k ≠ c ∧ k ≠ q ∧ k ∉ p.map (·.1) := by
      unfold Ow at hn
      simpa only [not_or] using hn
    rw [List.getElem?_set_ne (Ne.symm n1.2.1)]
    exact hk k n1.1 n1.2.2.1 n1.2.2.2
theorem drop_am (S : Tz H b c q m p Z) {i : Nat} (hi : i < p.length) (hl : p.length ≤ 1000000) : ACalls E0 20 [.ptr b 0, .v (.int .i64 (at3 p i).2.1)] H fun r H' => r = .v (.bool true) ∧ DropR H b c q p (at3 p i) H' := by
  have T := S.th.tm (by omega)
  have hB := T.o
  have hM := S.mp
  have hf := S.ms.some (at3_mem hi)
  have hx := T.it i hi
  obtain ⟨x2, H2, R, hr⟩ := remove_am T S.hp hi hl
  have fn := drop_r S hi R
  obtain ⟨p', Z', T', pp, hp', hl', hk⟩ := R
  have nc := S.nc
  generalize at3 p i = a at *
  obtain ⟨x, kx, tx⟩ := a
  unfold itO at hx
  simp only at hx hf fn hr ⊢
  have hB2 := T'.o
  have hM2 := (hk c nc.1 nc.2.1 nc.2.2).trans hM
  clear hk pp
  have hj := fun (K : Kv) (z : AV) => jlk_mP1 (K := K) (z := z) hf
  refine calls_q (calls_of Try.func20 rfl (by kernel_rfl) (by kernel_rfl) (by rw [Try.ntmps20]; exact Nat.le_of_ble_eq_true rfl) (fun hH0 hA0 => ?_)); rw [Try.results20]
  (repeat' (first | (have hs := Mk.out hs; (try simp only [decide_eq_true_eq, decide_eq_false_iff_not, Bool.not_eq_true, Bool.not_eq_false, Bool.not_true, Bool.not_false, Bool.not_eq_eq_eq_not, Bool.and_eq_true, Bool.or_eq_true, beq_iff_eq, bne_iff_ne, beq_eq_false_iff_ne, ne_eq, Classical.not_not, not_true_eq_false, not_false_eq_true, forall_const, Bool.false_eq_true, false_implies, eq_self] at hs); (try (exfalso; omega)); (try simp (disch := omega) only [go_sem, hB, hM, hx, hj, hB2, hM2, jmd2_mB, hs])) | (refine z_seqr rfl ?_) | (refine z_seqd 4 [.q, .q, .q, .q, .q, .q, .q, .q, .e] rfl (by kernel_rfl) (by kernel_rfl) ?_) | (refine w_seq rfl fun K hK => ?_) | (refine z_reg rfl ?_) | (refine z_cond rfl ?_) | (refine w_skip rfl ?_; ((repeat ((fail_if_success (refine hK _ _ (cl_id ?_))); clear hK)); refine hK _ _ (cl_id ?_); clear hK)) | (refine w_ret rfl ?_; (try dsimp only [anorm, ablock, astay]); refine z_end ?_) | (refine z_end0 ?_) | (refine w_block rfl ?_) | (refine w_scope rfl ?_) | (refine w_label rfl ?_; ((repeat ((fail_if_success (refine hK _ _ (cl_id ?_))); clear hK)); refine hK _ _ (cl_id ?_); clear hK)) | (refine w_exit rfl ?_; (try dsimp only [anorm, ablock, astay]); (try simp only [reduceIte, ↓reduceIte, Nat.reduceEqDiff]); ((repeat ((fail_if_success (refine hK _ _ (cl_id ?_))); clear hK)); refine hK _ _ (cl_id ?_); clear hK)) | (refine w_exit rfl ?_; (try dsimp only [anorm, ablock, astay]); (try simp only [reduceIte, ↓reduceIte, Nat.reduceEqDiff]); refine z_end0 ?_) | (refine jend_go [(6, [4]), (5, []), (4, [0, 1]), (3, [4]), (2, [0, 1, 5, 17]), (1, [0, 1, 5, 6]), (0, [0, 1])] ?_; simp only [tabAt_cons, sel_nil, sel_cons, put_at, ofl_cons, ofl_nil, T0_at, List.getElem?_cons_zero, List.getElem?_cons_succ, List.getElem?_nil, Option.getD_some, Option.getD_none, reduceIte, ↓reduceIte, Nat.reduceEqDiff]; refine jl_go ?_) | simp (disch := omega) only [go_sem, hB, hM, hx, hj, hB2, hM2, jmd2_mB] | (refine jc_t ?_) | (refine jc_f ?_) | (refine jx rfl ?_) | (refine jx (fun _ => rfl) ?_) | (refine jxg ⟨rfl, rfl⟩ ?_) | (refine jxh ⟨rfl, rfl⟩ ?_) | (refine jx ⟨by (first | omega | (simp; done) | (simp; omega)), rfl⟩ ?_) | (refine jx (fun _ => ⟨by (first | omega | (simp; done) | (simp; omega)), rfl⟩) ?_) | (refine jxg ⟨by (first | omega | (simp; done) | (simp; omega)), rfl, rfl⟩ ?_) | (refine jxh ⟨by (first | omega | (simp; done) | (simp; omega)), rfl, rfl⟩ ?_) | (refine jx ⟨by (first | omega | (simp; done) | (simp; omega)), by (first | omega | (simp; done) | (simp; omega)), rfl⟩ ?_) | (refine jxh (z_ret hr ⟨rfl, rfl⟩) ?_) | (refine And.intro (by (first | omega | (simp; done) | (simp; omega))) ?_) | (refine mc_b (fun hs => ?_) fun hs => ?_) | (refine mg_st (fun hs => ?_) fun hs => ?_) | (refine mg_sf (fun hs => ?_) fun hs => ?_) | (refine mall_s (fun hs => ?_) fun hs => ?_) | (refine malln_s (fun hs => ?_) fun hs => ?_) | (refine mpk_s (fun hs => ?_) fun hs => ?_) | ((repeat ((fail_if_success (refine hK _ _ (cl_id ?_))); clear hK)); refine hK _ _ (cl_id ?_); clear hK)))
  exact cl_id ⟨rfl, fn⟩
theorem drop0_am (S : Tz H b c q m p Z) {key : Int} (hk : key ∉ p.map (·.2.1)) : ACalls E0 20 [.ptr b 0, .v (.int .i64 key)] H fun r H' => r = .v (.bool false) ∧ H' = H := by
  have hM := S.mp
  have hj := fun (K : Kv) (z : AV) => jlk_mP0 (K := K) (z := z) (S.ms.none hk)
  have key (rv : AV) (hB : H[b]? = some (some (.obj [rv, .mp c]))) : ACalls E0 20 [.ptr b 0, .v (.int .i64 key)] H fun r H' => r = .v (.bool false) ∧ H' = H := by
    refine calls_q (calls_of Try.func20 rfl (by kernel_rfl) (by kernel_rfl) (by rw [Try.ntmps20]; exact Nat.le_of_ble_eq_true rfl) (fun hH0 hA0 => ?_)); rw [Try.results20]
    (repeat' (first | (have hs := Mk.out hs; (try simp only [decide_eq_true_eq, decide_eq_false_iff_not, Bool.not_eq_true, Bool.not_eq_false, Bool.not_true, Bool.not_false, Bool.not_eq_eq_eq_not, Bool.and_eq_true, Bool.or_eq_true, beq_iff_eq, bne_iff_ne, beq_eq_false_iff_ne, ne_eq, Classical.not_not, not_true_eq_false, not_false_eq_true, forall_const, Bool.false_eq_true, false_implies, eq_self] at hs); (try (exfalso; omega)); (try simp (disch := omega) only [go_sem, hB, hM, hj, hs])) | (refine z_seqr rfl ?_) | (refine z_seqd 4 [.q, .q, .q, .q, .q, .q, .q, .q, .q] rfl (by kernel_rfl) (by kernel_rfl) ?_) | (refine w_seq rfl fun K hK => ?_) | (refine z_reg rfl ?_) | (refine z_cond rfl ?_) | (refine w_skip rfl ?_; ((repeat ((fail_if_success (refine hK _ _ (cl_id ?_))); clear hK)); refine hK _ _ (cl_id ?_); clear hK)) | (refine w_ret rfl ?_; (try dsimp only [anorm, ablock, astay]); refine z_end ?_) | (refine z_end0 ?_) | (refine w_block rfl ?_) | (refine w_scope rfl ?_) | (refine w_label rfl ?_; ((repeat ((fail_if_success (refine hK _ _ (cl_id ?_))); clear hK)); refine hK _ _ (cl_id ?_); clear hK)) | (refine w_exit rfl ?_; (try dsimp only [anorm, ablock, astay]); (try simp only [reduceIte, ↓reduceIte, Nat.reduceEqDiff]); ((repeat ((fail_if_success (refine hK _ _ (cl_id ?_))); clear hK)); refine hK _ _ (cl_id ?_); clear hK)) | (refine w_exit rfl ?_; (try dsimp only [anorm, ablock, astay]); (try simp only [reduceIte, ↓reduceIte, Nat.reduceEqDiff]); refine z_end0 ?_) | (refine jend_go [(6, [4]), (5, []), (4, [0, 1]), (3, [4]), (2, [0, 1, 5, 17]), (1, [0, 1, 5, 6]), (0, [0, 1])] ?_; simp only [tabAt_cons, sel_nil, sel_cons, put_at, ofl_cons, ofl_nil, T0_at, List.getElem?_cons_zero, List.getElem?_cons_succ, List.getElem?_nil, Option.getD_some, Option.getD_none, reduceIte, ↓reduceIte, Nat.reduceEqDiff]; refine jl_go ?_) | simp (disch := omega) only [go_sem, hB, hM, hj] | (refine jc_t ?_) | (refine jc_f ?_) | (refine jx rfl ?_) | (refine jx (fun _ => rfl) ?_) | (refine jxg ⟨rfl, rfl⟩ ?_) | (refine jxh ⟨rfl, rfl⟩ ?_) | (refine jx ⟨by (first | omega | (simp; done) | (simp; omega)), rfl⟩ ?_) | (refine jx (fun _ => ⟨by (first | omega | (simp; done) | (simp; omega)), rfl⟩) ?_) | (refine jxg ⟨by (first | omega | (simp; done) | (simp; omega)), rfl, rfl⟩ ?_) | (refine jxh ⟨by (first | omega | (simp; done) | (simp; omega)), rfl, rfl⟩ ?_) | (refine jx ⟨by (first | omega | (simp; done) | (simp; omega)), by (first | omega | (simp; done) | (simp; omega)), rfl⟩ ?_) | (refine And.intro (by (first | omega | (simp; done) | (simp; omega))) ?_) | (refine mc_b (fun hs => ?_) fun hs => ?_) | (refine mg_st (fun hs => ?_) fun hs => ?_) | (refine mg_sf (fun hs => ?_) fun hs => ?_) | (refine mall_s (fun hs => ?_) fun hs => ?_) | (refine malln_s (fun hs => ?_) fun hs => ?_) | (refine mpk_s (fun hs => ?_) fun hs => ?_) | ((repeat ((fail_if_success (refine hK _ _ (cl_id ?_))); clear hK)); refine hK _ _ (cl_id ?_); clear hK)))
    exact cl_id ⟨rfl, rfl⟩
  rcases S.th with T | ⟨_, _, hB⟩
  · exact key _ T.o
  · exact key _ hB
theorem Th.ob (S : Th H b c q p Z) : ∃ rv, H[b]? = some (some (.obj [rv, .mp c])) := by
  rcases S with T | ⟨_, _, hB⟩
  · exact ⟨_, T.o⟩
  · exact ⟨_, hB⟩
theorem stop_am (S : Tz H b c q m p Z) {i : Nat} (hi : i < p.length) (hl : p.length ≤ 1000000) : ACalls E0 13 [.ptr b 0, .v (.int .i64 (at3 p i).2.1)] H fun r H' => r = .v (.bool true) ∧ DropR H b c q p (at3 p i) H' := by
  have hd := drop_am S hi hl
  obtain ⟨rv, hB⟩ := S.th.ob
  have hm := made_am hB
  refine calls_q (calls_of Try.func13 rfl (by kernel_rfl) (by kernel_rfl) (by rw [Try.ntmps13]; exact Nat.le_of_ble_eq_true rfl) (fun hH0 hA0 => ?_)); rw [Try.results13]
  (repeat' (first | (have hs := Mk.out hs; (try simp only [decide_eq_true_eq, decide_eq_false_iff_not, Bool.not_eq_true, Bool.not_eq_false, Bool.not_true, Bool.not_false, Bool.not_eq_eq_eq_not, Bool.and_eq_true, Bool.or_eq_true, beq_iff_eq, bne_iff_ne, beq_eq_false_iff_ne, ne_eq, Classical.not_not, not_true_eq_false, not_false_eq_true, forall_const, Bool.false_eq_true, false_implies, eq_self] at hs); (try (exfalso; omega)); (try simp (disch := omega) only [go_sem, hB, hs])) | (refine z_seqr rfl ?_) | (refine w_seq rfl fun K hK => ?_) | (refine z_reg rfl ?_) | (refine z_cond rfl ?_) | (refine w_skip rfl ?_; ((repeat ((fail_if_success (refine hK _ _ (cl_id ?_))); clear hK)); refine hK _ _ (cl_id ?_); clear hK)) | (refine w_ret rfl ?_; (try dsimp only [anorm, ablock, astay]); refine z_end ?_) | (refine z_end0 ?_) | (refine w_block rfl ?_) | (refine w_scope rfl ?_) | (refine w_label rfl ?_; ((repeat ((fail_if_success (refine hK _ _ (cl_id ?_))); clear hK)); refine hK _ _ (cl_id ?_); clear hK)) | (refine w_exit rfl ?_; (try dsimp only [anorm, ablock, astay]); (try simp only [reduceIte, ↓reduceIte, Nat.reduceEqDiff]); ((repeat ((fail_if_success (refine hK _ _ (cl_id ?_))); clear hK)); refine hK _ _ (cl_id ?_); clear hK)) | (refine w_exit rfl ?_; (try dsimp only [anorm, ablock, astay]); (try simp only [reduceIte, ↓reduceIte, Nat.reduceEqDiff]); refine z_end0 ?_) | (refine jend_go [(1, [4]), (0, [0, 1])] ?_; simp only [tabAt_cons, sel_nil, sel_cons, put_at, ofl_cons, ofl_nil, T0_at, List.getElem?_cons_zero, List.getElem?_cons_succ, List.getElem?_nil, Option.getD_some, Option.getD_none, reduceIte, ↓reduceIte, Nat.reduceEqDiff]; refine jl_go ?_) | simp (disch := omega) only [go_sem, hB] | (refine jc_t ?_) | (refine jc_f ?_) | (refine z_ret (hm) ?_) | (refine And.intro (by (first | omega | (simp; done) | (simp; omega))) ?_) | (refine mc_b (fun hs => ?_) fun hs => ?_) | (refine mg_st (fun hs => ?_) fun hs => ?_) | (refine mg_sf (fun hs => ?_) fun hs => ?_) | (refine mall_s (fun hs => ?_) fun hs => ?_) | (refine malln_s (fun hs => ?_) fun hs => ?_) | (refine mpk_s (fun hs => ?_) fun hs => ?_) | ((repeat ((fail_if_success (refine hK _ _ (cl_id ?_))); clear hK)); refine hK _ _ (cl_id ?_); clear hK)))
  refine z_call hd ?_
  rintro _ H2 ⟨rfl, R⟩
  (repeat' (first | (have hs := Mk.out hs; (try simp only [decide_eq_true_eq, decide_eq_false_iff_not, Bool.not_eq_true, Bool.not_eq_false, Bool.not_true, Bool.not_false, Bool.not_eq_eq_eq_not, Bool.and_eq_true, Bool.or_eq_true, beq_iff_eq, bne_iff_ne, beq_eq_false_iff_ne, ne_eq, Classical.not_not, not_true_eq_false, not_false_eq_true, forall_const, Bool.false_eq_true, false_implies, eq_self] at hs); (try (exfalso; omega)); (try simp (disch := omega) only [go_sem, hs])) | (refine z_seqr rfl ?_) | (refine w_seq rfl fun K hK => ?_) | (refine z_reg rfl ?_) | (refine z_cond rfl ?_) | (refine w_skip rfl ?_; ((repeat ((fail_if_success (refine hK _ _ (cl_id ?_))); clear hK)); refine hK _ _ (cl_id ?_); clear hK)) | (refine w_ret rfl ?_; (try dsimp only [anorm, ablock, astay]); refine z_end ?_) | (refine z_end0 ?_) | (refine w_block rfl ?_) | (refine w_scope rfl ?_) | (refine w_label rfl ?_; ((repeat ((fail_if_success (refine hK _ _ (cl_id ?_))); clear hK)); refine hK _ _ (cl_id ?_); clear hK)) | (refine w_exit rfl ?_; (try dsimp only [anorm, ablock, astay]); (try simp only [reduceIte, ↓reduceIte, Nat.reduceEqDiff]); ((repeat ((fail_if_success (refine hK _ _ (cl_id ?_))); clear hK)); refine hK _ _ (cl_id ?_); clear hK)) | (refine w_exit rfl ?_; (try dsimp only [anorm, ablock, astay]); (try simp only [reduceIte, ↓reduceIte, Nat.reduceEqDiff]); refine z_end0 ?_) | (refine jend_go [(1, [4]), (0, [0, 1])] ?_; simp only [tabAt_cons, sel_nil, sel_cons, put_at, ofl_cons, ofl_nil, T0_at, List.getElem?_cons_zero, List.getElem?_cons_succ, List.getElem?_nil, Option.getD_some, Option.getD_none, reduceIte, ↓reduceIte, Nat.reduceEqDiff]; refine jl_go ?_) | simp (disch := omega) only [go_sem] | (refine jc_t ?_) | (refine jc_f ?_) | (refine And.intro (by (first | omega | (simp; done) | (simp; omega))) ?_) | (refine mc_b (fun hs => ?_) fun hs => ?_) | (refine mg_st (fun hs => ?_) fun hs => ?_) | (refine mg_sf (fun hs => ?_) fun hs => ?_) | (refine mall_s (fun hs => ?_) fun hs => ?_) | (refine malln_s (fun hs => ?_) fun hs => ?_) | (refine mpk_s (fun hs => ?_) fun hs => ?_) | ((repeat ((fail_if_success (refine hK _ _ (cl_id ?_))); clear hK)); refine hK _ _ (cl_id ?_); clear hK)))
  exact cl_id ⟨rfl, R⟩
theorem stop0_am (S : Tz H b c q m p Z) {key : Int} (hk : key ∉ p.map (·.2.1)) : ACalls E0 13 [.ptr b 0, .v (.int .i64 key)] H fun r H' => r = .v (.bool false) ∧ H' = H := by
  have hd := drop0_am S hk
  obtain ⟨rv, hB⟩ := S.th.ob
  have hm := made_am hB
  refine calls_q (calls_of Try.func13 rfl (by kernel_rfl) (by kernel_rfl) (by rw [Try.ntmps13]; exact Nat.le_of_ble_eq_true rfl) (fun hH0 hA0 => ?_)); rw [Try.results13]
  (repeat' (first | (have hs := Mk.out hs; (try simp only [decide_eq_true_eq, decide_eq_false_iff_not, Bool.not_eq_true, Bool.not_eq_false, Bool.not_true, Bool.not_false, Bool.not_eq_eq_eq_not, Bool.and_eq_true, Bool.or_eq_true, beq_iff_eq, bne_iff_ne, beq_eq_false_iff_ne, ne_eq, Classical.not_not, not_true_eq_false, not_false_eq_true, forall_const, Bool.false_eq_true, false_implies, eq_self] at hs); (try (exfalso; omega)); (try simp (disch := omega) only [go_sem, hB, hs])) | (refine z_seqr rfl ?_) | (refine w_seq rfl fun K hK => ?_) | (refine z_reg rfl ?_) | (refine z_cond rfl ?_) | (refine w_skip rfl ?_; ((repeat ((fail_if_success (refine hK _ _ (cl_id ?_))); clear hK)); refine hK _ _ (cl_id ?_); clear hK)) | (refine w_ret rfl ?_; (try dsimp only [anorm, ablock, astay]); refine z_end ?_) | (refine z_end0 ?_) | (refine w_block rfl ?_) | (refine w_scope rfl ?_) | (refine w_label rfl ?_; ((repeat ((fail_if_success (refine hK _ _ (cl_id ?_))); clear hK)); refine hK _ _ (cl_id ?_); clear hK)) | (refine w_exit rfl ?_; (try dsimp only [anorm, ablock, astay]); (try simp only [reduceIte, ↓reduceIte, Nat.reduceEqDiff]); ((repeat ((fail_if_success (refine hK _ _ (cl_id ?_))); clear hK)); refine hK _ _ (cl_id ?_); clear hK)) | (refine w_exit rfl ?_; (try dsimp only [anorm, ablock, astay]); (try simp only [reduceIte, ↓reduceIte, Nat.reduceEqDiff]); refine z_end0 ?_) | (refine jend_go [(1, [4]), (0, [0, 1])] ?_; simp only [tabAt_cons, sel_nil, sel_cons, put_at, ofl_cons, ofl_nil, T0_at, List.getElem?_cons_zero, List.getElem?_cons_succ, List.getElem?_nil, Option.getD_some, Option.getD_none, reduceIte, ↓reduceIte, Nat.reduceEqDiff]; refine jl_go ?_) | simp (disch := omega) only [go_sem, hB] | (refine jc_t ?_) | (refine jc_f ?_) | (refine z_ret (hm) ?_) | (refine z_ret (hd) ?_) | (refine And.intro (by (first | omega | (simp; done) | (simp; omega))) ?_) | (refine mc_b (fun hs => ?_) fun hs => ?_) | (refine mg_st (fun hs => ?_) fun hs => ?_) | (refine mg_sf (fun hs => ?_) fun hs => ?_) | (refine mall_s (fun hs => ?_) fun hs => ?_) | (refine malln_s (fun hs => ?_) fun hs => ?_) | (refine mpk_s (fun hs => ?_) fun hs => ?_) | ((repeat ((fail_if_success (refine hK _ _ (cl_id ?_))); clear hK)); refine hK _ _ (cl_id ?_); clear hK)))
  exact cl_id ⟨rfl, rfl⟩
end
end Go.Proofs.Ytmafdnbdaaedgaa
