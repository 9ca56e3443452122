/- Timers: heap.Push, by the machine. No condition. -/
import Derived.Test.YtmafdnbdaaedgaaYQf
import Derived.Test.YtmafdnbdaaedgaaYb1
import Derived.Test.YtmafdnbdaaedgaaYgs
set_option linter.unusedSectionVars false
set_option linter.unusedVariables false
set_option linter.unusedSimpArgs false
set_option linter.deprecated false
namespace Go.Proofs.Ytmafdnbdaaedgaa
open Go.RowKit Go.Cx Go.Am
set_option maxRecDepth 8000
set_option maxHeartbeats 2000000
attribute [local irreducible] ACalls jcall jsame jex jexg jexh jguard jconv jload jpart jstore jbin jslice jidxA jidx jfield jfieldA jbuild jbuildS jmake jappend jlen jpick jres jcnd jcopy jcap jborn jdraw jops jop jstr jstrc jlive jend jlenM jmmake jlook jmput jmdel jrange jnext jentry jlk jmp2 jmd2 jlm jrg jnx jny jen jeo jinvoke jmkI jtyA
attribute [local go_sem] reduceIte Nat.reduceEqDiff Nat.reduceAdd Nat.reduceMul Nat.reduceLT Nat.reduceLeDiff Nat.reduceSub Int.reduceLT Int.reduceLE Int.reduceToNat Int.reduceNeg Int.reduceAdd Int.reduceSub UInt8.reduceToNat Int.reduceEq reduceCtorEq Int.reducePow Int.reduceMul Nat.reducePow E0
attribute [local go_sem ↓] reduceIte
attribute [local go_sem high] chunks_bvs
attribute [local go_sem] jop_makeMap jop_lookup jop_mapUpdate jop_delete jop_range jop_next jop_entry jmmake_m jlook_m jlk_mI jmput_m jmdel_m jmd2_mB jlm_mB jrange_m jnext_m jnx_m jentry_m jen_m jeo_mS bmap_mI bmap_mSI mB_nil vI nbB_o nbB_r nbB_i bmap_o bmap_r bmap_i gfB_o gfB_r gfB_i jop_invoke jop_makeInterface jop_typeAssert jinvoke_m jmkI_m jtyA_m ifp_nb
attribute [local go_sem ←] List.map_take List.map_drop

/-- Timers whose row may be nil yet; then q is b. -/
def Th (H : Heap) (b c q : Nat) (p : List It) (Z : List (List AV)) : Prop := Tm H b c q p Z ∨ (p = [] ∧ q = b ∧ H[b]? = some (some (.obj [.v (.slice none 0 0), .mp c])))
/-- A timer is in. -/
def PushR (H : Heap) (b c q : Nat) (p : List It) (a : It) (H' : Heap) : Prop := ∃ q' p', Tm H' b c q' p' [] ∧ p'.Perm (a :: p) ∧ Hp p' p'.length ∧ H.length ≤ H'.length ∧ H.length ≤ q' ∧ ∀ k, k < H.length → k ≠ b → k ≠ q → k ≠ a.1 → k ∉ p.map (·.1) → H'[k]? = H[k]?
/-- .. before the heap is in order. -/
def PushB (H : Heap) (b c q : Nat) (p : List It) (a : It) (H' : Heap) : Prop := Tm H' b c (H.length + 1) (p ++ [a]) [] ∧ H.length ≤ H'.length ∧ ∀ k, k < H.length → k ≠ b → k ≠ q → k ≠ a.1 → k ∉ p.map (·.1) → H'[k]? = H[k]?
section
variable {H : Heap} {b c q : Nat} {p : List It} {Z : List (List AV)}
theorem nmz_take : (nmz p Z).take p.length = nms p := by
  unfold nmz
  rw [List.take_append_of_le_length (by rw [nms_len]; exact Nat.le_refl _), List.take_of_length_le (by rw [nms_len]; exact Nat.le_refl _)]
theorem nmz_end {a : It} : nmz (p ++ [a]) [] = nms p ++ [[.ptr a.1 0]] := by simp [nmz, nms]
theorem nd_end {a : It} (nd : (p.map (·.1)).Nodup) (nx : a.1 ∉ p.map (·.1)) : ((p ++ [a]).map (·.1)).Nodup := by
  rw [List.map_append, List.nodup_append]
  refine ⟨nd, by simp, fun x hx y hy e => nx ?_⟩
  simp at hy
  rw [← hy, ← e]
  exact hx
theorem push_b {a : It} {pl : Int} (T : Tm H b c q p Z) (hx : H[a.1]? = some (itO a pl)) (nx : a.1 ∉ p.map (·.1)) {H' : Heap}
    (e : H' = ((((H.set a.1 (itO a p.length)).set q none ++ [some (Blk.row true 1 [[.ptr a.1 0]])]) ++ [some (Blk.row true 1 ((nmz p Z).take p.length ++ [[.ptr a.1 0]]))]).set b (some (.obj [.hs (H.length + 1) 1 0 (p.length + 1), .mp c])))) : PushB H b c q p a H' := by
  rw [nmz_take] at e
  have lx : a.1 < H.length := (List.getElem?_eq_some_iff.1 hx).1
  have lb : b < H.length := (List.getElem?_eq_some_iff.1 T.o).1
  have nbx : a.1 ≠ b := fun e => by
    rw [e, T.o] at hx
    unfold itO at hx
    cases hx
  have nqx : a.1 ≠ q := fun e => by
    rw [e, T.row] at hx
    unfold itO at hx
    cases hx
  have ap (k : Nat) (hk : k < H.length) (kb : k ≠ b) : H'[k]? = ((H.set a.1 (itO a p.length)).set q none)[k]? := by
    rw [e, List.getElem?_set_ne (Ne.symm kb), List.append_assoc, List.getElem?_append_left (by simpa using hk)]
  refine ⟨⟨?_, ?_, ?_, nd_end T.nd nx⟩, by rw [e]; simp, fun k hk k1 k2 k3 k4 => ?_⟩
  · rw [e, List.getElem?_set, if_pos rfl, if_pos (by simp; omega), List.length_append, List.length_singleton]
  · rw [e, List.getElem?_set_ne (by omega), List.getElem?_append_right (by simp), nmz_end]
    simp
  · intro k hk
    rw [List.length_append, List.length_singleton] at hk
    by_cases e1 : k = p.length
    · rw [e1, at3_end, ap _ lx nbx, List.getElem?_set_ne (Ne.symm nqx), List.getElem?_set, if_pos rfl, if_pos lx]
    · have hk2 : k < p.length := by omega
      have lk : (at3 p k).1 < H.length := (List.getElem?_eq_some_iff.1 (T.it k hk2)).1
      have n1 : (at3 p k).1 ≠ a.1 := fun e => nx (e ▸ List.mem_map.2 ⟨_, at3_mem hk2, rfl⟩)
      rw [at3_app hk2, ap _ lk (Ne.symm (T.nbo k hk2)), List.getElem?_set_ne (T.nq k hk2), List.getElem?_set_ne (Ne.symm n1)]
      exact T.it k hk2
  · rw [ap k hk k1, List.getElem?_set_ne (Ne.symm k2), List.getElem?_set_ne (Ne.symm k3)]
theorem push_b0 {a : It} {pl : Int} (hB : H[b]? = some (some (.obj [.v (.slice none 0 0), .mp c]))) (hx : H[a.1]? = some (itO a pl)) {H' : Heap}
    (e : H' = (((H.set a.1 (itO a 0)) ++ [some (Blk.row true 1 [[.ptr a.1 0]]), some (Blk.row true 1 [[.ptr a.1 0]])]).set b (some (.obj [.hs (H.length + 1) 1 0 1, .mp c])))) : PushB H b c b [] a H' := by
  have lx : a.1 < H.length := (List.getElem?_eq_some_iff.1 hx).1
  have lb : b < H.length := (List.getElem?_eq_some_iff.1 hB).1
  have nbx : a.1 ≠ b := fun e => by
    rw [e, hB] at hx
    unfold itO at hx
    cases hx
  have ap (k : Nat) (hk : k < H.length) (kb : k ≠ b) : H'[k]? = (H.set a.1 (itO a 0))[k]? := by
    rw [e, List.getElem?_set_ne (Ne.symm kb), List.getElem?_append_left (by simpa using hk)]
  refine ⟨⟨?_, ?_, ?_, by simp⟩, by rw [e]; simp, fun k hk k1 k2 k3 k4 => ?_⟩
  · rw [e, List.getElem?_set, if_pos rfl, if_pos (by simp; omega)]
    rfl
  · rw [e, List.getElem?_set_ne (by omega), List.getElem?_append_right (by simp), List.length_set, show H.length + 1 - H.length = 1 by omega]
    rfl
  · intro k hk
    have : k = 0 := by simpa using hk
    subst this
    show H'[a.1]? = some (itO a 0)
    rw [ap _ lx nbx, List.getElem?_set, if_pos rfl, if_pos lx]
  · rw [ap k hk k1, List.getElem?_set_ne (Ne.symm k3)]
theorem push_up {a : It} (h : Hp p p.length) : UpI (p ++ [a]) (p ++ [a]).length p.length := by
  refine ⟨fun k k0 kn ki => ?_, fun k k0 kn ki _ => ?_⟩
  · rw [List.length_append, List.length_singleton] at kn
    rw [at3_app (by omega), at3_app (by omega)]
    exact h k k0 (by omega)
  · rw [List.length_append, List.length_singleton] at kn
    omega
theorem push_r {a : It} {H1 H2 : Heap} {p' : List It} (B : PushB H b c q p a H1) (T : Tm H2 b c (H.length + 1) p' []) (F : Fr (p ++ [a]).length H1 (H.length + 1) (p ++ [a]) H2 p') (h : Hp p' (p ++ [a]).length) : PushR H b c q p a H2 := by
  refine ⟨H.length + 1, p', T, F.perm.trans (List.perm_append_comm (l₁ := p) (l₂ := [a])), by rw [F.perm.length_eq]; exact h, by rw [F.len]; exact B.2.1, by omega, fun k hk k1 k2 k3 k4 => ?_⟩
  rw [F.keep k (by omega) ?_, B.2.2 k hk k1 k2 k3 k4]
  rw [List.map_append]
  intro hh
  rcases List.mem_append.1 hh with hh | hh
  · exact k4 hh
  · exact k3 (by simpa using hh)
theorem hpush_am {a : It} {pl : Int} (S : Th H b c q p Z) (hp : Hp p p.length) (hx : H[a.1]? = some (itO a pl)) (nx : a.1 ∉ p.map (·.1)) (hl : p.length ≤ 1000000) : ACalls E0 21 [.ifp 60 b 0, .ifp 56 a.1 0] H fun r H' => r = .tup [] ∧ PushR H b c q p a H' := by
  have key (g : ∃ H1, (ACalls E0 69 [.ptr b 0, .ifp 56 a.1 0] H fun r H' => r = .tup [] ∧ H' = H1) ∧ PushB H b c q p a H1) : ACalls E0 21 [.ifp 60 b 0, .ifp 56 a.1 0] H fun r H' => r = .tup [] ∧ PushR H b c q p a H' := by
    obtain ⟨H1, h1, B⟩ := g
    have hB := B.1.o
    have l1 : (p ++ [a]).length = p.length + 1 := by simp
    have hu := up_am B.1 (n := (p ++ [a]).length) (j := p.length) (Nat.le_refl _) (by omega) (by omega)
    have ok := upS_ok p.length (Nat.le_refl _) B.1 (n := (p ++ [a]).length) (j := p.length) (by omega) (Nat.le_refl _) (push_up hp)
    generalize upS (H.length + 1) [] p.length H1 (p ++ [a]) p.length = F0 at *
    obtain ⟨H2, p2⟩ := F0
    obtain ⟨T2, F2, g2⟩ := ok
    simp only at T2 F2 g2 hu
    have st := push_r B T2 F2 g2
    rw [l1] at hB
    have w1 : IntKind.wrap .i64 (((p.length + 1 : Nat) : Int) - 1) = (p.length : Int) := by
      rw [wrap_i (by omega) (by omega)]
      omega
    have hlen := rlen_am (H := H1) (q := H.length + 1) (p.length + 1)
    clear B T2 F2 g2
    generalize p.length = n at *
    refine calls_q (calls_of Try.func21 rfl (by kernel_rfl) (by kernel_rfl) (by rw [Try.ntmps21]; exact Nat.le_of_ble_eq_true rfl) (fun hH0 hA0 => ?_)); rw [Try.results21]
    (repeat' (first | (have hs := Mk.out hs; (try simp only [decide_eq_true_eq, decide_eq_false_iff_not, Bool.not_eq_true, Bool.not_eq_false, Bool.not_true, Bool.not_false, Bool.not_eq_eq_eq_not, Bool.and_eq_true, Bool.or_eq_true, beq_iff_eq, bne_iff_ne, beq_eq_false_iff_ne, ne_eq, Classical.not_not, not_true_eq_false, not_false_eq_true, forall_const, Bool.false_eq_true, false_implies, eq_self] at hs); (try (exfalso; omega)); (try simp (disch := omega) only [go_sem, hB, w1, hs])) | (refine z_seqr rfl ?_) | (refine w_seq rfl fun K hK => ?_) | (refine z_reg rfl ?_) | (refine z_cond rfl ?_) | (refine w_skip rfl ?_; ((repeat ((fail_if_success (refine hK _ _ (cl_id ?_))); clear hK)); refine hK _ _ (cl_id ?_); clear hK)) | (refine w_ret rfl ?_; (try dsimp only [anorm, ablock, astay]); refine z_end ?_) | (refine z_end0 ?_) | (refine w_block rfl ?_) | (refine w_scope rfl ?_) | (refine w_label rfl ?_; ((repeat ((fail_if_success (refine hK _ _ (cl_id ?_))); clear hK)); refine hK _ _ (cl_id ?_); clear hK)) | (refine w_exit rfl ?_; (try dsimp only [anorm, ablock, astay]); (try simp only [reduceIte, ↓reduceIte, Nat.reduceEqDiff]); ((repeat ((fail_if_success (refine hK _ _ (cl_id ?_))); clear hK)); refine hK _ _ (cl_id ?_); clear hK)) | (refine w_exit rfl ?_; (try dsimp only [anorm, ablock, astay]); (try simp only [reduceIte, ↓reduceIte, Nat.reduceEqDiff]); refine z_end0 ?_) | (refine jend_go [(1, []), (0, [0])] ?_; simp only [tabAt_cons, sel_nil, sel_cons, put_at, ofl_cons, ofl_nil, T0_at, List.getElem?_cons_zero, List.getElem?_cons_succ, List.getElem?_nil, Option.getD_some, Option.getD_none, reduceIte, ↓reduceIte, Nat.reduceEqDiff]; refine jl_go ?_) | simp (disch := omega) only [go_sem, hB, w1] | (refine jc_t ?_) | (refine jc_f ?_) | (refine z_ret (h1) ?_) | (refine z_ret (hlen) ?_) | (refine z_ret (hu) ?_) | (refine And.intro (by (first | omega | (simp; done) | (simp; omega))) ?_) | (refine mc_b (fun hs => ?_) fun hs => ?_) | (refine mg_st (fun hs => ?_) fun hs => ?_) | (refine mg_sf (fun hs => ?_) fun hs => ?_) | (refine mall_s (fun hs => ?_) fun hs => ?_) | (refine malln_s (fun hs => ?_) fun hs => ?_) | (refine mpk_s (fun hs => ?_) fun hs => ?_) | ((repeat ((fail_if_success (refine hK _ _ (cl_id ?_))); clear hK)); refine hK _ _ (cl_id ?_); clear hK)))
    exact cl_id ⟨rfl, st⟩
  apply key
  rcases S with T | ⟨rfl, rfl, hB⟩
  · exact ⟨_, rpush_am T.o T.row (by rw [nmz_len]; omega) hx (by omega), push_b T hx nx rfl⟩
  · exact ⟨_, rpush_nil hB hx, push_b0 hB hx rfl⟩
end
end Go.Proofs.Ytmafdnbdaaedgaa
