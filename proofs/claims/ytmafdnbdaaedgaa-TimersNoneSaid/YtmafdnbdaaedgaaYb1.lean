/- The abstract machine and its soundness, part 1. No condition. -/
import Derived.Scope
import Derived.IntWalk
import Derived.WideShapes
import Derived.ProofKit
import Derived.Deep.Slices
import Derived.OpenShut
import Derived.DeepKeys
import Derived.Laws.BitsAllLaws
import Derived.Lib.MinMax
import Derived.Laws.StructEq
import Derived.RangeFuncNested
import Derived.RangeFuncBound
import Derived.RangeFuncLeaves
import Derived.Test.YtmafdnbdaaedgaaYb0
set_option linter.unusedSectionVars false
set_option linter.unusedVariables false
set_option linter.unusedSimpArgs false
set_option linter.deprecated false
namespace Go.Am
open Go.RowKit Go.Cx

/-- What the statements behind may do. -/
def anorm (K : (Nat → AV) → Heap → Prop) (Q : Exit → (Nat → AV) → Heap → Prop) : Exit → (Nat → AV) → Heap → Prop
  | .normal, T, H => K T H
  | e, T, H => Q e T H
def ablock (id : Nat) (Q : Exit → (Nat → AV) → Heap → Prop) : Exit → (Nat → AV) → Heap → Prop
  | .exit i, T, H => if i = id then Q .normal T H else Q (.exit i) T H
  | e, T, H => Q e T H
def astay (Q : Exit → (Nat → AV) → Heap → Prop) : Exit → (Nat → AV) → Heap → Prop
  | .goto _, _, _ => False
  | e, T, H => Q e T H
/-- From a world to a later one; names from n on may be given anew. -/
structure ExtB (n : Nat) (M : Mem) (w : World) (H : Heap) (M' : Mem) (w' : World) (H' : Heap) : Prop where
  os : w'.os = w.os
  tape : w'.tape = w.tape ∧ w.drawn ≤ w'.drawn
  output : w'.output = w.output
  size : w.heap.size ≤ w'.heap.size
  G : ∀ b, M.G b → M'.G b
  gnew : ∀ b, M'.G b → M.G b ∨ Hot M H b ∨ w.heap.size ≤ b
  block : ∀ b, b < w.heap.size → ¬ Hot M H b → w'.heap[b]? = w.heap[b]?
  len : n ≤ H'.length
  blk : ∀ r, r < n → M'.blk r = M.blk r
  bsz : ∀ r, r < n → M'.bsz r = M.bsz r
  hot : ∀ b, Hot M' H' b → Hot M H b ∨ w.heap.size ≤ b
theorem ExtB.of {n : Nat} {M M' : Mem} {w w' : World} {H H' : Heap} (hn : n ≤ H.length) (h : Ext M w H M' w' H') : ExtB n M w H M' w' H' :=
  ⟨h.os, h.tape, h.output, h.size, h.G, h.gnew, h.block, Nat.le_trans hn h.len, fun r hr => h.blk r (Nat.lt_of_lt_of_le hr hn), fun r hr => h.bsz r (Nat.lt_of_lt_of_le hr hn), h.hot⟩
theorem ExtB.full {M M' : Mem} {w w' : World} {H H' : Heap} (h : ExtB H.length M w H M' w' H') : Ext M w H M' w' H' :=
  ⟨h.os, h.tape, h.output, h.size, h.G, h.gnew, h.block, h.len, h.blk, h.bsz, h.hot⟩
theorem ExtB.refl {n : Nat} {M : Mem} {w : World} {H : Heap} (hn : n ≤ H.length) : ExtB n M w H M w H := .of hn (.refl _ _ _)
theorem ExtB.trans {n : Nat} {M M' M'' : Mem} {w w' w'' : World} {H H' H'' : Heap} (h : ExtB n M w H M' w' H') (k : ExtB n M' w' H' M'' w'' H'') : ExtB n M w H M'' w'' H'' where
  os := k.os.trans h.os
  tape := ⟨k.tape.1.trans h.tape.1, Nat.le_trans h.tape.2 k.tape.2⟩
  output := k.output.trans h.output
  size := Nat.le_trans h.size k.size
  G b hb := k.G b (h.G b hb)
  gnew b hb := by
    rcases k.gnew b hb with h1 | h1 | h1
    · exact h.gnew b h1
    · rcases h.hot b h1 with h2 | h2
      · exact .inr (.inl h2)
      · exact .inr (.inr h2)
    · exact .inr (.inr (Nat.le_trans h.size h1))
  block b hb hn := by
    rw [k.block b (Nat.lt_of_lt_of_le hb h.size) (fun hh => ?_), h.block b hb hn]
    rcases h.hot b hh with h1 | h1
    · exact hn h1
    · omega
  len := k.len
  blk r hr := (k.blk r hr).trans (h.blk r hr)
  bsz r hr := (k.bsz r hr).trans (h.bsz r hr)
  hot b hb := by
    rcases k.hot b hb with h1 | h1
    · exact h.hot b h1
    · exact .inr (Nat.le_trans h.size h1)
/-- What holds of T and H says at least what T' and H' say; names from n on may be given anew. -/
def Cq (E : Env) (n : Nat) (T : Nat → AV) (H : Heap) (T' : Nat → AV) (H' : Heap) : Prop :=
  n ≤ H.length → n ≤ H'.length ∧ ∀ (M : Mem) (w : World) (N : Nat) (a : Act), Gam E.gl M w H → TR M H.length w N T a → ∃ M', Gam E.gl M' w H' ∧ TR M' H'.length w N T' a ∧ ExtB n M w H M' w H'
/-- .. and then p. -/
def Cl (E : Env) (n : Nat) (p : (Nat → AV) → Heap → Prop) (T : Nat → AV) (H : Heap) : Prop := ∃ T' H', Cq E n T H T' H' ∧ p T' H'
theorem Cq.refl {E : Env} {n : Nat} {T : Nat → AV} {H : Heap} : Cq E n T H T H := fun hn => ⟨hn, fun M _ _ _ hG hT => ⟨M, hG, hT, .refl hn⟩⟩
theorem Cq.trans {E : Env} {n : Nat} {T T' T'' : Nat → AV} {H H' H'' : Heap} (h : Cq E n T H T' H') (k : Cq E n T' H' T'' H'') : Cq E n T H T'' H'' := fun hn => by
  obtain ⟨h1, h2⟩ := h hn
  obtain ⟨k1, k2⟩ := k h1
  refine ⟨k1, fun M w N a hG hT => ?_⟩
  obtain ⟨M', g1, g2, g3⟩ := h2 M w N a hG hT
  obtain ⟨M'', f1, f2, f3⟩ := k2 M' w N a g1 g2
  exact ⟨M'', f1, f2, g3.trans f3⟩
theorem cl_id {E : Env} {n : Nat} {p : (Nat → AV) → Heap → Prop} {T : Nat → AV} {H : Heap} (h : p T H) : Cl E n p T H := ⟨T, H, .refl, h⟩
/-- The code c, begun with T and H, comes to Q; the names below n stay as they are. -/
def awp (E : Env) (n : Nat) : Code → (Exit → (Nat → AV) → Heap → Prop) → (Nat → AV) → Heap → Prop
  | .skip, Q, T, H => Q .normal T H
  | .label _, Q, T, H => Q .normal T H
  | .exit id, Q, T, H => Q (.exit id) T H
  | .ret, Q, T, H => Q .ret T H
  | .seq a b, Q, T, H => awp E n a (anorm (Cl E n fun T' H' => awp E n b Q T' H') Q) T H
  | .cond c x y, Q, T, H => ∃ t, ev E.gl T c = .v (.bool t) ∧ ((t = true → awp E n x Q T H) ∧ (t = false → awp E n y Q T H))
  | .block id c, Q, T, H => awp E n c (ablock id Q) T H
  | .scope c, Q, T, H => awp E n c (astay Q) T H
  | .loop c, Q, T, H => ∃ I : Nat → (Nat → AV) → Heap → Prop, (∃ k, Cl E n (I k) T H) ∧ ∀ k T1 H1, I k T1 H1 →
      awp E n c (anorm (Cl E n fun T' H' => ∃ j, j < k ∧ I j T' H') Q) T1 H1
  | .region _ ops false, Q, T, H => aops E ops ops.toList T H fun T' H' => Q .normal T' H'
  | .region _ ops true, Q, T, H => E.P.follows .mixedOrders = true ∧ ∃ ks, drawOk ops ks = true ∧ adraw E ops H ops.toList ks T H fun T' H' => Q .normal T' H'
  | _, _, _, _ => False
section
variable {E : Env} {M : Mem} {w : World} {H : Heap} {N : Nat} {T : Nat → AV} {a : Act}

theorem TR.mono {M M' : Mem} {n n' : Nat} {w w' : World} (hG : ∀ b, M.G b → M'.G b) (hw : ∀ b, M.G b → w'.heap[b]? = w.heap[b]?) (hn : n ≤ n') (hb : ∀ r, r < n → M'.blk r = M.blk r ∧ M'.bsz r = M.bsz r) (h : TR M n w N T a) : TR M' n' w' N T a :=
  ⟨h.1, fun i => VR.mono hG hw hn hb (h.2 i)⟩
theorem Ext.keep {M' : Mem} {w' : World} {H' : Heap} (hE : Ext M w H M' w' H') (hG : Gam E.gl M w H) : ∀ b, M.G b → w'.heap[b]? = w.heap[b]? := by
  intro b hb
  refine hE.block b (hG.inG b hb) (fun hh => ?_)
  obtain ⟨r, B, h1, h2, h3⟩ := hh
  exact hG.sep r B b h1 h2 h3 hb
theorem TR.ext {M' : Mem} {w' : World} {H' : Heap} (hE : Ext M w H M' w' H') (hG : Gam E.gl M w H) (h : TR M H.length w N T a) : TR M' H'.length w' N T a :=
  h.mono hE.G (hE.keep hG) hE.len fun r hr => ⟨hE.blk r hr, hE.bsz r hr⟩
theorem TR.put {M : Mem} {n : Nat} {w : World} {d : Option Tmp} {v : AV} {u : Value} (h : TR M n w N T a) (hd : dstOk N d = true) (hv : VR M n w v u) : TR M n w N (aput T d v) (a.put d u) := by
  cases d with
  | none => exact h
  | some d =>
    refine ⟨by simp [Act.put, h.1], fun i => ?_⟩
    have hd' : d < a.tmps.size := by rw [h.1]; exact of_decide_eq_true hd
    simp only [aput, Go.Am.put, Act.put, Array.getD_eq_getD_getElem?, Array.getElem?_setIfInBounds]
    by_cases hi : d = i
    · subst hi
      rw [if_pos rfl, if_pos rfl, if_pos hd']
      exact hv
    · rw [if_neg (fun e => hi e.symm), if_neg hi]
      have := h.2 i
      rwa [Array.getD_eq_getD_getElem?] at this
theorem put_defers (a : Act) (d : Option Tmp) (u : Value) : (a.put d u).defers = a.defers := by
  cases d <;> rfl
theorem ayield_out {M : Mem} {n : Nat} {w : World} {ops : Array Oper} {j : Nat} {r : Option Bool} (hT : TR M n w N T a) (h : ayield ops T j = some r) (hd : ∀ d, (ops[j]?).bind (·.dst) = some d → d < N) : yielded ops a.tmps j = r := by
  unfold ayield at h
  unfold yielded
  split at h
  case h_2 => cases h
  case h_1 d hd1 =>
  have hlt : d < a.tmps.size := by rw [hT.1]; exact hd d hd1
  have hv := hT.2 d
  rw [hd1]
  rw [Array.getD_eq_getD_getElem?, Array.getElem?_eq_getElem hlt] at hv
  simp only [Option.bind_some, Array.getElem?_eq_getElem hlt]
  split at h
  · next hx =>
    cases h
    rw [hx] at hv
    unfold VR at hv
    simp only [Option.getD_some] at hv
    rw [hv]
  · next hx =>
    cases h
    rw [hx] at hv
    unfold VR at hv
    simp only [Option.getD_some] at hv
    rw [hv]
  · cases h
/-- The state behind. -/
def Lift (E : Env) (M : Mem) (w : World) (H : Heap) (N : Nat) (ds : List Deferred) (Q : Exit → (Nat → AV) → Heap → Prop) : Exit → Act → World → Prop := fun e a' w' =>
  ∃ T' H' M', Q e T' H' ∧ Gam E.gl M' w' H' ∧ TR M' H'.length w' N T' a' ∧ a'.defers = ds ∧ Ext M w H M' w' H'
/-- .. names from n on given anew. -/
def LiftB (E : Env) (n : Nat) (M : Mem) (w : World) (H : Heap) (N : Nat) (ds : List Deferred) (Q : Exit → (Nat → AV) → Heap → Prop) : Exit → Act → World → Prop := fun e a' w' =>
  ∃ T' H' M', Q e T' H' ∧ Gam E.gl M' w' H' ∧ TR M' H'.length w' N T' a' ∧ a'.defers = ds ∧ ExtB n M w H M' w' H'
theorem Lift.b {n : Nat} {ds : List Deferred} {Q : Exit → (Nat → AV) → Heap → Prop} {e : Exit} {a' : Act} {w' : World} (hn : n ≤ H.length) (h : Lift E M w H N ds Q e a' w') : LiftB E n M w H N ds Q e a' w' := by
  obtain ⟨T', H', M', h1, h2, h3, h4, h5⟩ := h
  exact ⟨T', H', M', h1, h2, h3, h4, .of hn h5⟩
theorem dst_lt {ops : Array Oper} (h : (ops.toList.all fun o => dstOk N o.dst) = true) (j d : Nat) (hj : (ops[j]?).bind (·.dst) = some d) : d < N := by
  obtain ⟨o, h1, h2⟩ := Option.bind_eq_some_iff.1 hj
  have h3 := List.all_eq_true.1 h o (by
    have := Array.mem_of_getElem? h1
    simpa using this)
  rw [h2] at h3
  exact of_decide_eq_true h3
theorem aops_sound {ops : Array Oper} (hops : (ops.toList.all fun o => dstOk N o.dst) = true) {Q : Exit → Act → World → Prop} {K : (Nat → AV) → Heap → Prop} : ∀ (l : List Oper) (i : Nat), ops.toList.drop i = l → ∀ (a : Act) (w : World) (T : Nat → AV) (H : Heap) (M : Mem), Gam E.gl M w H → TR M H.length w N T a →
    aops E ops l T H K → (∀ T' H' M' a' w', K T' H' → Gam E.gl M' w' H' → TR M' H'.length w' N T' a' → a'.defers = a.defers → Ext M w H M' w' H' → Q .normal a' w') → wpOps E.P ops Q ((List.range ops.size).drop i) a w
  | [], i, hi, a, w, T, H, M, hG, hT, h, hQ => by
    have hle : ops.size ≤ i := by
      have := congrArg List.length hi
      simp at this
      omega
    rw [List.drop_eq_nil_of_le (by simpa using hle)]
    unfold wpOps
    exact hQ T H M a w h hG hT rfl (Ext.refl _ _ _)
  | o :: l, i, hi, a, w, T, H, M, hG, hT, h, hQ => by
    have hlt : i < ops.size := by
      have := congrArg List.length hi
      simp at this
      omega
    have hoi : ops[i]? = some o := by
      have : (ops.toList.drop i)[0]? = some o := by rw [hi]; rfl
      simpa using this
    have hnext : ops.toList.drop (i + 1) = l := by
      rw [← List.drop_drop, hi]
      rfl
    have hr : (List.range ops.size).drop i = i :: (List.range ops.size).drop (i + 1) := by
      rw [List.drop_eq_getElem_cons (by simpa using hlt)]
      simp
    rw [hr]
    unfold wpOps
    simp only [hoi]
    unfold aops at h
    have hd : dstOk N o.dst = true := List.all_eq_true.1 hops o (by
      have : o ∈ ops.toList.drop i := by rw [hi]; simp
      exact List.mem_of_mem_drop this)
    have run : aop E o.op o.type (ev E.gl T) H (fun v H' => aops E ops l (aput T o.dst v) H' K) → o.wp E.P a w (wpOps E.P ops Q ((List.range ops.size).drop (i + 1))) Q := by
      intro h1
      refine op_sound hG hT h1 fun v u w' M' H' h2 h3 h4 h5 => ?_
      exact aops_sound hops l (i + 1) hnext _ w' _ H' M' h3 ((hT.ext h5 hG).put hd h4) h2 fun T2 H2 M2 a2 w2 k1 k2 k3 k4 k5 => hQ T2 H2 M2 a2 w2 k1 k2 k3 (k4.trans (put_defers a _ _)) (h5.trans k5)
    have skip : aops E ops l (aput T o.dst (.v undef)) H K → wpOps E.P ops Q ((List.range ops.size).drop (i + 1)) (a.put o.dst undef) w := by
      intro h1
      exact aops_sound hops l (i + 1) hnext _ w _ H M hG (hT.put hd (by unfold VR; rfl)) h1 fun T2 H2 M2 a2 w2 k1 k2 k3 k4 k5 => hQ T2 H2 M2 a2 w2 k1 k2 k3 (k4.trans (put_defers a _ _)) k5
    cases hg : o.guard with
    | none =>
      rw [hg] at h
      rw [if_pos (by simp [Region.wanted, hg])]
      exact .inl (run h)
    | some g =>
      obtain ⟨j, want⟩ := g
      rw [hg] at h
      simp only at h
      split at h
      · next b hy =>
        have hyo := ayield_out hT hy (dst_lt hops j)
        by_cases hb : b = want
        · rw [if_pos (by simp [Region.wanted, hg, hyo, hb])]
          exact .inl (run (h.1 hb))
        · rw [if_neg (by simp [Region.wanted, hg, hyo, hb])]
          exact skip (h.2 hb)
      · next hy =>
        have hyo := ayield_out hT hy (dst_lt hops j)
        rw [if_neg (by simp [Region.wanted, hg, hyo])]
        exact skip h
      · exact h.elim
theorem exists_least {p : Nat → Prop} (h : ∃ n, p n) : ∃ n, p n ∧ ∀ m, p m → n ≤ m := by
  obtain ⟨n, hn⟩ := h
  induction n using Nat.strongRecOn with
  | _ n ih =>
    by_cases hl : ∃ m, m < n ∧ p m
    · obtain ⟨m, h1, h2⟩ := hl
      exact ih m h1 h2
    · exact ⟨n, hn, fun m hm => Nat.le_of_not_lt fun h => hl ⟨m, h, hm⟩⟩
end
end Go.Am

namespace Go.Am
open Go.RowKit Go.Cx

theorem countP_less {p : Nat → Bool} {i : Nat} : ∀ (l : List Nat), l.Nodup → i ∈ l → p i = true → l.countP (fun j => p j && !(j == i)) + 1 = l.countP p
  | [], _, h, _ => by cases h
  | x :: l, hn, h, hp => by
    rw [List.nodup_cons] at hn
    by_cases hx : x = i
    · subst hx
      rw [List.countP_cons_of_pos hp, List.countP_cons_of_neg (by simp)]
      congr 1
      refine List.countP_congr fun j hj => ?_
      have : j ≠ x := fun e => hn.1 (e ▸ hj)
      simp [this]
    · have hi : i ∈ l := by
        rcases List.mem_cons.1 h with h | h
        · exact absurd h.symm hx
        · exact h
      have ih := countP_less l hn.2 hi hp
      by_cases hpx : p x = true
      · rw [List.countP_cons_of_pos hpx, List.countP_cons_of_pos (by simp [hpx, hx])]
        omega
      · rw [List.countP_cons_of_neg hpx, List.countP_cons_of_neg (by simp [hpx])]
        exact ih
section
variable {E : Env} {M : Mem} {w : World} {H : Heap}
mutual
theorem nb.mono {n m : Nat} (hnm : n ≤ m) : ∀ {a : AV}, nb n a → nb m a
  | .any, _ => trivial
  | .v _, _ => trivial
  | .mt, _ => trivial
  | .sl sz es, h => by unfold nb at h ⊢; exact nbss.mono hnm h
  | .hs .., h => by unfold nb at h ⊢; omega
  | .os .., h => by unfold nb at h ⊢; omega
  | .ptr .., h => by unfold nb at h ⊢; omega
  | .rp .., h => by unfold nb at h ⊢; omega
  | .cptr cs, h => by unfold nb at h ⊢; exact nbs.mono hnm h
  | .agg cs, h => by unfold nb at h ⊢; exact nbs.mono hnm h
  | .tup vs, h => by unfold nb at h ⊢; exact nbs.mono hnm h
  | .fn _ a b, h => by unfold nb at h ⊢; exact ⟨nbs.mono hnm h.1, nbs.mono hnm h.2⟩
  | .mp .., h => by unfold nb at h ⊢; omega
  | .ifp .., h => by unfold nb at h ⊢; omega
theorem nbs.mono {n m : Nat} (hnm : n ≤ m) : ∀ {l : List AV}, nbs n l → nbs m l
  | [], _ => by unfold nbs; trivial
  | a :: l, h => by unfold nbs at h ⊢; exact ⟨nb.mono hnm h.1, nbs.mono hnm h.2⟩
theorem nbss.mono {n m : Nat} (hnm : n ≤ m) : ∀ {l : List (List AV)}, nbss n l → nbss m l
  | [], _ => by unfold nbss; trivial
  | a :: l, h => by unfold nbss at h ⊢; exact ⟨nbs.mono hnm h.1, nbss.mono hnm h.2⟩
end

theorem buildSlice_zero {P : Program} {t e : TypeId} {sz : Nat} {ps : Array (Nat × Value)} {us' : Array Value} (hu : P.underlying t = some (.slice e)) (hsz : ∀ w, (sizeOf e).run P w = .ok sz w)
    (k1 : Instr.fill (fun i => some (i * sz, sz)) #[] ps.toList = some us') (w : World) {u : Value} {w' : World} (h : (Instr.buildSlice t 0 ps).run P w = .ok u w') : ∃ ao, u = .slice ao 0 0 := by
  unfold Instr.buildSlice at h
  simp only [Sem.run_bind, run_underlying hu, Result.andThen_ok, hsz w, Nat.zero_mul] at h
  simp only [Array.range_zero', List.map_toArray, List.map_nil, if_true, Nat.not_lt_zero, gt_iff_lt, if_false, Sem.run_pure, Result.andThen_ok, Sem.run_bind] at h
  rw [k1] at h
  simp [newRow, newObj, Sem.run] at h
  exact ⟨_, h.1.symm⟩
theorem born_sound {t : TypeId} {len : Nat} {ps : Array (Nat × Operand)} {ty : TypeId} {ρ : Operand → AV} {ε : Operand → Value} {K : AV → Prop} (hG : Gam E.gl M w H) (hev : ∀ x, VR M H.length w (ρ x) (ε x))
    (h : aborn E.P (.buildSlice t len ps) ρ K) : Yields E M w H (Instr.buildSlice t len (ps.map fun (i, x) => (i, ε x))) fun v H' => K v ∧ H' = H := by
  obtain ⟨e, sz, hs, g, z, ht, hpos, hbig, es, hfill, hK⟩ := h
  obtain ⟨hu, hsz, i, zv, hi, hz, his, hzs, hby⟩ := slI_out hs
  obtain ⟨_, _, i2, d, zv2, hi2, hd, hz2, his2, hzs2, hone, rfl, _⟩ := tyI_out ht
  rw [hi] at hi2
  cases hi2
  rw [hz] at hz2
  cases hz2
  have hps : (ps.map fun (i, x) => (i, ε x)).toList = ps.toList.map fun p => (p.1, ε p.2) := by simp
  have hz0 := zeros_out (M := M) (n := H.length) (w := w) (zs := zv.cells) (all_one hone) len
  rw [hzs] at hz0
  obtain ⟨k0, us', k1, k2⟩ := bfill_out hev ps.toList _ ((Array.range (len * sz)).map fun i => zv.cells[i % zv.cells.size]!) es (by rw [hzs]; simpa using hz0) hfill
  have hle : es.length = len := by simpa using k0
  have hnb : nbss H.length es := VRss.nbOf k2
  obtain ⟨u, w', v, M', H', hrun, ⟨rfl, rfl⟩, hG', hv, hE⟩ := buildSlice_sound (K := fun v H' => v = .hs H.length sz 0 len ∧ H' = H ++ [some (.row true sz es)]) hG hev ⟨e, sz, hs, g, _, ht, hpos, hbig, es, hfill, rfl, rfl⟩
  have hG2 := hG'.drop (fun k B hk => BR.nbOf (hG.blks k B hk))
  have hEx : Ext M w H (M'.shut H [some (.row true sz es)]) w' H := ⟨hE.os, hE.tape, hE.output, hE.size, fun b hb => .inl (hE.G b hb), fun b hb => by
      rcases hb with hb | ⟨r, B, q1, q2, q3⟩
      · exact hE.gnew b hb
      · exact shut_hot hG' hE q2 q3, hE.block, Nat.le_refl _, fun r hr => hE.blk r hr, fun r hr => hE.bsz r hr, fun b hb => by
      obtain ⟨k, B, q1, q2, q3⟩ := hb
      exact hE.hot b ⟨k, B, by rw [List.getElem?_append_left (List.getElem?_eq_some_iff.1 q1).1]; exact q1, q2, q3⟩⟩
  by_cases h0 : len = 0
  · subst h0
    rw [if_pos rfl] at hK
    rw [Nat.zero_mul] at k1
    obtain ⟨ao, rfl⟩ := buildSlice_zero (us' := us') hu hsz (by rw [hps]; simp only [Array.range_zero', List.map_toArray, List.map_nil] at k1; exact k1) w hrun
    exact ⟨_, w', .mt, _, H, hrun, ⟨hK, rfl⟩, hG2, by unfold VR; exact ⟨ao, rfl⟩, hEx⟩
  · rw [if_neg h0] at hK
    refine ⟨u, w', .sl sz es, _, H, hrun, ⟨hK, rfl⟩, hG2, ?_, hEx⟩
    have h1 := VR.frz hG' 1 hv
    unfold frz at h1
    rw [if_neg (Nat.lt_irrefl _)] at h1
    simp only [Nat.sub_self, List.getElem?_cons_zero, hle, Nat.zero_add, Nat.le_refl, and_self, if_true, List.drop_zero, maps_frz0] at h1
    rw [List.take_of_length_le (by omega)] at h1
    exact VR.down (by unfold nb; exact hnb) h1
end
/-! ### a row that is born, and not yet told -/
def u8N (n : Int) : Value := .int .u8 n
def Pd (w0 w : World) (M : Mem) (H : Heap) (l : List Int) (u : Value) : Prop :=
  ∃ b cap cur e2 fr, u = .slice (some ⟨b, 0, none⟩) l.length cap ∧ l.length ≤ cap ∧ cap ≤ maxLen ∧ (0 + cap) * 1 ≤ cur.size ∧ w.heap[b]? = some (.cells cur e2 fr) ∧ (fr = (0, 0) ∨ cur.size ≤ fr.1) ∧
    cur.toList.take l.length = l.map u8N ∧ w0.heap.size ≤ b ∧ ¬ M.G b ∧ ¬ Hot M H b
theorem VRss_N {M : Mem} {n : Nat} {w : World} : ∀ {l : List Int} {us : List Value}, VRss M n w 1 (l.map bcN) us → us = l.map u8N
  | [], us, h => by simpa [VRss] using h
  | x :: l, us, h => by
    simp only [List.map_cons, VRss] at h
    obtain ⟨c, r, rfl, hc, h1, h2⟩ := h
    unfold bcN at h1
    simp only [VRs] at h1
    obtain ⟨u, r2, rfl, _, h3, rfl⟩ := h1
    unfold VR at h3
    subst h3
    rw [VRss_N h2]
    rfl
theorem N_VRss {M : Mem} {n : Nat} {w : World} : ∀ (l : List Int), VRss M n w 1 (l.map bcN) (l.map u8N)
  | [] => by simp [VRss]
  | x :: l => by
    simp only [List.map_cons, VRss]
    refine ⟨[u8N x], l.map u8N, rfl, rfl, ?_, N_VRss l⟩
    unfold bcN
    simp only [VRs]
    exact ⟨_, [], rfl, rfl, by unfold VR; rfl, rfl⟩
theorem nbss_N {n : Nat} : ∀ (l : List Int), nbss n (l.map bcN)
  | [] => by simp [nbss]
  | x :: l => by
    simp only [List.map_cons, nbss]
    exact ⟨⟨trivial, trivial⟩, nbss_N l⟩
theorem Pd.keep {w0 w w' : World} {M M' : Mem} {H H' : Heap} {l : List Int} {u : Value} (h : Pd w0 w M H l u) (hE : Ext M w H M' w' H') : Pd w0 w' M' H' l u := by
  obtain ⟨b, cap, cur, e2, fr, h1, h2, h3, h4, h5, h6, h7, h8, h9, h10⟩ := h
  have hlt : b < w.heap.size := (Array.getElem?_eq_some_iff.1 h5).1
  refine ⟨b, cap, cur, e2, fr, h1, h2, h3, h4, (hE.block b hlt h10).trans h5, h6, h7, h8, fun hg => ?_, fun hh => ?_⟩
  · rcases hE.gnew b hg with q | q | q
    · exact h9 q
    · exact h10 q
    · omega
  · rcases hE.hot b hh with q | q
    · exact h10 q
    · omega
section
variable {E : Env} {M : Mem} {w : World} {H : Heap}
theorem Gam.less0 {L : Heap} (hG' : Gam E.gl M w (H ++ L)) (hB : ∀ (k : Nat) (B : Blk), H[k]? = some (some B) → nbB H.length B) : Gam E.gl M w H := by
  have hget : ∀ (k : Nat) (B : Blk), H[k]? = some (some B) → (H ++ L)[k]? = some (some B) := by
    intro k B hk
    rw [List.getElem?_append_left (List.getElem?_eq_some_iff.1 hk).1]
    exact hk
  exact ⟨hG'.glob, hG'.inG, fun k B hk => BR.down (hB k B hk) (hG'.blks k B (hget k B hk)), fun k B b hk hh hb => hG'.sep k B b (hget k B hk) hh hb, fun k k' B B' b hk hk' => hG'.far k k' B B' b (hget k B hk) (hget k' B' hk')⟩
theorem born_pend {w0 : World} {t : TypeId} {len : Nat} {ps : Array (Nat × Operand)} {ρ : Operand → AV} {ε : Operand → Value} {l : List Int} (hG : Gam E.gl M w H) (hev : ∀ x, VR M H.length w (ρ x) (ε x)) (h0 : w0.heap.size ≤ w.heap.size) (hl : 0 < l.length)
    (h : aborn E.P (.buildSlice t len ps) ρ fun v => v = .sl 1 (l.map bcN)) : ∃ u w' M', (Instr.buildSlice t len (ps.map fun (i, x) => (i, ε x))).run E.P w = .ok u w' ∧ Gam E.gl M' w' H ∧ Ext M w H M' w' H ∧ Pd w0 w' M' H l u := by
  obtain ⟨e, sz, hs, g, z, ht, hpos, hbig, es, hfill, hK⟩ := h
  split at hK
  · cases hK
  next hlen =>
  cases hK
  obtain ⟨u, w', v, M', H', hrun, ⟨rfl, rfl⟩, hG', hv, hE⟩ := buildSlice_sound (K := fun v H' => v = .hs H.length 1 0 len ∧ H' = H ++ [some (.row true 1 (l.map bcN))]) hG hev ⟨e, 1, hs, g, _, ht, hpos, hbig, _, hfill, rfl, rfl⟩
  have hB : ∀ (k : Nat) (B : Blk), H[k]? = some (some B) → nbB H.length B := fun k B hk => BR.nbOf (hG.blks k B hk)
  have hG2 := hG'.less0 hB
  have hE2 : Ext M w H M' w' H := ⟨hE.os, hE.tape, hE.output, hE.size, hE.G, hE.gnew, hE.block, Nat.le_refl _, hE.blk, hE.bsz, fun b hb => by
    obtain ⟨k, B, q1, q2, q3⟩ := hb
    exact hE.hot b ⟨k, B, by rw [List.getElem?_append_left (List.getElem?_eq_some_iff.1 q1).1]; exact q1, q2, q3⟩⟩
  refine ⟨u, w', M', hrun, hG2, hE2, ?_⟩
  have hrow : (H ++ [some (Blk.row true 1 (l.map bcN))])[H.length]? = some (some (.row true 1 (l.map bcN))) := by simp
  unfold VR at hv
  obtain ⟨_, ao, cap, rfl, k1, k2, k3, k4⟩ := hv
  rcases hG'.blks _ _ hrow with ⟨q1, q2⟩ | ⟨b, cur, et, fr, us, j1, j2, j3, j4, j5, j6, j7⟩
  · have : l = [] := by simpa using q2
    rw [this] at hl
    simp at hl
  have hus := VRss_N j5
  subst hus
  have hll : len = l.length := by
    obtain ⟨hu, hsz, i, zv, hi, hz, his, hzs, hby⟩ := slI_out hs
    obtain ⟨_, _, i2, d, zv2, hi2, hd, hz2, his2, hzs2, hone, hzz, _⟩ := tyI_out ht
    have hz0 := zeros_out (M := M) (n := H.length) (w := w) (zs := zv2.cells) (all_one hone) len
    rw [hzs2, ← hzz] at hz0
    obtain ⟨k0, _⟩ := bfill_out hev ps.toList _ _ _ (by simpa using hz0) hfill
    simpa using k0.symm
  subst hll
  rcases k4 with ⟨k4, _⟩ | ⟨k4, _⟩ | ⟨b', k5, k6, k7⟩
  · omega
  · omega
  rw [k5] at j1
  cases j1
  subst k6
  have hnh : ¬ Hot M' H b := fun ⟨r, B, q1, q2, q3⟩ => by
    have hlt := (List.getElem?_eq_some_iff.1 q1).1
    exact hG'.far _ r _ B b hrow (by rw [List.getElem?_append_left hlt]; exact q1) rfl (by omega) k5 q3
  have hnew : w.heap.size ≤ b := by
    rcases hE.hot b ⟨_, _, hrow, rfl, k5⟩ with ⟨r, B, q1, q2, q3⟩ | q
    · have hlt := (List.getElem?_eq_some_iff.1 q1).1
      exact absurd ⟨r, B, q1, q2, by rw [hE.blk r hlt]; exact q3⟩ hnh
    · exact q
  exact ⟨b, cap, cur, et, fr, by rw [Nat.zero_mul], k1, k2, by rw [j4]; exact k7, j2, j3, by simpa using j6, Nat.le_trans h0 hnew, hG'.sep _ _ b hrow rfl k5, hnh⟩
theorem conv_pend {M0 : Mem} {w0 : World} {H0 : Heap} {l : List Int} {u : Value} {s t : TypeId} {x : Operand} (hG : Gam E.gl M w H) (hl : 0 < l.length) (hP : Pd w0 w M H l u) (hc : convT E.P (.convert s t x)) (hE0 : Ext M0 w0 H0 M w H) :
    ∃ w' M', (convert s t u).run E.P w = .ok u w' ∧ Gam E.gl M' w' H ∧ VR M' H.length w' (.sl 1 (l.map bcN)) u ∧ (∀ b, M.G b → w'.heap[b]? = w.heap[b]?) ∧ (∀ b, M.G b → M'.G b) ∧ (∀ r, r < H.length → M'.blk r = M.blk r ∧ M'.bsz r = M.bsz r) ∧ Ext M0 w0 H0 M' w' H := by
  obtain ⟨b, cap, cur, e2, fr, rfl, h2, h3, h4, h5, h6, h7, h8, h9, h10⟩ := hP
  unfold convT at hc
  obtain ⟨rfl, hc⟩ := hc
  split at hc
  case h_2 => exact hc.elim
  next e he =>
  obtain ⟨w', fr', m1, m2, m3, m4, m5, m6, m7, m8⟩ := World.marked E.P w s e e2 b 0 l.length cap cur fr he hc h5
  have hfree : ∀ r' B', H[r']? = some (some B') → M.blk r' ≠ some b := fun r B hr hb => by
    cases hh : B.isHot with
    | true => exact h10 ⟨r, B, hr, hh, hb⟩
    | false =>
      cases B with
      | obj cs => cases hh
      | map ks vs st => cases hh
      | iter m bs c seen => cases hh
      | row hot sz es =>
        rcases hG.blks r _ hr with ⟨q1, _⟩ | ⟨b', cur', e', fr', us, j1, j2, j3, j4, j5, j6, j7⟩
        · rw [hb] at q1; cases q1
        · rw [hb] at j1
          cases j1
          exact h9 (j7 hh)
  have hG2 := Gam.rename (b := b) (B := .row true 1 (l.map bcN)) (w1 := w') (s := cur.size) hG h9 hfree ⟨m2, m3.1, m4, m5⟩ m6 (fun M2 a1 a2 a3 a4 =>
    .inr ⟨b, cur, e2, fr', l.map u8N, a3, m7, .inr (m8 h6), a4.symm, N_VRss l, by simpa using h7, fun hh => by cases hh⟩)
  have hB : ∀ (k : Nat) (B : Blk), H[k]? = some (some B) → nbB H.length B := fun k B hk => BR.nbOf (hG.blks k B hk)
  have hG3 := hG2.drop hB
  have hpb : ∀ r, r < H.length → (M.push H.length b cur.size).blk r = M.blk r ∧ (M.push H.length b cur.size).bsz r = M.bsz r := fun r hr => by
    simp only [Mem.push]
    rw [if_neg (by omega), if_neg (by omega)]
    exact ⟨rfl, rfl⟩
  have hGw : ∀ k, M.G k → w'.heap[k]? = w.heap[k]? := fun k hk => m6 k (fun e => h9 (e ▸ hk))
  refine ⟨w', _, m1, hG3, ?_, hGw, fun k hk => .inl hk, hpb, ?_⟩
  · have hv : VR (M.push H.length b cur.size) (H ++ [some (Blk.row true 1 (l.map bcN))]).length w' (.hs H.length 1 0 l.length) (.slice (some ⟨b, 0, none⟩) l.length cap) := by
      unfold VR
      refine ⟨by simp, _, cap, rfl, h2, h3, fun h => (by cases h), .inr (.inr ⟨b, by simp [Mem.push], by rw [Nat.zero_mul], ?_⟩)⟩
      simp only [Mem.push, if_true]
      exact h4
    have q1 := VR.frz hG2 1 hv
    unfold frz at q1
    rw [if_neg (Nat.lt_irrefl _)] at q1
    simp only [Nat.sub_self, List.getElem?_cons_zero, List.length_map, Nat.zero_add, Nat.le_refl, and_self, if_true, List.drop_zero, maps_frz0] at q1
    rw [List.take_of_length_le (by simp)] at q1
    exact VR.down (by unfold nb; exact nbss_N l) q1
  · refine ⟨m2.trans hE0.os, ⟨m3.1.trans hE0.tape.1, Nat.le_trans hE0.tape.2 m3.2⟩, m4.trans hE0.output, by rw [m5]; exact hE0.size, fun k hk => .inl (hE0.G k hk), fun k hk => ?_, fun k hk hn => ?_, hE0.len, fun r hr => ?_, fun r hr => ?_, fun k hk => ?_⟩
    · rcases hk with hk | ⟨r, B, q1, q2, q3⟩
      · exact hE0.gnew k hk
      · have hr2 : r < (H ++ [some (Blk.row true 1 (l.map bcN))]).length := (List.getElem?_eq_some_iff.1 q2).1
        rw [List.length_append, List.length_singleton] at hr2
        have : r = H.length := by omega
        subst this
        simp only [Mem.push, if_true, Option.some.injEq] at q3
        subst q3
        exact .inr (.inr h8)
    · rw [m6 k (fun e => by omega)]
      exact hE0.block k hk hn
    · exact (hpb r (Nat.lt_of_lt_of_le hr hE0.len)).1.trans (hE0.blk r hr)
    · exact (hpb r (Nat.lt_of_lt_of_le hr hE0.len)).2.trans (hE0.bsz r hr)
    · obtain ⟨r, B, q1, q2, q3⟩ := hk
      refine hE0.hot k ⟨r, B, q1, q2, ?_⟩
      rw [← (hpb r (List.getElem?_eq_some_iff.1 q1).1).1]
      exact q3
end
section
variable {E : Env} {ops : Array Oper} {ks : List Kd} {N : Nat} {T v : Nat → AV} {hp : Nat → Heap}

theorem hp_const (hf : ∀ j o, ops[j]? = some o → Fact E ops ks T v hp j o) : ∀ (k a : Nat), a + k ≤ ops.size → (∀ j, a ≤ j → j < a + k → (ks.getD j .q).eff = false) → hp (a + k) = hp a
  | 0, _, _, _ => rfl
  | k + 1, a, hk, h => by
    have hlt : a + k < ops.size := by omega
    rw [← Nat.add_assoc, (hf (a + k) ops[a + k] (by simp [hlt])).1 (h (a + k) (by omega) (by omega))]
    exact hp_const hf k a (by omega) (fun j h1 h2 => h j h1 (by omega))
/-- Blocks are added alone. -/
theorem hp_grow (hf : ∀ j o, ops[j]? = some o → Fact E ops ks T v hp j o) : ∀ (k : Nat), k ≤ ops.size → (∀ j, j < k → (ks.getD j .q).eff = true → (ks.getD j .q).isG = true) → ∃ L, hp k = hp 0 ++ L
  | 0, _, _ => ⟨[], by simp⟩
  | k + 1, hk, h => by
    obtain ⟨L, hL⟩ := hp_grow hf k (by omega) (fun j h1 h2 => h j (by omega) h2)
    obtain ⟨f1, ⟨f2, _⟩, _⟩ := hf k ops[k] (by simp)
    cases hc : (ks.getD k .q).eff with
    | false => exact ⟨L, by rw [f1 hc, hL]⟩
    | true =>
      obtain ⟨L2, hL2⟩ := f2 (h k (by omega) hc)
      exact ⟨L ++ L2, by rw [hL2, hL, List.append_assoc]⟩
theorem hp_same (hf : ∀ j o, ops[j]? = some o → Fact E ops ks T v hp j o) {p i : Nat} (hp1 : p ≤ ops.size) (hi : i ≤ ops.size) (h : ∀ e, e < ops.size → (ks.getD e .q).eff = true → (e < p ↔ e < i)) : hp p = hp i := by
  have key : ∀ a b, a ≤ b → b ≤ ops.size → (∀ e, e < ops.size → (ks.getD e .q).eff = true → (e < a ↔ e < b)) → hp a = hp b := by
    intro a b hab hb hh
    obtain ⟨k, rfl⟩ := Nat.exists_eq_add_of_le hab
    refine (hp_const hf k a hb fun j h1 h2 => ?_).symm
    cases hc : (ks.getD j .q).eff with
    | false => rfl
    | true =>
      have := (hh j (by omega) hc).2 h2
      omega
  rcases Nat.le_total p i with hpi | hpi
  · exact key p i hpi hi h
  · exact (key i p hpi hp1 fun e h1 h2 => (h e h1 h2).symm).symm
theorem Kd.apart_out {k m : Kd} (h : k.apart m = true) : ∃ r, k = .m r ∧ ∃ s, m = .f s ∧ r ∈ s := by
  cases k <;> cases m <;> simp [Kd.apart] at h
  next r s => exact ⟨r, rfl, s, rfl, h⟩
theorem Kd.clash6 {k m : Kd} (h1 : k.eff = true) (h2 : k.apart m = true) : False := by obtain ⟨r, rfl, _⟩ := Kd.apart_out h2; cases h1
theorem Kd.clash7 {k m : Kd} (h1 : k.isL = true) (h2 : k.apart m = true) : False := by obtain ⟨r, rfl, _⟩ := Kd.apart_out h2; cases h1
/-- A block that is left alone between two places. -/
theorem hp_keep (hf : ∀ j o, ops[j]? = some o → Fact E ops ks T v hp j o) {s p i : Nat} (hp1 : p ≤ ops.size) (hi : i ≤ ops.size) (h : ∀ e, e < ops.size → (ks.getD e .q).eff = true → (e < p ↔ e < i) ∨ ∃ t, ks.getD e .q = .f t ∧ s ∈ t) : (hp p)[s]? = (hp i)[s]? := by
  have const : ∀ (k a : Nat), a + k ≤ ops.size → (∀ j, a ≤ j → j < a + k → (ks.getD j .q).eff = true → ∃ t, ks.getD j .q = .f t ∧ s ∈ t) → (hp (a + k))[s]? = (hp a)[s]? := by
    intro k
    induction k with
    | zero => intro a _ _; rfl
    | succ k ih =>
      intro a hk h
      have hlt : a + k < ops.size := by omega
      obtain ⟨f1, ⟨_, f3⟩, _⟩ := hf (a + k) ops[a + k] (by simp [hlt])
      rw [← Nat.add_assoc, ← ih a (by omega) (fun j h1 h2 => h j h1 (by omega))]
      cases hc : (ks.getD (a + k) .q).eff with
      | false => rw [f1 hc]
      | true =>
        obtain ⟨t, h1, h2⟩ := h (a + k) (by omega) (by omega) hc
        exact f3 t h1 s h2
  have key : ∀ a b, a ≤ b → b ≤ ops.size → (∀ e, e < ops.size → (ks.getD e .q).eff = true → (e < a ↔ e < b) ∨ ∃ t, ks.getD e .q = .f t ∧ s ∈ t) → (hp a)[s]? = (hp b)[s]? := by
    intro a b hab hb hh
    obtain ⟨k, rfl⟩ := Nat.exists_eq_add_of_le hab
    refine (const k a hb fun j h1 h2 hc => ?_).symm
    rcases hh j (by omega) hc with h3 | h3
    · have := h3.2 h2
      omega
    · exact h3
  rcases Nat.le_total p i with hpi | hpi
  · exact key p i hpi hi h
  · exact (key i p hpi hp1 fun e h1 h2 => (h e h1 h2).imp Iff.symm id).symm
theorem Kd.clash1 {k : Kd} (h1 : k.eff = true) (h2 : k.isB = true) : False := by cases k <;> simp [Kd.eff, Kd.isB] at h1 h2
theorem Kd.clash2 {k : Kd} (h1 : k.eff = true) (h2 : k.isQ = true) : False := by cases k <;> simp [Kd.eff, Kd.isQ] at h1 h2
theorem Kd.clash3 {k : Kd} (h1 : k.eff = true) (h2 : k.isL = true) : False := by cases k <;> simp [Kd.eff, Kd.isL] at h1 h2
theorem Kd.clash4 {k : Kd} (h1 : k.isL = true) (h2 : k.isB = true) : False := by cases k <;> simp [Kd.isL, Kd.isB] at h1 h2
theorem Kd.clash5 {k : Kd} (h1 : k.isL = true) (h2 : k.isQ = true) : False := by cases k <;> simp [Kd.isL, Kd.isQ] at h1 h2
def ordB (ops : Array Oper) (i j : Nat) : Bool := (((ancs ops.toList []).getD i []).contains j && decide (j < i)) || (((ancs ops.toList []).getD j []).contains i && decide (i < j))
theorem drawOk_out (h : drawOk ops ks = true) : ∀ i o, ops[i]? = some o →
    (∀ j ∈ dirs o, j < i) ∧ ∀ j p, ops[j]? = some p → i ≠ j → (∀ d, p.dst = some d → d ∈ names ops o → ordB ops i j = true) ∧
      ((ks.getD j .q).eff = true → (ks.getD i .q).isB = true ∨ ((ks.getD i .q).isQ = true ∧ still o.op = true) ∨ (ks.getD i .q).apart (ks.getD j .q) = true ∨ ((ks.getD i .q).isL = true ∧ ((ks.getD j .q).isG = true ∨ ((ancs ops.toList []).getD j []).contains i = true)) ∨ ((ks.getD i .q).isL = false ∧ ordB ops i j = true)) := by
  unfold drawOk at h
  simp only [Bool.and_eq_true] at h
  intro i o ho
  have hi : i < ops.size := (Array.getElem?_eq_some_iff.1 ho).1
  have h1 := List.all_eq_true.1 h.2 i (List.mem_range.2 hi)
  rw [ho] at h1
  simp only [Bool.and_eq_true] at h1
  obtain ⟨h2, h3⟩ := h1
  refine ⟨fun j hj => of_decide_eq_true (List.all_eq_true.1 h2 j hj), fun j p hp hij => ?_⟩
  have hj : j < ops.size := (Array.getElem?_eq_some_iff.1 hp).1
  have h4 := List.all_eq_true.1 h3 j (List.mem_range.2 hj)
  rw [hp] at h4
  simp only [Bool.or_eq_true, beq_iff_eq, hij, false_or, Bool.and_eq_true, Bool.not_eq_true'] at h4
  obtain ⟨h5, h6⟩ := h4
  refine ⟨fun d hd hdn => ?_, fun he => ?_⟩
  · rw [hd] at h5
    simp only [Bool.or_eq_true, Bool.not_eq_true'] at h5
    rcases h5 with h5 | h5
    · rw [List.contains_iff_mem.2 hdn] at h5; cases h5
    · unfold ordB
      simpa using h5
  · rcases h6 with ((((h6 | h6) | h6) | hap) | h6) | h6
    · rw [he] at h6; cases h6
    · exact .inl h6
    · exact .inr (.inl h6)
    · exact .inr (.inr (.inl hap))
    · refine .inr (.inr (.inr (.inl ⟨h6.1, ?_⟩)))
      rcases h6.2 with h7 | h7
      · exact .inl h7
      · exact .inr h7.1
    · refine .inr (.inr (.inr (.inr ⟨h6.1, ?_⟩)))
      unfold ordB
      simpa using h6.2
theorem lets_congr {o : Oper} {T1 T2 : Nat → AV} (h : ∀ t ∈ names ops o, T1 t = T2 t) : lets ops o T1 = lets ops o T2 := by
  unfold lets
  cases hg : o.guard with
  | none => rfl
  | some g =>
    obtain ⟨j, b⟩ := g
    simp only
    have : ayield ops T1 j = ayield ops T2 j := by
      unfold ayield
      cases hd : (ops[j]?).bind (·.dst) with
      | none => rfl
      | some d =>
        simp only
        rw [h d (by simp [names, Oper.looksAt, hg, hd])]
    rw [this]
theorem ev_congr {gl : Nat → AV} {o : Oper} {T1 T2 : Nat → AV} (h : ∀ t ∈ names ops o, T1 t = T2 t) : ∀ x ∈ o.op.operands, ev gl T1 x = ev gl T2 x := by
  intro x hx
  cases x with
  | tmp t => exact h t (by
      simp only [names, Oper.looksAt, List.mem_append, List.mem_filterMap]
      exact .inl (.inl ⟨.tmp t, by simpa using hx, rfl⟩))
  | _ => rfl
theorem run_sound {M : Mem} {w : World} {X X' : Heap} {k : Kd} {o : Oper} {a : Act} {x : AV} {next : Act → World → Prop} {Q : Exit → Act → World → Prop} {T : Nat → AV} (hk : k.isP = false) (hG : Gam E.gl M w X) (hT : TR M X.length w N T a) (h : RunAt E k o (ev E.gl T) x X X')
    (hn : ∀ u w' M', Gam E.gl M' w' X' → VR M' X'.length w' x u → Ext M w X M' w' X' → next (a.put o.dst u) w') : o.wp E.P a w next Q := by
  unfold RunAt at h
  split at h
  · obtain ⟨rfl, h⟩ := h
    have hev := ev_out hG hT
    cases ho : o.op with
    | buildSlice t len ps =>
      rw [ho] at h
      refine yields_wp (by unfold execOp; simp only [ho]) (born_sound (ty := 0) hG hev h) ?_
      rintro v u w' M' H' ⟨rfl, rfl⟩ h2 h3 h4
      exact hn u w' M' h2 h3 h4
    | _ => rw [ho] at h; exact h.elim
  · cases hk
  · cases hk
  · refine op_sound hG hT h ?_
    rintro v u w' M' H' ⟨rfl, rfl⟩ h2 h3 h4
    exact hn u w' M' h2 h3 h4
theorem RunAt.congr {k : Kd} {o : Oper} {ρ ρ' : Operand → AV} {x : AV} {X X' : Heap} (h : ∀ y ∈ o.op.operands, ρ y = ρ' y) : RunAt E k o ρ x X X' = RunAt E k o ρ' x X X' := by
  cases k <;> simp only [RunAt] <;> first | rw [aop_congr h] | rw [aborn_congr h]
theorem RunAt.free {k : Kd} {o : Oper} {ρ : Operand → AV} {x : AV} {X X2 : Heap} (hk : k.isB = true ∨ (k.isQ = true ∧ still o.op = true)) (h : RunAt E k o ρ x X X) : RunAt E k o ρ x X2 X2 := by
  cases k with
  | b => exact ⟨rfl, h.2⟩
  | p l => exact ⟨rfl, h.2⟩
  | c j l => exact ⟨rfl, h.2⟩
  | q =>
    rcases hk with hk | ⟨_, hs⟩
    · cases hk
    · exact aop_quiet hs h
  | _ => rcases hk with hk | ⟨hk, _⟩ <;> cases hk
theorem pend_out (h : drawOk ops ks = true) : pendOk ops ks = true := by
  unfold drawOk at h
  simp only [Bool.and_eq_true] at h
  exact h.1.1
theorem pend_p (h : pendOk ops ks = true) {i : Nat} {o : Oper} {l : List Int} (ho : ops[i]? = some o) (hk : ks.getD i .q = .p l) : o.guard = none ∧ 0 < l.length ∧ ∀ j q, ops[j]? = some q → i ≠ j → (∀ l', ks.getD j .q ≠ .p l') ∧ ∀ d, o.dst = some d → q.dst ≠ some d := by
  have hi : i < ops.size := (Array.getElem?_eq_some_iff.1 ho).1
  have h1 := List.all_eq_true.1 h i (List.mem_range.2 hi)
  rw [ho] at h1
  simp only [hk, Bool.and_eq_true, Option.isNone_iff_eq_none, decide_eq_true_eq] at h1
  obtain ⟨⟨h2, h3⟩, h4⟩ := h1
  refine ⟨h2, h3, fun j q hj hij => ?_⟩
  have h5 := List.all_eq_true.1 h4 j (List.mem_range.2 (Array.getElem?_eq_some_iff.1 hj).1)
  rw [hj] at h5
  simp only [Bool.or_eq_true, beq_iff_eq, hij, false_or, Bool.and_eq_true, Bool.not_eq_true'] at h5
  obtain ⟨h6, h7⟩ := h5
  refine ⟨fun l' e => ?_, fun d hd e => ?_⟩
  · rw [e] at h6
    cases h6
  · rw [hd, e] at h7
    simp at h7
theorem pend_c (h : pendOk ops ks = true) {i j : Nat} {o : Oper} {l : List Int} (ho : ops[i]? = some o) (hk : ks.getD i .q = .c j l) : o.guard = none ∧ j < i ∧ j ∈ (ancs ops.toList []).getD i [] ∧ ks.getD j .q = .p l ∧ (∀ k, k < ops.size → k ≠ i → ∀ j' l', ks.getD k .q ≠ .c j' l') ∧
    ∃ q s t d, ops[j]? = some q ∧ q.dst = some d ∧ o.op = .convert s t (.tmp d) := by
  have hi : i < ops.size := (Array.getElem?_eq_some_iff.1 ho).1
  have h1 := List.all_eq_true.1 h i (List.mem_range.2 hi)
  rw [ho] at h1
  simp only [hk, Bool.and_eq_true, Option.isNone_iff_eq_none, decide_eq_true_eq] at h1
  obtain ⟨⟨⟨⟨⟨h2, h3⟩, h4⟩, h5⟩, h6⟩, h7⟩ := h1
  refine ⟨h2, h3, by simpa using h4, ?_, fun k hk2 hki j' l' e => ?_, ?_⟩
  · split at h5
    · next l' hl' =>
      rw [hl']
      simp only [beq_iff_eq] at h5
      rw [h5]
    · cases h5
  · have h8 := List.all_eq_true.1 h6 k (List.mem_range.2 hk2)
    rw [e] at h8
    simp only [Bool.or_eq_true, beq_iff_eq, Bool.not_true, Bool.false_eq_true, or_false] at h8
    exact hki h8.symm
  · split at h7
    · cases h7
    · next q hq =>
      split at h7
      · next s t d d' t' n ps e1 e2 e3 =>
        simp only [Bool.and_eq_true, beq_iff_eq] at h7
        obtain ⟨rfl, _⟩ := h7
        exact ⟨q, _, _, _, hq, e2, e1⟩
      · cases h7
/-- What has been born and not yet been told. -/
def PendI (ops : Array Oper) (ks : List Kd) (w0 : World) (listed : Array Bool) (a : Act) (M : Mem) (w : World) (H : Heap) : Prop :=
  ∀ j o d l, ops[j]? = some o → o.dst = some d → ks.getD j .q = .p l → listed.getD j false = true → (∀ i, i < ops.size → ks.getD i .q = .c j l → listed.getD i false = false) → Pd w0 w M H l (a.tmps.getD d undef)
theorem put_other {a : Act} {d : Tmp} {d2 : Option Tmp} {u : Value} (h : d2 ≠ some d) : (a.put d2 u).tmps.getD d undef = a.tmps.getD d undef := by
  cases d2 with
  | none => rfl
  | some d2 =>
    simp only [Act.put, Array.getD_eq_getD_getElem?, Array.getElem?_setIfInBounds]
    rw [if_neg (fun e => h (by rw [e]))]
theorem run_wp {o : Oper} {a : Act} {m : Sem Value} {u : Value} {w w' : World} {next : Act → World → Prop} {Q : Exit → Act → World → Prop} (he : execOp a.eval o = (do pure (Next.value (← m)))) (hr : m.run E.P w = .ok u w') (hn : next (a.put o.dst u) w') : o.wp E.P a w next Q := by
  unfold Oper.wp
  rw [he, Sem.run_bind, hr]
  exact hn
set_option maxHeartbeats 2000000 in
theorem draw_sound (hdst : (ops.toList.all fun o => dstOk N o.dst) = true) (hok : drawOk ops ks = true) {K : (Nat → AV) → Heap → Prop} {Q : Exit → Act → World → Prop} {M : Mem} {w : World} {H : Heap} {ds : List Deferred} (hp0 : hp 0 = H)
    (hf : ∀ j o, ops[j]? = some o → Fact E ops ks T v hp j o) (hK : K (Tof ops T v (fun j => decide (j < ops.size)) ops.size) (hp ops.size))
    (hQ : ∀ T' H' M' a' w', K T' H' → Gam E.gl M' w' H' → TR M' H'.length w' N T' a' → a'.defers = ds → Ext M w H M' w' H' → Q .normal a' w') :
    ∀ (fuel : Nat) (listed : Array Bool) (a1 : Act) (w1 : World) (M1 : Mem) (p : Nat), listed.size = ops.size → ((List.range ops.size).countP fun j => !(listed.getD j false)) = fuel → p ≤ ops.size → Gam E.gl M1 w1 (hp p) →
      TR M1 (hp p).length w1 N (Tof ops T v (fun j => listed.getD j false) ops.size) a1 → a1.defers = ds → Ext M w H M1 w1 (hp p) → PendI ops ks w listed a1 M1 w1 (hp p) → (∀ e, e < ops.size → (ks.getD e .q).eff = true → (listed.getD e false = true ↔ e < p)) →
      (∀ i o, ops[i]? = some o → listed.getD i false = true → ∀ j ∈ dirs o, listed.getD j false = true) → wpAny E.P .any ops Q fuel listed a1 w1 := by
  have hord := drawOk_out hok
  have hpend := pend_out hok
  -- when all have had their turn
  have fin : ∀ (listed : Array Bool) (a1 : Act) (w1 : World) (M1 : Mem) (p : Nat), listed.size = ops.size → (∀ j, j < ops.size → listed.getD j false = true) → p ≤ ops.size → Gam E.gl M1 w1 (hp p) →
      TR M1 (hp p).length w1 N (Tof ops T v (fun j => listed.getD j false) ops.size) a1 → a1.defers = ds → Ext M w H M1 w1 (hp p) → (∀ e, e < ops.size → (ks.getD e .q).eff = true → (listed.getD e false = true ↔ e < p)) → Q .normal a1 w1 := by
    intro listed a1 w1 M1 p hls hall hpl hG hT hds hE hpe
    have hpp : hp p = hp ops.size := hp_same hf hpl (Nat.le_refl _) fun e he hc => by
      have := (hpe e he hc).1 (hall e he)
      omega
    rw [hpp] at hG hT hE
    rw [Tof_eq (v2 := v) (S2 := fun j => decide (j < ops.size)) ops.size (fun j hj => ⟨by show listed.getD j false = decide (j < ops.size); rw [hall j hj]; simp [hj], rfl⟩)] at hT
    exact hQ _ _ M1 a1 w1 hK hG hT hds hE
  have unl : ∀ (listed : Array Bool), listed.size = ops.size → (∀ j, j < ops.size → listed.getD j false = true) ∨ ∃ j, j < ops.size ∧ listed.getD j false = false ∧ ∀ k, k < j → listed.getD k false = true := by
    intro listed hls
    by_cases h : ∃ j, j < ops.size ∧ listed.getD j false = false
    · obtain ⟨j, ⟨h1, h2⟩, h3⟩ := exists_least h
      refine .inr ⟨j, h1, h2, fun k hk => ?_⟩
      cases hc : listed.getD k false with
      | true => rfl
      | false => have := h3 k ⟨by omega, hc⟩; omega
    · refine .inl fun j hj => ?_
      cases hc : listed.getD j false with
      | true => rfl
      | false => exact absurd ⟨j, hj, hc⟩ h
  have noready : ∀ (listed : Array Bool), listed.size = ops.size → Region.ready .any ops listed = [] → ∀ j, j < ops.size → listed.getD j false = true := by
    intro listed hls hr
    rcases unl listed hls with h | ⟨j, h1, h2, h3⟩
    · exact h
    · exfalso
      have : j ∈ Region.ready .any ops listed := by
        rw [mem_ready]
        refine ⟨?_, ops[j], by simp [h1], fun e he hb => h3 _ ?_⟩
        · have hjl : j < listed.size := by omega
          simp only [Array.getD_eq_getD_getElem?, Array.getElem?_eq_getElem hjl, Option.getD_some] at h2 ⊢
          exact h2
        · refine (hord j ops[j] (by simp [h1])).1 e.on ?_
          unfold dirs
          exact List.mem_map.2 ⟨e, List.mem_filter.2 ⟨by simpa using he, hb⟩, rfl⟩
      rw [hr] at this
      cases this
  intro fuel
  induction fuel with
  | zero =>
    intro listed a1 w1 M1 p hls hcnt hpl hG hT hds hE hPI hpe hshut
    have hall : ∀ j, j < ops.size → listed.getD j false = true := by
      intro j hj
      have := List.countP_eq_zero.1 hcnt j (List.mem_range.2 hj)
      simpa using this
    refine ⟨?_, fin listed a1 w1 M1 p hls hall hpl hG hT hds hE hpe⟩
    cases hr : Region.ready .any ops listed with
    | nil => rfl
    | cons i l =>
      have hi : i ∈ Region.ready .any ops listed := by rw [hr]; simp
      rw [mem_ready] at hi
      obtain ⟨h1, o, ho, _⟩ := hi
      have hil : i < ops.size := (Array.getElem?_eq_some_iff.1 ho).1
      have hjl : i < listed.size := by omega
      have h2 := hall i hil
      simp only [Array.getD_eq_getD_getElem?, Array.getElem?_eq_getElem hjl, Option.getD_some] at h1 h2
      rw [h1] at h2
      cases h2
  | succ fuel ih =>
    intro listed a1 w1 M1 p hls hcnt hpl hG hT hds hE hPI hpe hshut
    refine ⟨fun hr => fin listed a1 w1 M1 p hls (noready listed hls hr) hpl hG hT hds hE hpe, fun i hi => ?_⟩
    rw [mem_ready] at hi
    obtain ⟨hun, o, ho, hdeps⟩ := hi
    have hil : i < ops.size := (Array.getElem?_eq_some_iff.1 ho).1
    have hill : i < listed.size := by omega
    have hSi : listed.getD i false = false := by
      simp only [Array.getD_eq_getD_getElem?, Array.getElem?_eq_getElem hill, Option.getD_some] at hun ⊢
      exact hun
    obtain ⟨hdl, hpair⟩ := hord i o ho
    have hS' : ∀ j, (listed.setIfInBounds i true).getD j false = if j = i then true else listed.getD j false := by
      intro j
      simp only [Array.getD_eq_getD_getElem?, Array.getElem?_setIfInBounds]
      by_cases hj : i = j
      · subst hj; simp [hill]
      · rw [if_neg hj, if_neg (fun e => hj e.symm)]
    have hshut' : ∀ k q, ops[k]? = some q → (listed.setIfInBounds i true).getD k false = true → ∀ j ∈ dirs q, (listed.setIfInBounds i true).getD j false = true := by
      intro k q hk hkS j hj
      rw [hS'] at hkS ⊢
      by_cases hji : j = i
      · rw [if_pos hji]
      · rw [if_neg hji]
        by_cases hki : k = i
        · subst hki
          rw [ho] at hk
          cases hk
          unfold dirs at hj
          obtain ⟨e, he, rfl⟩ := List.mem_map.1 hj
          obtain ⟨he1, he2⟩ := List.mem_filter.1 he
          exact hdeps e (by simpa using he1) he2
        · rw [if_neg hki] at hkS
          exact hshut k q hk hkS j hj
    have anc1 := ancs_shut (S := fun j => listed.getD j false) hshut ops.toList [] rfl (by simp)
    have anc2 := ancs_shut (S := fun j => (listed.setIfInBounds i true).getD j false) hshut' ops.toList [] rfl (by simp)
    -- an operation that is ordered with this one has had its turn just if it stands ahead of it
    have hoS : ∀ j, i ≠ j → ordB ops i j = true → listed.getD j false = decide (j < i) := by
      intro j hij h
      unfold ordB at h
      simp only [Bool.or_eq_true, Bool.and_eq_true, decide_eq_true_eq, List.contains_iff_mem] at h
      rcases h with ⟨h1, h2⟩ | ⟨h1, h2⟩
      · have h3 : (listed.setIfInBounds i true).getD j false = true := anc2 i (by show (listed.setIfInBounds i true).getD i false = true; rw [hS', if_pos rfl]) j h1
        rw [hS', if_neg (fun e => hij e.symm)] at h3
        have this := h3
        rw [this]
        simp [h2]
      · have : ¬ j < i := by omega
        simp only [this, decide_false]
        cases hc : listed.getD j false with
        | false => rfl
        | true =>
          have this : listed.getD i false = true := anc1 j hc i h1
          rw [hSi] at this
          cases this
    have hTn : ∀ t ∈ names ops o, Tof ops T v (fun j => listed.getD j false) ops.size t = Tof ops T v (fun q => decide (q < i)) i t := by
      intro t ht
      rw [← Tof_stop ops.size (Nat.le_of_lt hil)]
      refine Tof_agree ops.size fun j hj hd => ?_
      by_cases hji : i = j
      · subst hji
        simp [hSi]
      · obtain ⟨q, hq, hqd⟩ := Option.bind_eq_some_iff.1 hd
        exact hoS j hji ((hpair j q hq hji).1 t hqd ht)
    obtain ⟨heff, _, r, hlets, hrun, hskip⟩ := hf i o ho
    rw [← lets_congr hTn] at hlets
    have hdo : dstOk N o.dst = true := List.all_eq_true.1 hdst o (by
      have := Array.mem_of_getElem? ho
      simpa using this)
    have hcnt' : ((List.range ops.size).countP fun j => !((listed.setIfInBounds i true).getD j false)) = fuel := by
      have h1 := countP_less (p := fun j => !(listed.getD j false)) (i := i) (List.range ops.size) List.nodup_range (List.mem_range.2 hil) (by simp [hSi])
      rw [hcnt] at h1
      have h2 : ((List.range ops.size).countP fun j => !((listed.setIfInBounds i true).getD j false)) = (List.range ops.size).countP fun j => !(listed.getD j false) && !(j == i) := by
        refine List.countP_congr fun j _ => ?_
        rw [hS']
        by_cases hji : j = i
        · simp [hji]
        · simp [hji]
      omega
    -- the slots behind
    have hTput : Tof ops T v (fun j => (listed.setIfInBounds i true).getD j false) ops.size = aput (Tof ops T v (fun j => listed.getD j false) ops.size) o.dst (v i) := by
      funext t
      rw [aput_at]
      by_cases hd : o.dst = some t
      · rw [if_pos hd]
        have h1 : Tof ops T v (fun j => (listed.setIfInBounds i true).getD j false) ops.size t = Tof ops T v (fun j => decide (j < i + 1)) ops.size t := by
          refine Tof_agree ops.size fun j hj hjd => ?_
          show (listed.setIfInBounds i true).getD j false = decide (j < i + 1)
          rw [hS']
          by_cases hji : j = i
          · subst hji; simp
          · rw [if_neg hji]
            obtain ⟨q, hq, hqd⟩ := Option.bind_eq_some_iff.1 hjd
            rw [hoS j (fun e => hji e.symm) ((hpair j q hq (fun e => hji e.symm)).1 t hqd (by simp [names, hd]))]
            simp only [decide_eq_decide]
            omega
        rw [h1, Tof_stop ops.size (by omega)]
        unfold Tof
        simp only [Nat.lt_succ_self, decide_true, if_true, ho, Option.bind_some]
        rw [aput_at, if_pos hd]
      · rw [if_neg hd]
        refine Tof_agree ops.size fun j hj hjd => ?_
        show (listed.setIfInBounds i true).getD j false = listed.getD j false
        rw [hS']
        by_cases hji : j = i
        · subst hji
          rw [ho] at hjd
          exact absurd hjd hd
        · rw [if_neg hji]
    -- where the memory stands
    have hpS : ∀ (p' : Nat), p' = (if (ks.getD i .q).eff = true then i + 1 else p) → (∀ e, e < ops.size → (ks.getD e .q).eff = true → ((listed.setIfInBounds i true).getD e false = true ↔ e < p')) ∧ p' ≤ ops.size := by
      rintro p' rfl
      refine ⟨fun e he hce => ?_, ?_⟩
      · rw [hS']
        by_cases hci : (ks.getD i .q).eff = true
        · rw [if_pos hci]
          by_cases hei : e = i
          · subst hei; simp
          · rw [if_neg hei]
            have hq := (hpair e ops[e] (by simp [he]) (fun x => hei x.symm)).2 hce
            have ho1 : ordB ops i e = true := by
              rcases hq with h1 | ⟨h1, _⟩ | h1 | ⟨h1, _⟩ | ⟨_, h1⟩
              · exact (Kd.clash1 hci h1).elim
              · exact (Kd.clash2 hci h1).elim
              · exact (Kd.clash6 hci h1).elim
              · exact (Kd.clash3 hci h1).elim
              · exact h1
            rw [hoS e (fun x => hei x.symm) ho1]
            simp only [decide_eq_true_eq]
            omega
        · rw [if_neg hci]
          by_cases hei : e = i
          · subst hei; exact absurd hce hci
          · rw [if_neg hei]
            exact hpe e he hce
      · split <;> omega
    obtain ⟨hpe', hpl'⟩ := hpS _ rfl
    -- ordered with all that write: it finds the memory of its place
    have hsame : (∀ e, e < ops.size → (ks.getD e .q).eff = true → e ≠ i → ordB ops i e = true) → hp p = hp i := fun hall => hp_same hf hpl (Nat.le_of_lt hil) fun e he hce => by
      by_cases hei : e = i
      · subst hei
        have := hpe e he hce
        rw [hSi] at this
        simp at this
        omega
      · rw [← hpe e he hce, hoS e (fun x => hei x.symm) (hall e he hce hei)]
        simp
    -- what it does, where it is now
    have now : r = true → RunAt E (ks.getD i .q) o (ev E.gl (Tof ops T v (fun q => decide (q < i)) i)) (v i) (hp p) (hp (if (ks.getD i .q).eff = true then i + 1 else p)) := by
      intro hr
      obtain ⟨hm, h1⟩ := hrun hr
      by_cases hl : (ks.getD i .q).isL = true
      · rw [if_pos hl] at h1
        have hne : (ks.getD i .q).eff = false := by revert hl; generalize ks.getD i .q = k; intro hl; cases k <;> first | rfl | cases hl
        rw [if_neg (by rw [hne]; simp)]
        obtain ⟨L, hL⟩ := hp_grow hf p hpl fun e hep hce => by
          have he : e < ops.size := by omega
          have hei : e ≠ i := fun x => by rw [x, hne] at hce; cases hce
          have hSe := (hpe e he hce).2 hep
          rcases (hpair e ops[e] (by simp [he]) (fun x => hei x.symm)).2 hce with h2 | ⟨h2, _⟩ | h2 | ⟨_, h2⟩ | ⟨h2, _⟩
          · exact (Kd.clash4 hl h2).elim
          · exact (Kd.clash5 hl h2).elim
          · exact (Kd.clash7 hl h2).elim
          · rcases h2 with h2 | h2
            · exact h2
            · have : listed.getD i false = true := anc1 e hSe i (by simpa using h2)
              rw [hSi] at this
              cases this
          · rw [hl] at h2; cases h2
        rw [hL]
        exact h1 L
      · rw [if_neg hl] at h1
        by_cases hfree : (ks.getD i .q).isB = true ∨ ((ks.getD i .q).isQ = true ∧ still o.op = true)
        · have hne : (ks.getD i .q).eff = false := by revert hfree; generalize ks.getD i .q = k; intro hl; cases k <;> first | rfl | simp [Kd.isB, Kd.isQ] at hl
          rw [if_neg (by rw [hne]; simp)]
          rw [heff hne] at h1
          exact h1.free hfree
        · by_cases hM : ∃ s, ks.getD i .q = .m s
          · obtain ⟨s, hM⟩ := hM
            have hne : (ks.getD i .q).eff = false := by rw [hM]; rfl
            have hB : (ks.getD i .q).isB = false := by rw [hM]; rfl
            rw [if_neg (by rw [hne]; simp)]
            rw [heff hne] at h1
            rw [hM] at h1 ⊢
            refine aop_load (hm s hM) (hp_keep hf hpl (Nat.le_of_lt hil) fun e he hce => ?_) h1
            by_cases hei : e = i
            · subst hei
              rw [hne] at hce; cases hce
            · rcases (hpair e ops[e] (by simp [he]) (fun x => hei x.symm)).2 hce with h2 | h2 | h2 | ⟨h2, _⟩ | ⟨_, h2⟩
              · exact absurd (.inl h2) hfree
              · exact absurd (.inr h2) hfree
              · obtain ⟨r2, h3, t, h4, h5⟩ := Kd.apart_out h2
                rw [hM] at h3
                cases h3
                exact .inr ⟨t, h4, h5⟩
              · exact absurd h2 hl
              · refine .inl ?_
                rw [← hpe e he hce, hoS e (fun x => hei x.symm) h2]
                simp
          have hs := hsame fun e he hce hei => by
            rcases (hpair e ops[e] (by simp [he]) (fun x => hei x.symm)).2 hce with h2 | h2 | h2 | ⟨h2, _⟩ | ⟨_, h2⟩
            · exact absurd (.inl h2) hfree
            · exact absurd (.inr h2) hfree
            · obtain ⟨r2, h3, _⟩ := Kd.apart_out h2
              exact absurd ⟨r2, h3⟩ hM
            · exact absurd h2 hl
            · exact h2
          cases hc : (ks.getD i .q).eff with
          | true => rw [if_pos rfl, hs]; exact h1
          | false =>
            rw [if_neg (by simp), hs]
            rw [heff hc] at h1
            exact h1
    have nowF : r = false → hp (if (ks.getD i .q).eff = true then i + 1 else p) = hp p := by
      intro hr
      split
      · next hc =>
        rw [(hskip hr).2]
        refine (hsame fun e he hce hei => ?_).symm
        rcases (hpair e ops[e] (by simp [he]) (fun x => hei x.symm)).2 hce with h1 | ⟨h1, _⟩ | h1 | ⟨h1, _⟩ | ⟨_, h1⟩
        · exact (Kd.clash1 hc h1).elim
        · exact (Kd.clash2 hc h1).elim
        · exact (Kd.clash6 hc h1).elim
        · exact (Kd.clash3 hc h1).elim
        · exact h1
      · rfl
    -- the next state
    have nextG : ∀ (u : Value) (w' : World) (M' : Mem), Gam E.gl M' w' (hp (if (ks.getD i .q).eff = true then i + 1 else p)) → VR M' (hp (if (ks.getD i .q).eff = true then i + 1 else p)).length w' (v i) u →
        TR M' (hp (if (ks.getD i .q).eff = true then i + 1 else p)).length w' N (Tof ops T v (fun j => listed.getD j false) ops.size) a1 → Ext M w H M' w' (hp (if (ks.getD i .q).eff = true then i + 1 else p)) →
        PendI ops ks w (listed.setIfInBounds i true) (a1.put o.dst u) M' w' (hp (if (ks.getD i .q).eff = true then i + 1 else p)) → wpAny E.P .any ops Q fuel (listed.setIfInBounds i true) (a1.put o.dst u) w' := by
      intro u w' M' k1 k2 k3 k4 k5
      refine ih (listed.setIfInBounds i true) _ w' M' _ (by simp [hls]) hcnt' hpl' k1 ?_ ((put_defers a1 _ _).trans hds) k4 k5 hpe' hshut'
      rw [hTput]
      exact k3.put hdo k2
    have keepP : ∀ (u : Value) (w' : World) (M' : Mem) (H' : Heap), Ext M1 w1 (hp p) M' w' H' → (∀ l, ks.getD i .q ≠ .p l) → PendI ops ks w (listed.setIfInBounds i true) (a1.put o.dst u) M' w' H' := by
      intro u w' M' H' k3 hnp j oj d l hj hd hk hlj hc
      have hji : j ≠ i := fun e => hnp l (e ▸ hk)
      rw [hS', if_neg hji] at hlj
      have h1 := hPI j oj d l hj hd hk hlj (fun i' hi2 hi' => by
        have h2 := hc i' hi2 hi'
        rw [hS'] at h2
        split at h2
        · cases h2
        · exact h2)
      rw [put_other (((pend_p hpend hj hk).2.2 i o ho hji).2 d hd)]
      exact h1.keep k3
    have next : (ks.getD i .q).isP = false → ∀ (u : Value) (w' : World) (M' : Mem), Gam E.gl M' w' (hp (if (ks.getD i .q).eff = true then i + 1 else p)) → VR M' (hp (if (ks.getD i .q).eff = true then i + 1 else p)).length w' (v i) u →
        Ext M1 w1 (hp p) M' w' (hp (if (ks.getD i .q).eff = true then i + 1 else p)) → wpAny E.P .any ops Q fuel (listed.setIfInBounds i true) (a1.put o.dst u) w' := by
      intro hnp u w' M' k1 k2 k3
      exact nextG u w' M' k1 k2 (hT.ext k3 hG) (hE.trans k3) (keepP u w' M' _ k3 fun l e => by rw [e] at hnp; cases hnp)
    unfold wpOp
    simp only [ho]
    have wantedIff : ∀ b, r = b → Region.wanted o (yielded ops a1.tmps) = b := by
      intro b hb
      subst hb
      unfold lets at hlets
      cases hg : o.guard with
      | none =>
        rw [hg] at hlets
        simp only [Option.some.injEq] at hlets
        simp [Region.wanted, hg, ← hlets]
      | some g =>
        obtain ⟨j, want⟩ := g
        rw [hg] at hlets
        simp only at hlets
        split at hlets
        · next b' hy =>
          have hyo := ayield_out hT hy (dst_lt hdst j)
          simp only [Option.some.injEq] at hlets
          simp only [Region.wanted, hg, hyo, ← hlets]
          cases b' <;> cases want <;> rfl
        · next hy =>
          have hyo := ayield_out hT hy (dst_lt hdst j)
          simp only [Option.some.injEq] at hlets
          simp only [Region.wanted, hg, hyo, ← hlets]
          rfl
        · cases hlets
    have wanted1 : o.guard = none → r = true := by
      intro hg
      unfold lets at hlets
      rw [hg] at hlets
      simpa using hlets.symm
    cases hr : r with
    | true =>
      rw [if_pos (wantedIff true hr)]
      refine .inl ?_
      have h1 := now hr
      rw [← RunAt.congr (ev_congr (gl := E.gl) hTn)] at h1
      cases hP : (ks.getD i .q).isP with
      | false => exact run_sound hP hG hT h1 (next hP)
      | true =>
        cases hk : ks.getD i .q with
        | p l =>
          rw [hk] at h1 nextG
          simp only [Kd.eff, Bool.false_eq_true, if_false] at h1 nextG
          obtain ⟨_, hva, hb⟩ := h1
          cases hop : o.op with
          | buildSlice t len ps =>
            rw [hop] at hb
            obtain ⟨u, w', M', g1, g2, g3, g4⟩ := born_pend (w0 := w) hG (ev_out hG hT) hE.size (pend_p hpend ho hk).2.1 hb
            refine run_wp (u := u) (w' := w') (m := Instr.buildSlice t len (ps.map fun (i, x) => (i, a1.eval x))) (by unfold execOp; simp only [hop]) g1 ?_
            refine nextG u w' M' g2 (by rw [hva]; unfold VR; trivial) (hT.ext g3 hG) (hE.trans g3) ?_
            intro j oj d l2 hj hd hk2 hlj hc
            by_cases hji : j = i
            · subst hji
              rw [ho] at hj
              cases hj
              rw [hk] at hk2
              cases hk2
              have hdl : d < a1.tmps.size := by
                rw [hT.1]
                rw [hd] at hdo
                exact of_decide_eq_true hdo
              have : (a1.put o.dst u).tmps.getD d undef = u := by
                rw [hd]
                simp [Act.put, Array.getD_eq_getD_getElem?, hdl]
              rw [this]
              exact g4
            · exact absurd hk2 (((pend_p hpend ho hk).2.2 j oj hj (fun e => hji e.symm)).1 l2)
          | _ => rw [hop] at hb; exact hb.elim
        | c j l =>
          rw [hk] at h1 nextG
          simp only [Kd.eff, Bool.false_eq_true, if_false] at h1 nextG
          obtain ⟨_, hva, hcT⟩ := h1
          obtain ⟨_, hji, hja, hkj, huniq, q, s, t, d, hq, hqd, hop⟩ := pend_c hpend ho hk
          have hlj : listed.getD j false = true := by
            have h3 : (listed.setIfInBounds i true).getD j false = true := anc2 i (by show (listed.setIfInBounds i true).getD i false = true; rw [hS', if_pos rfl]) j hja
            rw [hS', if_neg (by omega)] at h3
            exact h3
          have hPd := hPI j q d l hq hqd hkj hlj (fun i' hi2 hi' => by
            by_cases hii : i' = i
            · rw [hii]; exact hSi
            · exact absurd hi' (huniq i' hi2 hii j l))
          rw [hop] at hcT
          obtain ⟨w', M', g1, g2, g3, g4, g5, g6, g7⟩ := conv_pend hG (pend_p hpend hq hkj).2.1 hPd hcT hE
          refine run_wp (u := a1.tmps.getD d undef) (w' := w') (m := convert s t (a1.eval (.tmp d))) (by unfold execOp; simp only [hop]) g1 ?_
          refine nextG _ w' M' g2 (by rw [hva]; exact g3) (hT.mono g5 g4 (Nat.le_refl _) g6) g7 ?_
          intro j2 oj d2 l2 hj hd hk2 hlj2 hc
          exfalso
          have hjj : j2 = j := by
            refine Classical.byContradiction fun hne => ?_
            exact ((pend_p hpend hq hkj).2.2 j2 oj hj (fun e => hne e.symm)).1 l2 hk2
          subst hjj
          rw [hkj] at hk2
          cases hk2
          have h3 := hc i hil hk
          rw [hS', if_pos rfl] at h3
          cases h3
        | _ => rw [hk] at hP; cases hP
    | false =>
      rw [if_neg (by rw [wantedIff false hr]; simp)]
      have hnp : (ks.getD i .q).isP = false := by
        cases hk : ks.getD i .q with
        | p l => exact absurd (wanted1 (pend_p hpend ho hk).1) (by rw [hr]; simp)
        | c j l => exact absurd (wanted1 (pend_c hpend ho hk).1) (by rw [hr]; simp)
        | _ => rfl
      have k1 := (hskip hr).1
      have k2 := nowF hr
      have h3 := next hnp undef w1 M1
      rw [k2, k1] at h3
      exact h3 hG (by unfold VR; rfl) (Ext.refl _ _ _)
/-- A statement whose order Go leaves open. -/
theorem draw_wp {E : Env} {T : Nat → AV} {H : Heap} {Q : Exit → (Nat → AV) → Heap → Prop} {i : Nat} {ops : Array Oper} {ks : List Kd} (hm : E.P.follows .mixedOrders = true) {N : Nat} (hdst : (ops.toList.all fun o => dstOk N o.dst) = true)
    (hok : drawOk ops ks = true) (h : adraw E ops H ops.toList ks T H fun T' H' => Q .normal T' H') {M : Mem} {w : World} {a : Act} (hG : Gam E.gl M w H) (hT : TR M H.length w N T a) : (Code.region i ops true).wp E.P (Lift E M w H N a.defers Q) a w := by
  obtain ⟨v, hp, _, h2, h3, h4⟩ := adraw_out (T := T) (ks := ks) ops.toList 0 (fun _ => .any) (fun _ => H) (Nat.zero_le _) rfl rfl (by simpa [Tof] using h)
  have hp0 : hp 0 = H := h2 0 (Nat.le_refl _)
  have hf : ∀ j o, ops[j]? = some o → Fact E ops ks T v hp j o := fun j o ho => h4 j o (Nat.zero_le _) ho
  have hz : ∀ j, (Array.replicate ops.size false).getD j false = false := by
    intro j
    rw [Array.getD_eq_getD_getElem?, Array.getElem?_replicate]
    split <;> rfl
  have hcnt : ((List.range ops.size).countP fun j => !((Array.replicate ops.size false).getD j false)) = ops.size := by
    have : ((List.range ops.size).countP fun j => !((Array.replicate ops.size false).getD j false)) = (List.range ops.size).length := List.countP_eq_length.2 fun j _ => by rw [hz]; rfl
    rw [this, List.length_range]
  have hT0 : Tof ops T v (fun j => (Array.replicate ops.size false).getD j false) ops.size = T := by
    have : ∀ m, Tof ops T v (fun j => (Array.replicate ops.size false).getD j false) m = T := by
      intro m
      induction m with
      | zero => rfl
      | succ m ih =>
        unfold Tof
        rw [hz m]
        exact ih
    exact this _
  refine wp_region_any hm (draw_sound (Q := Lift E M w H N a.defers Q) (M := M) (w := w) (H := H) (ds := a.defers) hdst hok hp0 hf h3 (fun T' H' M' a' w' k1 k2 k3 k4 k5 => ⟨T', H', M', k1, k2, k3, k4, k5⟩) ops.size _ a _ M 0 (by simp) hcnt (Nat.zero_le _) ?_ ?_ rfl ?_ (fun j o d l _ _ _ hj => by rw [hz] at hj; cases hj) (fun e _ _ => by rw [hz]; simp) (fun j o _ hj => by rw [hz] at hj; cases hj))
  · rw [hp0]
    exact ⟨fun g => VR.mono (M := M) (M' := M) (n := 0) (w := w) (w' := w.drew) (fun _ h => h) (fun _ _ => rfl) (Nat.le_refl _) (fun _ _ => ⟨rfl, rfl⟩) (hG.glob g), hG.inG, fun r B hr => BR.mono (M := M) (M' := M) (n := H.length) (w := w) (w' := w.drew) (r := r) (fun _ h => h) (fun _ _ => rfl) (Nat.le_refl _) (fun _ _ => ⟨rfl, rfl⟩) rfl rfl (fun _ _ => rfl) (hG.blks r B hr), hG.sep, hG.far⟩
  · rw [hp0, hT0]
    exact TR.mono (M := M) (M' := M) (n := H.length) (w := w) (w' := w.drew) (fun _ h => h) (fun _ _ => rfl) (Nat.le_refl _) (fun _ _ => ⟨rfl, rfl⟩) hT
  · rw [hp0]
    exact ⟨rfl, ⟨rfl, Nat.le_succ _⟩, rfl, Nat.le_refl _, fun _ h => h, fun _ h => .inl h, fun _ _ _ => rfl, Nat.le_refl _, fun _ _ => rfl, fun _ _ => rfl, fun _ h => .inl h⟩
end
end Go.Am

namespace Go.Am
open Go.RowKit Go.Cx

section
variable {E : Env} {M : Mem} {w : World} {H : Heap} {N : Nat} {T : Nat → AV} {a : Act}

theorem awp_sound {n : Nat} : ∀ (c : Code), codeOk N c = true → ∀ (Q : Exit → (Nat → AV) → Heap → Prop) (a : Act) (w : World) (T : Nat → AV) (H : Heap) (M : Mem), n ≤ H.length → Gam E.gl M w H → TR M H.length w N T a →
    awp E n c Q T H → c.wp E.P (LiftB E n M w H N a.defers Q) a w
  | .skip, _, Q, a, w, T, H, M, hn, hG, hT, h => wp_skip ⟨T, H, M, h, hG, hT, rfl, .refl hn⟩
  | .label _, _, Q, a, w, T, H, M, hn, hG, hT, h => wp_label ⟨T, H, M, h, hG, hT, rfl, .refl hn⟩
  | .exit id, _, Q, a, w, T, H, M, hn, hG, hT, h => wp_exit ⟨T, H, M, h, hG, hT, rfl, .refl hn⟩
  | .ret, _, Q, a, w, T, H, M, hn, hG, hT, h => wp_ret ⟨T, H, M, h, hG, hT, rfl, .refl hn⟩
  | .seq x y, hc, Q, a, w, T, H, M, hn, hG, hT, h => by
    simp only [codeOk, Bool.and_eq_true] at hc
    refine wp_seq (wp_mono (awp_sound x hc.1 _ a w T H M hn hG hT h) ?_)
    rintro e a' w' ⟨T', H', M', h1, h2, h3, h4, h5⟩
    cases e with
    | normal =>
      obtain ⟨T2, H2, hq, h1⟩ := h1
      obtain ⟨hn2, hq⟩ := hq h5.len
      obtain ⟨M2, g2, g3, g5⟩ := hq M' w' N a' h2 h3
      refine wp_mono (awp_sound y hc.2 Q a' w' T2 H2 M2 hn2 g2 g3 h1) ?_
      rintro e2 a2 w2 ⟨T2, H2, M2, k1, k2, k3, k4, k5⟩
      exact ⟨T2, H2, M2, k1, k2, k3, k4.trans h4, (h5.trans g5).trans k5⟩
    | _ => exact ⟨T', H', M', h1, h2, h3, h4, h5⟩
  | .cond c x y, hc, Q, a, w, T, H, M, hn, hG, hT, h => by
    simp only [codeOk, Bool.and_eq_true] at hc
    obtain ⟨t, h1, h2, h3⟩ := h
    have hv := ev_out hG hT c
    rw [h1] at hv
    unfold VR at hv
    exact wp_cond_split hv (fun ht => awp_sound x hc.1 Q a w T H M hn hG hT (h2 ht)) (fun ht => awp_sound y hc.2 Q a w T H M hn hG hT (h3 ht))
  | .block id c, hc, Q, a, w, T, H, M, hn, hG, hT, h => by
    refine wp_block (wp_mono (awp_sound c hc _ a w T H M hn hG hT h) ?_)
    rintro e a' w' ⟨T', H', M', h1, h2⟩
    cases e with
    | exit i =>
      simp only [ablock] at h1
      simp only [Exit.inBlock]
      split
      · next hi => rw [if_pos hi] at h1; exact ⟨T', H', M', h1, h2⟩
      · next hi => rw [if_neg hi] at h1; exact ⟨T', H', M', h1, h2⟩
    | _ => exact ⟨T', H', M', h1, h2⟩
  | .scope c, hc, Q, a, w, T, H, M, hn, hG, hT, h => by
    refine wp_scope_straight (wp_mono (awp_sound c hc _ a w T H M hn hG hT h) ?_)
    rintro e a' w' ⟨T', H', M', h1, h2⟩
    cases e with
    | goto l => exact h1.elim
    | _ => exact ⟨T', H', M', h1, h2⟩
  | .loop c, hc, Q, a, w, T, H, M, hn, hG, hT, h => by
    obtain ⟨I, ⟨k0, T0, H0, hq, hI⟩, hround⟩ := h
    let R : Nat → Act → World → Prop := fun k a1 w1 => ∃ T1 H1 M1, I k T1 H1 ∧ Gam E.gl M1 w1 H1 ∧ TR M1 H1.length w1 N T1 a1 ∧ a1.defers = a.defers ∧ ExtB n M w H M1 w1 H1
    obtain ⟨μ, hμ⟩ : ∃ μ : Act × World → Nat, ∀ p, (∃ k, R k p.1 p.2) → R (μ p) p.1 p.2 ∧ ∀ k, R k p.1 p.2 → μ p ≤ k := by
      have : ∀ p : Act × World, ∃ m, (∃ k, R k p.1 p.2) → R m p.1 p.2 ∧ ∀ k, R k p.1 p.2 → m ≤ k := by
        intro p
        by_cases hp : ∃ k, R k p.1 p.2
        · obtain ⟨m, h1, h2⟩ := exists_least hp
          exact ⟨m, fun _ => ⟨h1, h2⟩⟩
        · exact ⟨0, fun h => absurd h hp⟩
      exact Classical.skolem.1 this
    obtain ⟨hn0, hq⟩ := hq hn
    obtain ⟨M0, g2, g3, g5⟩ := hq M w N a hG hT
    refine wp_loop (fun a1 w1 => ∃ k, R k a1 w1) (fun a1 w1 => μ (a1, w1)) ⟨k0, T0, H0, M0, hI, g2, g3, rfl, g5⟩ ?_
    intro a1 w1 hR
    obtain ⟨⟨T1, H1, M1, k1, k3, k4, k5, k6⟩, _⟩ := hμ (a1, w1) hR
    refine wp_mono (awp_sound c hc _ a1 w1 T1 H1 M1 k6.len k3 k4 (hround _ T1 H1 k1)) ?_
    rintro e a' w' ⟨T', H', M', h1, h2, h3, h4, h5⟩
    cases e with
    | normal =>
      obtain ⟨T2, H2, hq, j, hj, hI2⟩ := h1
      obtain ⟨hn2, hq⟩ := hq h5.len
      obtain ⟨M2, f2, f3, f5⟩ := hq M' w' N a' h2 h3
      have hR' : R j a' w' := ⟨T2, H2, M2, hI2, f2, f3, h4.trans k5, (k6.trans h5).trans f5⟩
      exact ⟨⟨_, hR'⟩, Nat.lt_of_le_of_lt ((hμ (a', w') ⟨_, hR'⟩).2 _ hR') hj⟩
    | _ => exact ⟨T', H', M', h1, h2, h3, h4.trans k5, k6.trans h5⟩
  | .region _ ops false, hc, Q, a, w, T, H, M, hn, hG, hT, h => by
    refine wp_region ?_
    have := aops_sound (E := E) (N := N) (Q := LiftB E n M w H N a.defers Q) hc ops.toList 0 rfl a w T H M hG hT h fun T' H' M' a' w' k1 k2 k3 k4 k5 => ⟨T', H', M', k1, k2, k3, k4, .of hn k5⟩
    simpa using this
  | .region _ ops true, hc, Q, a, w, T, H, M, hn, hG, hT, h => by
    unfold awp at h
    obtain ⟨h1, ks, h2, h3⟩ := h
    exact wp_mono (draw_wp h1 hc h2 h3 hG hT) fun _ _ _ h => h.b hn
  | .rangeFunc .., _, Q, a, w, T, H, M, hn, hG, hT, h => by unfold awp at h; exact h.elim
  | .goto .., _, Q, a, w, T, H, M, hn, hG, hT, h => by unfold awp at h; exact h.elim
  | .refuse .., _, Q, a, w, T, H, M, hn, hG, hT, h => by unfold awp at h; exact h.elim
end
end Go.Am
namespace Go.Am
open Go.RowKit Go.Cx

def ares (P : Program) (H : Heap) (T : Nat → AV) : List ResultVar → (List AV → Prop) → Prop
  | [], K => K []
  | .tmp t :: rs, K => ares P H T rs fun vs => K (T t :: vs)
  | .cell p ty :: rs, K => aload P ty (T p) H fun v => ares P H T rs fun vs => K (v :: vs)
def one : List AV → AV
  | [v] => v
  | vs => .tup vs
/-- How a body ends, if it ends as it should. -/
def afin (P : Program) (rs : List ResultVar) (K : AV → Heap → Prop) : Exit → (Nat → AV) → Heap → Prop
  | .normal, T, H => ares P H T rs fun vs => K (one vs) H
  | .ret, T, H => ares P H T rs fun vs => K (one vs) H
  | _, _, _ => False
section
variable {E : Env} {M : Mem} {w : World} {H : Heap}

theorem ares_out {N : Nat} {T : Nat → AV} {a : Act} (hG : Gam E.gl M w H) (hT : TR M H.length w N T a) : ∀ (rs : List ResultVar) (K : List AV → Prop), ares E.P H T rs K →
    ∃ vs us, K vs ∧ VRt M H.length w vs us ∧ (rs.mapM fun (r : ResultVar) => (match r with
      | .tmp t => pure (a.tmps.getD t undef)
      | .cell p t => do loadVar t (← asAddr (a.tmps.getD p undef)) : Sem Value)).run E.P w = .ok us w
  | [], K, h => ⟨[], [], h, by simp [VRt], by simp⟩
  | .tmp t :: rs, K, h => by
    obtain ⟨vs, us, h1, h2, h3⟩ := ares_out hG hT rs _ h
    refine ⟨T t :: vs, a.tmps.getD t undef :: us, h1, ?_, ?_⟩
    · unfold VRt
      exact ⟨_, _, rfl, hT.2 t, h2⟩
    · rw [List.mapM_cons]
      simp only [Sem.run_bind, Sem.run_pure, Result.andThen_ok, h3]
  | .cell p ty :: rs, K, h => by
    obtain ⟨s, g, z, h1, cs, h2, h3⟩ := h
    obtain ⟨b, of, us, h4, h5, h6⟩ := place_out hG (hT.2 p) h2
    obtain ⟨u, v, k1, k2, k3⟩ := load_pure h1 h5 h6 h3
    obtain ⟨vs, us', q1, q2, q3⟩ := ares_out hG hT rs _ k3
    refine ⟨v :: vs, u :: us', q1, ?_, ?_⟩
    · unfold VRt
      exact ⟨_, _, rfl, k2, q2⟩
    · have ha : asAddr (a.tmps.getD p undef) = pure ⟨b, of, none⟩ := by rw [h4]; rfl
      rw [List.mapM_cons]
      simp only [Sem.run_bind, ha, Sem.run_pure, Result.andThen_ok, k1, q3]
theorem results_out {N : Nat} {T : Nat → AV} {a : Act} {fn : Func} {K : AV → Prop} (hG : Gam E.gl M w H) (hT : TR M H.length w N T a) (h : ares E.P H T fn.results.toList fun vs => K (one vs)) :
    ∃ v u, K v ∧ VR M H.length w v u ∧ (results fn a.tmps).run E.P w = .ok u w := by
  obtain ⟨vs, us, h1, h2, h3⟩ := ares_out hG hT _ _ h
  have hrun : (results fn a.tmps).run E.P w = .ok (if h : us.toArray.size = 1 then us.toArray[0] else .tuple us.toArray) w := by
    have h4 := congrArg (fun (r : Result (List Value)) => r.andThen fun l w' => (Result.ok l.toArray w').andThen fun vs w' => .ok (if h : vs.size = 1 then vs[0] else .tuple vs) w') h3
    refine Eq.trans ?_ h4
    unfold results
    rw [Array.mapM_eq_mapM_toList, Sem.run_bind, Sem.run_map]
    cases Sem.run E.P (List.mapM _ fn.results.toList) w <;> rfl
  refine ⟨one vs, _, h1, ?_, hrun⟩
  have hl := VRt.len h2
  match vs, us, hl, h2 with
  | [], [], _, _ => simp [one, VR, VRt]
  | [v], [u], _, h2 =>
    unfold VRt at h2
    obtain ⟨_, _, e, h4, _⟩ := h2
    cases e
    simpa [one] using h4
  | v1 :: v2 :: vs, u1 :: u2 :: us, _, h2 =>
    simp only [one]
    unfold VR
    exact ⟨u1 :: u2 :: us, by simp, h2⟩
/-- The slots at a function's beginning. -/
def T0 (as : List AV) (i : Nat) : AV := (as[i]?).getD (.v undef)
theorem calls_of {f : FuncId} {fn : Func} {c : Code} {as : List AV} {R : AV → Heap → Prop} (hf : E.P.funcs[f]? = some fn) (hb : fn.body = some c) (hn : (fn.name == "runtime.NumGoroutine") = false) (hc : codeOk fn.ntmps c = true) (hl : as.length ≤ fn.ntmps)
    (h : (∀ (k : Nat) (B : Blk), H[k]? = some (some B) → nbB H.length B) → nbs H.length as → awp E H.length c (afin E.P fn.results.toList R) (T0 as) H) : ACalls E f as H R := by
  refine ⟨⟨fn, hf, hn, by rw [hb]; rfl⟩, fun w M vs hG hv => ?_⟩
  have hlen := VRt.len hv
  have hT : TR M H.length w fn.ntmps (T0 as) { tmps := vs.toArray ++ Array.replicate (fn.ntmps - vs.toArray.size) undef, defers := [] } := by
    refine ⟨by simp; omega, fun i => ?_⟩
    unfold T0
    by_cases hi : i < as.length
    · rw [List.getElem?_eq_getElem hi]
      obtain ⟨u, h1, h2⟩ := VRt.get hv (List.getElem?_eq_getElem hi)
      have hiv : i < vs.length := by omega
      have : (vs.toArray ++ Array.replicate (fn.ntmps - vs.toArray.size) undef).getD i undef = u := by
        rw [Array.getD_eq_getD_getElem?, Array.getElem?_append_left (by simpa using hiv)]
        simp [h1]
      rw [this]
      exact h2
    · rw [List.getElem?_eq_none (by omega)]
      have : (vs.toArray ++ Array.replicate (fn.ntmps - vs.toArray.size) undef).getD i undef = undef := by
        rw [Array.getD_eq_getD_getElem?, Array.getElem?_append_right (by simp; omega)]
        simp only [Array.getElem?_replicate]
        split <;> rfl
      rw [this]
      simp [VR]
  refine calls_of_wp hf hb (wp_mono (awp_sound c hc _ _ w _ H M (Nat.le_refl _) hG hT (h (fun k B hk => BR.nbOf (hG.blks k B hk)) (VRt.nbOf hv))) ?_)
  rintro e a' w' ⟨T', H', M', h1, h2, h3, h4, h5⟩
  have fin : ares E.P H' T' fn.results.toList (fun vs => R (one vs) H') → a'.defers = [] ∧ ∃ v, (results fn a'.tmps).run E.P w' = .ok v w' ∧ ∃ r H' v' M', Ending.returned v = .returned v' ∧ R r H' ∧ Gam E.gl M' w' H' ∧ VR M' H'.length w' r v' ∧ Ext M w H M' w' H' := by
    intro hres
    obtain ⟨v, u, k1, k2, k3⟩ := results_out (K := fun v => R v H') h2 h3 hres
    exact ⟨h4, u, k3, v, H', u, M', rfl, k1, h2, k2, h5.full⟩
  cases e with
  | normal => exact fin h1
  | ret => exact fin h1
  | _ => exact h1.elim
/-- b says no more than a. -/
def Wk (a b : AV) : Prop := ∀ (M : Mem) (n : Nat) (w : World) (u : Value), VR M n w a u → VR M n w b u
theorem Wk.refl (a : AV) : Wk a a := fun _ _ _ _ h => h
theorem Wk.nil (sz : Nat) : Wk (.v (.slice none 0 0)) (.sl sz []) := fun M n w u h => by
  unfold VR at h ⊢
  subst h
  exact ⟨none, 0, [], rfl, by simp [VRss], ⟨by simp, Nat.le_refl _, Nat.zero_le _, by simp, .inl ⟨rfl, fun _ => rfl⟩⟩⟩
/-! ### what is told is a row of one's own -/
/-- A name without a block. -/
def Mem.bare (M : Mem) (n : Nat) : Mem := { M with blk := fun r => if r = n then none else M.blk r }
theorem Gam.bare (hG1 : Gam E.gl M w H) (sz : Nat) : Gam E.gl (M.bare H.length) w (H ++ [some (.row true sz [])]) := by
  have hbl : ∀ r, r < H.length → (M.bare H.length).blk r = M.blk r := fun r hr => by simp only [Mem.bare]; rw [if_neg (by omega)]
  have hnn : (M.bare H.length).blk H.length = none := by simp [Mem.bare]
  have hin : ∀ {r B}, H[r]? = some (some B) → r < H.length := fun h => (List.getElem?_eq_some_iff.1 h).1
  refine ⟨fun g => VR.mono (M := M) (M' := M.bare H.length) (n := 0) (w := w) (fun _ h => h) (fun _ _ => rfl) (Nat.le_refl _) (fun r hr => absurd hr (Nat.not_lt_zero r)) (hG1.glob g), hG1.inG, fun r B hr => ?_, fun r B c hr hh hb => ?_, fun r r' B1 B2 c hr hr' hh hne hb => ?_⟩
  · rw [getElem?_snoc] at hr
    split at hr
    · next he =>
      cases hr
      subst he
      exact .inl ⟨hnn, rfl⟩
    · have h5 := hin hr
      exact BR.mono (M := M) (n := H.length) (w := w) (r := r) (fun _ h => h) (fun _ _ => rfl) (by simp) (fun r hr => ⟨hbl r hr, rfl⟩) (hbl r h5) rfl (fun _ _ => rfl) (hG1.blks r B hr)
  · rw [getElem?_snoc] at hr
    split at hr
    · next he =>
      subst he
      rw [hnn] at hb
      cases hb
    · rw [hbl r (hin hr)] at hb
      exact hG1.sep r B c hr hh hb
  · rw [getElem?_snoc] at hr hr'
    split at hr
    · next he =>
      subst he
      rw [hnn] at hb
      cases hb
    · rw [hbl r (hin hr)] at hb
      split at hr'
      · next he =>
        subst he
        rw [hnn]
        simp
      · rw [hbl r' (hin hr')]
        exact hG1.far r r' B1 B2 c hr hr' hh hne hb
/-- At the top: nothing that was there is written. -/
theorem calls_top {f : FuncId} {as : List AV} {r : Value} {w : World} {vs : List Value} (h : ACalls E f as [] fun v _ => v = .v r) (hgl : ∀ g, VR ⟨fun _ => none, fun _ => 0, fun b => b < w.heap.size⟩ 0 w (E.gl g) (.pointer (some ⟨g, 0, none⟩)))
    (hv : VRt ⟨fun _ => none, fun _ => 0, fun b => b < w.heap.size⟩ 0 w as vs) : Calls E.P f vs.toArray w fun e w' => e = .returned r ∧ Below w.heap.size w w' := by
  refine (h.2 w ⟨fun _ => none, fun _ => 0, fun b => b < w.heap.size⟩ vs ⟨hgl, fun _ h => h, by simp, by simp, by simp⟩ hv).mono ?_
  rintro e w' ⟨v, H', u, M', rfl, rfl, hG, hv, hE⟩
  unfold VR at hv
  subst hv
  refine ⟨rfl, hE.os, hE.tape.1, hE.output, hE.size, fun k hk => hE.block k hk ?_⟩
  rintro ⟨r, B, h1, _⟩
  simp at h1
end
end Go.Am

namespace Go.Am
open Go.RowKit Go.Cx

theorem pureR {P : Program} {s : Sem Value} {v : Value} {K : AV → Prop} (h : ∀ w, s.run P w = .ok v w) : (∃ r, Ret P s r ∧ K (cv r)) = K (cv v) := by
  apply propext
  constructor
  · rintro ⟨r, h1, h2⟩
    have := (h default).symm.trans (h1 default)
    cases this
    exact h2
  · intro hk
    exact ⟨v, h, hk⟩
section
variable {P : Program} {t : TypeId} {x y : Operand} {k : IntKind} {a b : Int} {K : AV → Prop}
theorem abin_ii {op : BinOp} {v : Value} (h : ∀ w, (do eqGuard op t x y (.int k a) (.int k b); binOp op t (.int k a) (.int k b) : Sem Value).run P w = .ok v w) : abin P op t x y (.v (.int k a)) (.v (.int k b)) K = K (cv v) := by
  unfold abin conc
  exact pureR h
theorem abin_add : abin P .add t x y (.v (.int k a)) (.v (.int k b)) K = K (.v (.int k (k.wrap (a + b)))) := abin_ii (v := .int k (k.wrap (a + b))) fun w => by cases k <;> rfl
theorem abin_sub : abin P .sub t x y (.v (.int k a)) (.v (.int k b)) K = K (.v (.int k (k.wrap (a - b)))) := abin_ii (v := .int k (k.wrap (a - b))) fun w => by cases k <;> rfl
theorem abin_mul : abin P .mul t x y (.v (.int k a)) (.v (.int k b)) K = K (.v (.int k (k.wrap (a * b)))) := abin_ii (v := .int k (k.wrap (a * b))) fun w => by cases k <;> rfl
theorem abin_lss : abin P .lss t x y (.v (.int k a)) (.v (.int k b)) K = K (.v (.bool (decide (a < b)))) := abin_ii (v := .bool (decide (a < b))) fun w => by cases k <;> rfl
theorem abin_gtr : abin P .gtr t x y (.v (.int k a)) (.v (.int k b)) K = K (.v (.bool (decide (b < a)))) := abin_ii (v := .bool (decide (b < a))) fun w => by cases k <;> rfl
theorem abin_geq : abin P .geq t x y (.v (.int k a)) (.v (.int k b)) K = K (.v (.bool (decide (b ≤ a)))) := abin_ii (v := .bool (decide (b ≤ a))) fun w => by cases k <;> rfl
theorem abin_eql : abin P .eql t x y (.v (.int k a)) (.v (.int k b)) K = K (.v (.bool (decide (a = b)))) := abin_ii (v := .bool (decide (a = b))) fun w => by cases k <;> rfl
theorem abin_neq : abin P .neq t x y (.v (.int k a)) (.v (.int k b)) K = K (.v (.bool (!decide (a = b)))) := abin_ii (v := .bool (!decide (a = b))) fun w => by cases k <;> rfl
theorem abin_quo (h : b ≠ 0) : abin P .quo t x y (.v (.int k a)) (.v (.int k b)) K = K (.v (.int k (k.wrap (a.tdiv b)))) := abin_ii (v := .int k (k.wrap (a.tdiv b))) fun w => by
  have : Op.intDiv .quo k a b = pure (.int k (k.wrap (a.tdiv b))) := by unfold Op.intDiv; rw [if_neg h]
  cases k <;> exact congrArg (fun s : Sem Value => s.run P w) this
theorem abin_rem (h : b ≠ 0) : abin P .rem t x y (.v (.int k a)) (.v (.int k b)) K = K (.v (.int k (a.tmod b))) := abin_ii (v := .int k (a.tmod b)) fun w => by
  have : Op.intDiv .rem k a b = pure (.int k (a.tmod b)) := by unfold Op.intDiv; rw [if_neg h]
  cases k <;> exact congrArg (fun s : Sem Value => s.run P w) this
end

theorem cv_int (k : IntKind) (n : Int) : cv (.int k n) = .v (.int k n) := rfl
theorem cv_bool (b : Bool) : cv (.bool b) = .v (.bool b) := rfl
theorem cv_str (b : ByteArray) : cv (.string b) = .v (.string b) := rfl
theorem cv_slice (a : Option Addr) (n c : Nat) : cv (.slice a n c) = .v (.slice a n c) := rfl
theorem cv_ptr (a : Option Addr) : cv (.pointer a) = .v (.pointer a) := rfl
theorem cv_nilFunc : cv .nilFunc = .v .nilFunc := rfl
section
variable {E : Env} {T : Nat → AV} {H : Heap}
/-- A region that is reckoned at its place. -/
theorem aop_not {ty : TypeId} {t : TypeId} {x : Operand} {b : Bool} {ρ : Operand → AV} {K : AV → Heap → Prop} (h : ρ x = .v (.bool b)) : aop E (.unOp .not t x) ty ρ H K = K (.v (.bool (!b))) H := by
  show (∃ u, conc (ρ x) = some u ∧ ∃ r, Ret E.P (Op.unary .not u) r ∧ K (cv r) H) = _
  rw [h]
  simp only [conc, Option.some.injEq, exists_eq_left']
  exact pureR (K := fun v => K v H) (v := .bool (!b)) fun w => rfl
end

/-! ### data -/
/-- Bytes. -/
abbrev byts (l : List UInt8) : AV := .sl 1 (l.map bcl)
theorem getD_bytes (l : List UInt8) (i : Nat) (h : i < l.length) : (l.map bcl).getD i [] = [.v (.int .u8 ((l[i]).toNat : Int))] := by simp [h, bcl]
end Go.Am
namespace Go.Am
open Go.RowKit Go.Cx

/-! ### nothing is looked into ahead of its turn -/

@[congr] theorem apick_still {t t' : Bool} {a a' b b' : AV} {K : AV → Prop} (h1 : t = t') (h2 : a = a') (h3 : b = b') : apick t a b K = apick t' a' b' K := by rw [h1, h2, h3]
theorem apick_t {a b : AV} {K : AV → Prop} : apick true a b K = K a := by simp [apick]
theorem apick_f {a b : AV} {K : AV → Prop} : apick false a b K = K b := by simp [apick]
theorem apick_b {t a b : Bool} {K : AV → Prop} : apick t (.v (.bool a)) (.v (.bool b)) K = K (.v (.bool (if t then a else b))) := by cases t <;> simp [apick]
theorem put_at (T : Nat → AV) (d : Nat) (v : AV) (i : Nat) : put T d v i = if i = d then v else T i := rfl
theorem ev_tmp (gl T : Nat → AV) (i : Nat) : ev gl T (.tmp i) = T i := rfl
theorem ev_const (gl T : Nat → AV) (v : Value) : ev gl T (.const v) = cv v := rfl
theorem ev_global (gl T : Nat → AV) (g : Nat) : ev gl T (.global g) = gl g := rfl
theorem ev_func (gl T : Nat → AV) (f : Nat) : ev gl T (.func f) = .fn f [] [] := rfl
theorem T0_at (as : List AV) (i : Nat) : T0 as i = (as[i]?).getD (.v undef) := rfl
theorem aput_some (T : Nat → AV) (d : Nat) (v : AV) : aput T (some d) v = put T d v := rfl
theorem aput_none (T : Nat → AV) (v : AV) : aput T none v = T := rfl
section
variable {P : Program} {t : TypeId} {H : Heap} {K : AV → Prop} {KH : AV → Heap → Prop}
theorem aload_m {a : AV} : aload P t a H K = match tyI P t with
    | some (s, g, _) => (match place H a with
      | some cs => apart g s cs K
      | none => False)
    | none => False := by
  unfold aload
  apply propext
  cases tyI P t with
  | none => simp
  | some x =>
    obtain ⟨s, g, z⟩ := x
    cases h : place H a with
    | none => exact ⟨fun ⟨_, _, _, _, cs, h2, _⟩ => (by cases h2), fun h => h.elim⟩
    | some cs => exact ⟨fun ⟨_, _, _, h1, cs', h2, h3⟩ => (by cases h1; cases h2; exact h3), fun h3 => ⟨s, g, z, rfl, cs, rfl, h3⟩⟩
theorem apart_f {s : Nat} {c : AV} {cs : List AV} : apart false s (c :: cs) K = K c := by simp [apart]
theorem aindexAddr_ptr {r off : Nat} {k : IntKind} {i : Int} : aindexAddr P t (.ptr r off) (.v (.int k i)) K = match arI P t with
    | some (n, sz, _) => (0 ≤ i ∧ i < n) ∧ K (.ptr r (off + i.toNat * sz))
    | none => False := by
  unfold aindexAddr
  apply propext
  cases arI P t with
  | none => simp
  | some x =>
    obtain ⟨n, sz, g⟩ := x
    exact ⟨fun ⟨_, _, _, h1, h2⟩ => (by cases h1; exact h2), fun h => ⟨n, sz, g, rfl, h⟩⟩
theorem afield_m {cs : List AV} {f : Nat} : afield P t (.agg cs) f K = match stI P t with
    | some fs => (match fs[f]? with
      | some (off, s, g) => apart g s (cs.drop off) K
      | none => False)
    | none => False := by
  unfold afield
  apply propext
  cases stI P t with
  | none => simp
  | some fs =>
    simp only [Option.some.injEq]
    constructor
    · rintro ⟨fs, off, s, g, rfl, h1, cs', h2, h3⟩
      cases h2
      rw [h1]
      exact h3
    · intro h
      cases h1 : fs[f]? with
      | none => rw [h1] at h; exact h.elim
      | some x =>
        obtain ⟨off, s, g⟩ := x
        rw [h1] at h
        exact ⟨fs, off, s, g, rfl, h1, cs, rfl, h⟩
theorem afieldAddr_m {a : AV} {f : Nat} : afieldAddr P t a f K = match stI P t with
    | some fs => (match fs[f]? with
      | some (off, s, _) => s ≠ 0 ∧ (match a with
        | .ptr r o => K (.ptr r (o + off))
        | .rp r sz i o => K (.rp r sz i (o + off))
        | .cptr cs => K (.cptr (cs.drop off))
        | _ => False)
      | none => False)
    | none => False := by
  unfold afieldAddr
  apply propext
  cases stI P t with
  | none => simp
  | some fs =>
    simp only [Option.some.injEq]
    constructor
    · rintro ⟨fs, off, s, g, rfl, h1, h2, h3⟩
      rw [h1]
      exact ⟨h2, h3⟩
    · intro h
      cases h1 : fs[f]? with
      | none => rw [h1] at h; exact h.elim
      | some x =>
        obtain ⟨off, s, g⟩ := x
        rw [h1] at h
        exact ⟨fs, off, s, g, rfl, h1, h.1, h.2⟩
theorem abuild_m {ps : List (Nat × AV)} : abuild P t ps K = match tyI P t with
    | some (_, _, z) => ((match stI P t with
        | some fs => (match afill (fun i => (fs[i]?).map fun x => (x.1, x.2.1)) z ps with
          | some cs => K (.agg cs)
          | none => False)
        | none => False) ∨ (match arI P t with
        | some (_, sz, _) => (match afill (fun i => some (i * sz, sz)) z ps with
          | some cs => K (.agg cs)
          | none => False)
        | none => False))
    | none => False := by
  unfold abuild
  apply propext
  cases tyI P t with
  | none => simp
  | some x =>
    obtain ⟨s, g, z⟩ := x
    simp only [Option.some.injEq, Prod.mk.injEq]
    constructor
    · rintro ⟨_, _, _, ⟨rfl, rfl, rfl⟩, ⟨fs, h1, cs, h2, h3⟩ | ⟨n, sz, g', h1, cs, h2, h3⟩⟩
      · exact .inl (by rw [h1]; simp only; rw [h2]; exact h3)
      · exact .inr (by rw [h1]; simp only; rw [h2]; exact h3)
    · intro h
      refine ⟨s, g, z, ⟨rfl, rfl, rfl⟩, ?_⟩
      rcases h with h | h
      · cases h1 : stI P t with
        | none => rw [h1] at h; exact h.elim
        | some fs =>
          rw [h1] at h
          simp only at h
          cases h2 : afill (fun i => (fs[i]?).map fun x => (x.1, x.2.1)) z ps with
          | none => rw [h2] at h; exact h.elim
          | some cs => rw [h2] at h; exact .inl ⟨fs, rfl, cs, h2, h⟩
      · cases h1 : arI P t with
        | none => rw [h1] at h; exact h.elim
        | some x =>
          obtain ⟨n, sz, g'⟩ := x
          rw [h1] at h
          simp only at h
          cases h2 : afill (fun i => some (i * sz, sz)) z ps with
          | none => rw [h2] at h; exact h.elim
          | some cs => rw [h2] at h; exact .inr ⟨n, sz, g', rfl, cs, h2, h⟩
theorem abuildSlice_m {n : Nat} {ps : List (Nat × AV)} : abuildSlice P t n ps H KH = match slI P t with
    | some (e, sz) => (match tyI P e with
      | some (sz', _, z) => sz' = sz ∧ 0 < sz ∧ n * sz ≤ 16777216 ∧ (match bfill sz (List.replicate n z) ps with
        | some es => KH (.hs H.length sz 0 n) (H ++ [some (.row true sz es)])
        | none => False)
      | none => False)
    | none => False := by
  unfold abuildSlice
  apply propext
  cases slI P t with
  | none => simp
  | some x =>
    obtain ⟨e, sz⟩ := x
    simp only [Option.some.injEq, Prod.mk.injEq]
    cases h0 : tyI P e with
    | none =>
      constructor
      · rintro ⟨e', sz', ⟨rfl, rfl⟩, g, z, h1, _⟩
        rw [h0] at h1; cases h1
      · intro h; exact h.elim
    | some y =>
      obtain ⟨s', g, z⟩ := y
      constructor
      · rintro ⟨e', sz', ⟨rfl, rfl⟩, g, z, h1, h2, h3, es, h4, h5⟩
        rw [h0] at h1
        cases h1
        refine ⟨rfl, h2, h3, ?_⟩
        rw [h4]
        exact h5
      · rintro ⟨rfl, h2, h3, h4⟩
        cases h5 : bfill s' (List.replicate n z) ps with
        | none => rw [h5] at h4; exact h4.elim
        | some es =>
          rw [h5] at h4
          exact ⟨e, s', ⟨rfl, rfl⟩, g, z, h0, h2, h3, es, h5, h4⟩
theorem aappend_m {tx : TypeId} {s x : AV} : aappend P [t, tx] [s, x] H KH = match slI P t with
    | some (_, sz) => (match dest H sz s with
      | some (H1, old) => (match source P H sz tx x with
        | some new => old.length + new.length ≤ 68719476736 ∧ KH (.hs H.length sz 0 (old.length + new.length)) (H1 ++ [some (.row true sz (old ++ new))])
        | none => False)
      | none => False)
    | none => False := by
  show (∃ e sz, slI P t = some (e, sz) ∧ ∃ H1 old, dest H sz s = some (H1, old) ∧ ∃ new, source P H sz tx x = some new ∧ old.length + new.length ≤ 68719476736 ∧ KH (.hs H.length sz 0 (old.length + new.length)) (H1 ++ [some (.row true sz (old ++ new))])) = _
  generalize slI P t = o
  apply propext
  cases o with
  | none => exact ⟨fun ⟨_, _, h, _⟩ => (by cases h), fun h => h.elim⟩
  | some y =>
    obtain ⟨e, sz⟩ := y
    constructor
    · rintro ⟨e', sz', h0, H1, old, h1, new, h2, h3, h4⟩
      cases h0
      simp only
      rw [h1]
      simp only
      rw [h2]
      exact ⟨h3, h4⟩
    · intro h
      simp only at h
      cases h1 : dest H sz s with
      | none => rw [h1] at h; exact h.elim
      | some z =>
        obtain ⟨H1, old⟩ := z
        rw [h1] at h
        simp only at h
        cases h2 : source P H sz tx x with
        | none => rw [h2] at h; exact h.elim
        | some new =>
          rw [h2] at h
          exact ⟨e, sz, rfl, H1, old, h1, new, h2, h.1, h.2⟩
theorem amakeSlice_m {k k' : IntKind} {ln cp : Int} : amakeSlice P t (.v (.int k ln)) (.v (.int k' cp)) H KH = match slI P t with
    | some (e, sz) => (match tyI P e with
      | some (sz', _, z) => sz' = sz ∧ (0 ≤ ln ∧ ln ≤ cp ∧ cp ≤ 68719476736) ∧ KH (.hs H.length sz 0 ln.toNat) (H ++ [some (.row true sz (List.replicate ln.toNat z))])
      | none => False)
    | none => False := by
  unfold amakeSlice
  apply propext
  cases slI P t with
  | none => simp
  | some x =>
    obtain ⟨e, sz⟩ := x
    simp only [Option.some.injEq, Prod.mk.injEq]
    cases h0 : tyI P e with
    | none =>
      constructor
      · rintro ⟨e', sz', ⟨rfl, rfl⟩, g, z, h1, _⟩
        rw [h0] at h1; cases h1
      · intro h; exact h.elim
    | some y =>
      obtain ⟨s', g, z⟩ := y
      constructor
      · rintro ⟨e', sz', ⟨rfl, rfl⟩, g, z, h1, _, _, _, _, h2, h3, h4, h5⟩
        rw [h0] at h1
        cases h1
        cases h2
        cases h3
        exact ⟨rfl, h4, h5⟩
      · rintro ⟨rfl, h4, h5⟩
        exact ⟨e, s', ⟨rfl, rfl⟩, g, z, h0, k, k', ln, cp, rfl, rfl, h4, h5⟩
theorem alenB_sl {sz : Nat} {es : List (List AV)} : alenB P [t] [.sl sz es] K = ((∃ e z, slI P t = some (e, z)) ∧ K (.v (.int .i64 es.length))) := by
  show ((∃ e z, slI P t = some (e, z)) ∧ ∃ n, some es.length = some n ∧ K (.v (.int .i64 n))) = _
  simp
theorem alenB_hs {r sz off n : Nat} : alenB P [t] [.hs r sz off n] K = ((∃ e z, slI P t = some (e, z)) ∧ K (.v (.int .i64 n))) := by
  show ((∃ e z, slI P t = some (e, z)) ∧ ∃ m, some n = some m ∧ K (.v (.int .i64 m))) = _
  simp
theorem alenB_nil : alenB P [t] [.v (.slice none 0 0)] K = ((∃ e z, slI P t = some (e, z)) ∧ K (.v (.int .i64 0))) := by
  show ((∃ e z, slI P t = some (e, z)) ∧ ∃ m, some 0 = some m ∧ K (.v (.int .i64 (m : Nat)))) = _
  simp
theorem astore_ptr {KS : Heap → Prop} {r off : Nat} {v : AV} : astore P t (.ptr r off) v H KS = match tyI P t with
    | some (s, _, _) => (match cells1 v with
      | some cs => cs.length = s ∧ (match H[r]? with
        | some (some (.obj old)) => off + s ≤ old.length ∧ KS (H.set r (some (.obj (splice off cs old))))
        | _ => False)
      | none => False)
    | none => False := by
  show (∃ s g z, tyI P t = some (s, g, z) ∧ ∃ cs, cells1 v = some cs ∧ cs.length = s ∧ ∃ old, H[r]? = some (some (.obj old)) ∧ off + s ≤ old.length ∧ KS (H.set r (some (.obj (splice off cs old))))) = _
  apply propext
  generalize tyI P t = o
  constructor
  · rintro ⟨s, g, z, rfl, cs, h1, h2, old, h3, h4⟩
    simp only
    rw [h1]
    simp only
    rw [h3]
    exact ⟨h2, h4⟩
  · intro h
    match o, h with
    | some (s, g, z), h =>
      simp only at h
      cases h1 : cells1 v with
      | none => rw [h1] at h; exact h.elim
      | some cs =>
        rw [h1] at h
        obtain ⟨h2, h3⟩ := h
        split at h3
        · next old h4 => exact ⟨s, g, z, rfl, cs, rfl, h2, old, h4, h3⟩
        · exact h3.elim
theorem astore_rp {KS : Heap → Prop} {r sz i off : Nat} {v : AV} : astore P t (.rp r sz i off) v H KS = match tyI P t with
    | some (s, _, _) => (match cells1 v with
      | some cs => cs.length = s ∧ (match H[r]? with
        | some (some (.row true sz' es)) => sz' = sz ∧ i < es.length ∧ off + s ≤ (es.getD i []).length ∧ KS (H.set r (some (.row true sz (es.set i (splice off cs (es.getD i []))))))
        | _ => False)
      | none => False)
    | none => False := by
  show (∃ s g z, tyI P t = some (s, g, z) ∧ ∃ cs, cells1 v = some cs ∧ cs.length = s ∧ ∃ es old, H[r]? = some (some (.row true sz es)) ∧ es[i]? = some old ∧ off + s ≤ old.length ∧ KS (H.set r (some (.row true sz (es.set i (splice off cs old)))))) = _
  apply propext
  generalize tyI P t = o
  constructor
  · rintro ⟨s, g, z, rfl, cs, h1, h2, es, old, h3, h5, h4⟩
    simp only
    rw [h1]
    simp only
    rw [h3]
    obtain ⟨h6, h7⟩ := List.getElem?_eq_some_iff.1 h5
    have h8 : es.getD i [] = old := by simp [h5]
    refine ⟨h2, rfl, h6, ?_⟩
    rw [h8]
    exact h4
  · intro h
    match o, h with
    | some (s, g, z), h =>
      simp only at h
      cases h1 : cells1 v with
      | none => rw [h1] at h; exact h.elim
      | some cs =>
        rw [h1] at h
        obtain ⟨h2, h3⟩ := h
        split at h3
        · next sz' es h4 =>
          obtain ⟨rfl, h5, h6⟩ := h3
          exact ⟨s, g, z, rfl, cs, rfl, h2, es, _, h4, by simp [h5], h6⟩
        · exact h3.elim
section
variable {lo hi : Option AV}
theorem aslice_cut {a : AV} {n : Nat} {k : Nat → Int → Int → Prop} : (∃ e sz, slI P t = some (e, sz) ∧ ∃ m, some n = some m ∧ ∃ l h q, abound lo 0 = some l ∧ abound hi m = some h ∧ abound none m = some q ∧ (0 ≤ l ∧ l ≤ h ∧ h ≤ q ∧ q ≤ m) ∧ ((none : Option AV).isSome = true → hi.isSome = true) ∧
      (((none : Option AV).isSome = true ∧ q = l → K a) ∧ (¬ ((none : Option AV).isSome = true ∧ q = l) → k sz l h))) =
    (match slI P t, abound lo 0, abound hi n with
    | some (_, sz), some l, some h => (0 ≤ l ∧ l ≤ h ∧ h ≤ n) ∧ k sz l h
    | _, _, _ => False) := by
  apply propext
  constructor
  · rintro ⟨e, sz, h0, m, h1, l, h, q, h2, h3, h4, h5, _, _, h6⟩
    cases h1
    cases h4
    rw [h0, h2, h3]
    exact ⟨⟨h5.1, h5.2.1, h5.2.2.1⟩, h6 (by simp)⟩
  · intro h
    split at h
    · next e sz l h' h0 h1 h2 =>
      exact ⟨e, sz, h0, n, rfl, l, h', n, h1, h2, rfl, ⟨h.1.1, h.1.2.1, h.1.2.2, Int.le_refl _⟩, (by simp), (by simp), fun _ => h.2⟩
    · exact h.elim
theorem aslice_sl {sz : Nat} {es : List (List AV)} : aslice P t (.sl sz es) lo hi none K = (match slI P t, abound lo 0, abound hi es.length with
    | some (_, s), some l, some h => (0 ≤ l ∧ l ≤ h ∧ h ≤ es.length) ∧ sz = s ∧ K (.sl s ((es.take h.toNat).drop l.toNat))
    | _, _, _ => False) := aslice_cut (a := .mt) (n := es.length) (k := fun s l h => sz = s ∧ K (.sl s ((es.take h.toNat).drop l.toNat)))
theorem aslice_hs {r sz off n : Nat} : aslice P t (.hs r sz off n) lo hi none K = (match slI P t, abound lo 0, abound hi n with
    | some (_, s), some l, some h => (0 ≤ l ∧ l ≤ h ∧ h ≤ n) ∧ sz = s ∧ K (.hs r s (off + l.toNat) (h - l).toNat)
    | _, _, _ => False) := aslice_cut (a := .mt) (n := n) (k := fun s l h => sz = s ∧ K (.hs r s (off + l.toNat) (h - l).toNat))
end
end

section
variable {E : Env} {n : Nat} {T : Nat → AV} {H : Heap} {Q : Exit → (Nat → AV) → Heap → Prop}
theorem w_seq {c a b : Code} (hc : c = .seq a b) (h : ∀ K : (Nat → AV) → Heap → Prop, (∀ T' H', Cl E n (awp E n b Q) T' H' → K T' H') → awp E n a (anorm K Q) T H) : awp E n c Q T H := by
  subst hc
  exact h _ fun _ _ h => h
theorem w_reg {c : Code} {i : Nat} {ops : Array Oper} (hc : c = .region i ops false) (h : aops E ops ops.toList T H (fun T' H' => Q .normal T' H')) : awp E n c Q T H := by
  subst hc
  exact h
theorem w_skip {c : Code} (hc : c = .skip) (h : Q .normal T H) : awp E n c Q T H := by
  subst hc
  exact h
theorem w_ret {c : Code} (hc : c = .ret) (h : Q .ret T H) : awp E n c Q T H := by
  subst hc
  exact h
theorem w_exit {c : Code} {i : Nat} (hc : c = .exit i) (h : Q (.exit i) T H) : awp E n c Q T H := by
  subst hc
  exact h
theorem w_block {c b : Code} {i : Nat} (hc : c = .block i b) (h : awp E n b (ablock i Q) T H) : awp E n c Q T H := by
  subst hc
  exact h
theorem w_scope {c b : Code} (hc : c = .scope b) (h : awp E n b (astay Q) T H) : awp E n c Q T H := by
  subst hc
  exact h
theorem w_label {c : Code} {l : Nat} (hc : c = .label l) (h : Q .normal T H) : awp E n c Q T H := by
  subst hc
  exact h
theorem w_loop {c b : Code} (hc : c = .loop b) (I : Nat → (Nat → AV) → Heap → Prop) (h0 : ∃ k, Cl E n (I k) T H)
    (h : ∀ k T1 H1, I k T1 H1 → ∀ K : (Nat → AV) → Heap → Prop, (∀ T' H', (Cl E n (fun T2 H2 => ∃ j, j < k ∧ I j T2 H2) T' H') → K T' H') → awp E n b (anorm K Q) T1 H1) : awp E n c Q T H := by
  subst hc
  exact ⟨I, h0, fun k T1 H1 hI => h k T1 H1 hI _ fun _ _ h1 => h1⟩
theorem acallF_ret {g : FuncId} {as : List AV} {K : AV → Heap → Prop} {r : AV} {H' : Heap} (h : ACalls E g as H fun x h => x = r ∧ h = H') (hk : K r H') : acallF E g as H K := ⟨_, h, by rintro _ _ ⟨rfl, rfl⟩; exact hk⟩
end
end Go.Am

namespace Go.Am
open Go.RowKit Go.Cx

class Kv where
  k : AV → Prop
class Kh where
  k : Heap → Prop
class Kvh where
  k : AV → Heap → Prop
class Kth where
  k : (Nat → AV) → Heap → Prop
class Kl where
  k : List AV → Prop
def jops (E : Env) (all : Array Oper) (l : List Oper) (T : Nat → AV) (H : Heap) [K : Kth] : Prop := aops E all l T H K.k
def jop (E : Env) (o : Op) (ty : TypeId) (ρ : Operand → AV) (H : Heap) [K : Kvh] : Prop := aop E o ty ρ H K.k
def jload (P : Program) (t : TypeId) (a : AV) (H : Heap) [K : Kv] : Prop := aload P t a H K.k
def jpart (g : Bool) (s : Nat) (cs : List AV) [K : Kv] : Prop := apart g s cs K.k
def jstore (P : Program) (t : TypeId) (a v : AV) (H : Heap) [K : Kh] : Prop := astore P t a v H K.k
def jbin (P : Program) (op : BinOp) (t : TypeId) (x y : Operand) (a b : AV) [K : Kv] : Prop := abin P op t x y a b K.k
def jconv (P : Program) (s d : TypeId) (a : AV) (H : Heap) [K : Kvh] : Prop := aconv P s d a H K.k
def jslice (P : Program) (t : TypeId) (a : AV) (lo hi mx : Option AV) [K : Kv] : Prop := aslice P t a lo hi mx K.k
def jidxA (P : Program) (t : TypeId) (a i : AV) [K : Kv] : Prop := aindexAddr P t a i K.k
def jidx (P : Program) (t : TypeId) (a i : AV) [K : Kv] : Prop := aindex P t a i K.k
def jfield (P : Program) (t : TypeId) (a : AV) (f : Nat) [K : Kv] : Prop := afield P t a f K.k
def jfieldA (P : Program) (t : TypeId) (a : AV) (f : Nat) [K : Kv] : Prop := afieldAddr P t a f K.k
def jbuild (P : Program) (t : TypeId) (ps : List (Nat × AV)) [K : Kv] : Prop := abuild P t ps K.k
def jbuildS (P : Program) (t : TypeId) (n : Nat) (ps : List (Nat × AV)) (H : Heap) [K : Kvh] : Prop := abuildSlice P t n ps H K.k
def jmake (P : Program) (t : TypeId) (l c : AV) (H : Heap) [K : Kvh] : Prop := amakeSlice P t l c H K.k
def jappend (P : Program) (ts : List TypeId) (as : List AV) (H : Heap) [K : Kvh] : Prop := aappend P ts as H K.k
def jlen (P : Program) (ts : List TypeId) (as : List AV) [K : Kv] : Prop := alenB P ts as K.k
def jlenM (P : Program) (t : TypeId) (r : Nat) (H : Heap) [K : Kv] : Prop := (∃ ke, mpI P t = some ke) ∧ ∃ ks vs st, H[r]? = some (some (.map ks vs st)) ∧ K.k (.v (.int .i64 ks.length))
def jpick (t : Bool) (a b : AV) [K : Kv] : Prop := apick t a b K.k
def jcall (E : Env) (g : FuncId) (as : List AV) (H : Heap) [K : Kvh] : Prop := acallF E g as H K.k
def jres (P : Program) (H : Heap) (T : Nat → AV) (rs : List ResultVar) [K : Kl] : Prop := ares P H T rs K.k
/-- What has several ways to be. -/
def jall (p : Bool → Prop) [K : Kv] : Prop := ∀ t, p t → K.k (.v (.bool t))
class Kg where
  run : Prop
  skip : Prop
def jguard (y : Option (Option Bool)) (want : Bool) [K : Kg] : Prop := match y with
  | some (some b) => (b = want → K.run) ∧ (¬ b = want → K.skip)
  | some none => K.skip
  | none => False
section
variable [K : Kg]
theorem jg_tt : jguard (some (some true)) true = K.run := by simp [jguard]
theorem jg_ff : jguard (some (some false)) false = K.run := by simp [jguard]
theorem jg_tf : jguard (some (some true)) false = K.skip := by simp [jguard]
theorem jg_ft : jguard (some (some false)) true = K.skip := by simp [jguard]
theorem jg_n {b : Bool} : jguard (some none) b = K.skip := (rfl)
end

section
variable {E : Env} {all : Array Oper} {os : List Oper} {T : Nat → AV} {H : Heap} [K : Kth]
theorem jops_nil : jops E all [] T H = K.k T H := (rfl)
theorem jops_one {d : Option Tmp} {o : Op} {ty : TypeId} {p : String} {af : Array Edge} : jops E all (⟨d, o, ty, p, af, none⟩ :: os) T H = @jop E o ty (ev E.gl T) H ⟨fun v H' => @jops E all os (aput T d v) H' K⟩ := (rfl)
theorem jops_g {d : Option Tmp} {o : Op} {ty : TypeId} {p : String} {af : Array Edge} {j : Nat} {b : Bool} :
    jops E all (⟨d, o, ty, p, af, some (j, b)⟩ :: os) T H = @jguard (ayield all T j) b ⟨@jop E o ty (ev E.gl T) H ⟨fun v H' => @jops E all os (aput T d v) H' K⟩, @jops E all os (aput T d (.v undef)) H K⟩ := by
  simp only [jops, aops]
  unfold jguard
  rfl
end

section
variable {E : Env} {ty t : TypeId} {ρ : Operand → AV} {H : Heap} [K : Kvh] {x y : Operand}
theorem jop_move : jop E (.move x) ty ρ H = K.k (ρ x) H := (rfl)
theorem jop_assign : jop E (.assign x) ty ρ H = K.k (ρ x) H := (rfl)
theorem jop_pick {c : Operand} : jop E (.pick c x y) ty ρ H = match ρ c with
    | .v (.bool t) => @jpick t (ρ x) (ρ y) ⟨fun v => K.k v H⟩
    | _ => False := (rfl)
theorem jop_alloc : jop E (.alloc t) ty ρ H = match tyI E.P t with
    | some (_, _, z) => K.k (.ptr H.length 0) (H ++ [some (.obj z)])
    | none => False := (rfl)
theorem jop_box : jop E (.box t x) ty ρ H = match cells1 (ρ x) with
    | some cs => K.k (.ptr H.length 0) (H ++ [some (.obj cs)])
    | none => False := (rfl)
theorem jop_build {ps : Array (Nat × Operand)} : jop E (.build t ps) ty ρ H = @jbuild E.P t (ps.toList.map fun p => (p.1, ρ p.2)) ⟨fun v => K.k v H⟩ := (rfl)
theorem jop_buildSlice {n : Nat} {ps : Array (Nat × Operand)} : jop E (.buildSlice t n ps) ty ρ H = @jbuildS E.P t n (ps.toList.map fun p => (p.1, ρ p.2)) H K := (rfl)
theorem jop_load : jop E (.load t x) ty ρ H = @jload E.P t (ρ x) H ⟨fun v => K.k v H⟩ := (rfl)
theorem jop_store : jop E (.store t x y) ty ρ H = @jstore E.P t (ρ x) (ρ y) H ⟨fun H' => K.k (.v undef) H'⟩ := (rfl)
theorem jop_nilCheck : jop E (.nilCheck x) ty ρ H = (sure (ρ x) = true ∧ K.k (ρ x) H) := (rfl)
theorem jop_bin {op : BinOp} {u : TypeId} : jop E (.binOp op t x y u) ty ρ H = @jbin E.P op t x y (ρ x) (ρ y) ⟨fun v => K.k v H⟩ := (rfl)
theorem jop_not : jop E (.unOp .not t x) ty ρ H = match ρ x with
    | .v (.bool b) => K.k (.v (.bool (!b))) H
    | a => aop E (.unOp .not t x) ty (fun _ => a) H K.k := by
  split
  · next b h => exact aop_not h
  · rfl
theorem jop_convert {s d : TypeId} : jop E (.convert s d x) ty ρ H = @jconv E.P s d (ρ x) H K := (rfl)
theorem jop_makeFunc {f : FuncId} {a b : Array Operand} : jop E (.makeFunc (.func f) a b) ty ρ H = K.k (.fn f (a.toList.map ρ) (b.toList.map ρ)) H := (rfl)
theorem jop_makeSlice : jop E (.makeSlice t x y) ty ρ H = @jmake E.P t (ρ x) (ρ y) H K := (rfl)
theorem jop_slice {lo hi mx : Option Operand} : jop E (.slice t x lo hi mx) ty ρ H = @jslice E.P t (ρ x) (lo.map ρ) (hi.map ρ) (mx.map ρ) ⟨fun v => K.k v H⟩ := (rfl)
theorem jop_fieldAddr {f : Nat} : jop E (.fieldAddr t x f) ty ρ H = @jfieldA E.P t (ρ x) f ⟨fun v => K.k v H⟩ := (rfl)
theorem jop_field {f : Nat} : jop E (.field t x f) ty ρ H = @jfield E.P t (ρ x) f ⟨fun v => K.k v H⟩ := (rfl)
theorem jop_indexAddr : jop E (.indexAddr t x y) ty ρ H = @jidxA E.P t (ρ x) (ρ y) ⟨fun v => K.k v H⟩ := (rfl)
theorem jop_index : jop E (.index t x y) ty ρ H = @jidx E.P t (ρ x) (ρ y) ⟨fun v => K.k v H⟩ := (rfl)
theorem jop_extract {i : Nat} : jop E (.extract x i) ty ρ H = match ρ x with
    | .tup vs => (match vs[i]? with
      | some a => K.k a H
      | none => False)
    | _ => False := (rfl)
theorem jop_len {as : Array Operand} {ts : Array TypeId} : jop E (.call ⟨.builtin .len, as, ts⟩) ty ρ H = match ts.toList, as.toList.map ρ with
    | [t], [.mp r] => @jlenM E.P t r H ⟨fun v => K.k v H⟩
    | ts, as => @jlen E.P ts as ⟨fun v => K.k v H⟩ := (rfl)
theorem jop_append {as : Array Operand} {ts : Array TypeId} : jop E (.call ⟨.builtin .append, as, ts⟩) ty ρ H = @jappend E.P ts.toList (as.toList.map ρ) H K := (rfl)
theorem jop_call {f : Operand} {as : Array Operand} {ts : Array TypeId} : jop E (.call ⟨.value f, as, ts⟩) ty ρ H = match ρ f with
    | .fn g first caps => @jcall E g (first ++ as.toList.map ρ ++ caps) H K
    | _ => False := (rfl)
end

section
variable {P : Program} {t : TypeId} {H : Heap} [K : Kv] {a : AV}
theorem jload_m : jload P t a H = match tyI P t with
    | some (s, g, _) => (match place H a with
      | some cs => @jpart g s cs K
      | none => False)
    | none => False := aload_m
theorem jpart_t {s : Nat} {cs : List AV} : jpart true s cs = (s ≤ cs.length ∧ K.k (.agg (cs.take s))) := (rfl)
theorem jpart_f {s : Nat} {c : AV} {cs : List AV} : jpart false s (c :: cs) = K.k c := apart_f
theorem jpick_t {b : AV} : jpick true a b = K.k a := apick_t
theorem jpick_f {b : AV} : jpick false a b = K.k b := apick_f
theorem jpick_b {c x y : Bool} : jpick c (.v (.bool x)) (.v (.bool y)) = K.k (.v (.bool (if c then x else y))) := apick_b
theorem jidxA_ptr {r off : Nat} {k : IntKind} {i : Int} : jidxA P t (.ptr r off) (.v (.int k i)) = match arI P t with
    | some (n, sz, _) => (0 ≤ i ∧ i < n) ∧ K.k (.ptr r (off + i.toNat * sz))
    | none => False := aindexAddr_ptr
theorem jidxA_sl {sz : Nat} {es : List (List AV)} {k : IntKind} {i : Int} : jidxA P t (.sl sz es) (.v (.int k i)) = ((∃ e, slI P t = some (e, sz)) ∧ (0 ≤ i ∧ i < es.length) ∧ K.k (.cptr (es.getD i.toNat []))) := (rfl)
theorem jidxA_hs {r sz off n : Nat} {k : IntKind} {i : Int} : jidxA P t (.hs r sz off n) (.v (.int k i)) = ((∃ e, slI P t = some (e, sz)) ∧ (0 ≤ i ∧ i < n) ∧ K.k (.rp r sz (off + i.toNat) 0)) := (rfl)
theorem jidxA_os {r sz off n : Nat} {k : IntKind} {i : Int} : jidxA P t (.os r sz off n) (.v (.int k i)) = ((∃ e, slI P t = some (e, sz)) ∧ (0 ≤ i ∧ i < n) ∧ K.k (.ptr r (off + i.toNat * sz))) := (rfl)
theorem jidx_str {s : ByteArray} {k : IntKind} {i : Int} : jidx P t (.v (.string s)) (.v (.int k i)) = (P.underlying t = some .string ∧ (0 ≤ i ∧ i < s.size) ∧ K.k (.v (.int .u8 ((s.data.getD i.toNat 0).toNat : Int)))) := (rfl)
theorem jfield_m {cs : List AV} {f : Nat} : jfield P t (.agg cs) f = match stI P t with
    | some fs => (match fs[f]? with
      | some (off, s, g) => @jpart g s (cs.drop off) K
      | none => False)
    | none => False := afield_m
theorem jfieldA_m {f : Nat} : jfieldA P t a f = match stI P t with
    | some fs => (match fs[f]? with
      | some (off, s, _) => s ≠ 0 ∧ (match a with
        | .ptr r o => K.k (.ptr r (o + off))
        | .rp r sz i o => K.k (.rp r sz i (o + off))
        | .cptr cs => K.k (.cptr (cs.drop off))
        | _ => False)
      | none => False)
    | none => False := afieldAddr_m
theorem jbuild_m {ps : List (Nat × AV)} : jbuild P t ps = match tyI P t with
    | some (_, _, z) => ((match stI P t with
        | some fs => (match afill (fun i => (fs[i]?).map fun x => (x.1, x.2.1)) z ps with
          | some cs => K.k (.agg cs)
          | none => False)
        | none => False) ∨ (match arI P t with
        | some (_, sz, _) => (match afill (fun i => some (i * sz, sz)) z ps with
          | some cs => K.k (.agg cs)
          | none => False)
        | none => False))
    | none => False := abuild_m
theorem jlen_str {b : ByteArray} : jlen P [t] [.v (.string b)] = (P.underlying t = some .string ∧ K.k (.v (.int .i64 b.size))) := (rfl)
theorem jlen_sl {sz : Nat} {es : List (List AV)} : jlen P [t] [.sl sz es] = ((∃ e z, slI P t = some (e, z)) ∧ K.k (.v (.int .i64 es.length))) := alenB_sl
theorem jlen_hs {r sz off n : Nat} : jlen P [t] [.hs r sz off n] = ((∃ e z, slI P t = some (e, z)) ∧ K.k (.v (.int .i64 n))) := alenB_hs
theorem jlen_nil : jlen P [t] [.v (.slice none 0 0)] = ((∃ e z, slI P t = some (e, z)) ∧ K.k (.v (.int .i64 0))) := alenB_nil
section
variable {lo hi : Option AV}
theorem jslice_sl {sz : Nat} {es : List (List AV)} : jslice P t (.sl sz es) lo hi none = (match slI P t, abound lo 0, abound hi es.length with
    | some (_, s), some l, some h => (0 ≤ l ∧ l ≤ h ∧ h ≤ es.length) ∧ sz = s ∧ K.k (.sl s ((es.take h.toNat).drop l.toNat))
    | _, _, _ => False) := aslice_sl
theorem jslice_hs {r sz off n : Nat} : jslice P t (.hs r sz off n) lo hi none = (match slI P t, abound lo 0, abound hi n with
    | some (_, s), some l, some h => (0 ≤ l ∧ l ≤ h ∧ h ≤ n) ∧ sz = s ∧ K.k (.hs r s (off + l.toNat) (h - l).toNat)
    | _, _, _ => False) := aslice_hs
end
end

section
variable {P : Program} {t : TypeId} {H : Heap} [K : Kvh]
theorem jbuildS_m {n : Nat} {ps : List (Nat × AV)} : jbuildS P t n ps H = match slI P t with
    | some (e, sz) => (match tyI P e with
      | some (sz', _, z) => sz' = sz ∧ 0 < sz ∧ n * sz ≤ 16777216 ∧ (match bfill sz (List.replicate n z) ps with
        | some es => K.k (.hs H.length sz 0 n) (H ++ [some (.row true sz es)])
        | none => False)
      | none => False)
    | none => False := abuildSlice_m
theorem jappend_m {tx : TypeId} {s x : AV} : jappend P [t, tx] [s, x] H = match slI P t with
    | some (_, sz) => (match dest H sz s with
      | some (H1, old) => (match source P H sz tx x with
        | some new => old.length + new.length ≤ 68719476736 ∧ K.k (.hs H.length sz 0 (old.length + new.length)) (H1 ++ [some (.row true sz (old ++ new))])
        | none => False)
      | none => False)
    | none => False := aappend_m
theorem jmake_m {k k' : IntKind} {ln cp : Int} : jmake P t (.v (.int k ln)) (.v (.int k' cp)) H = match slI P t with
    | some (e, sz) => (match tyI P e with
      | some (sz', _, z) => sz' = sz ∧ (0 ≤ ln ∧ ln ≤ cp ∧ cp ≤ 68719476736) ∧ K.k (.hs H.length sz 0 ln.toNat) (H ++ [some (.row true sz (List.replicate ln.toNat z))])
      | none => False)
    | none => False := amakeSlice_m
theorem jconv_int {s d : TypeId} {k : IntKind} {n : Int} : jconv P s d (.v (.int k n)) H = match P.underlying s, P.underlying d with
    | some (.int _), some (.int k2) => K.k (.v (.int k2 (k2.wrap n))) H
    | _, _ => aconv P s d (.v (.int k n)) H K.k := by
  unfold jconv
  split
  · next h1 h2 => simp only [aconv, h1, h2]
  · rfl
end

section
variable {P : Program} {t : TypeId} {H : Heap} [K : Kh]
theorem jstore_ptr {r off : Nat} {v : AV} : jstore P t (.ptr r off) v H = match tyI P t with
    | some (s, _, _) => (match cells1 v with
      | some cs => cs.length = s ∧ (match H[r]? with
        | some (some (.obj old)) => off + s ≤ old.length ∧ K.k (H.set r (some (.obj (splice off cs old))))
        | _ => False)
      | none => False)
    | none => False := astore_ptr
theorem jstore_rp {r sz i off : Nat} {v : AV} : jstore P t (.rp r sz i off) v H = match tyI P t with
    | some (s, _, _) => (match cells1 v with
      | some cs => cs.length = s ∧ (match H[r]? with
        | some (some (.row true sz' es)) => sz' = sz ∧ i < es.length ∧ off + s ≤ (es.getD i []).length ∧ K.k (H.set r (some (.row true sz (es.set i (splice off cs (es.getD i []))))))
        | _ => False)
      | none => False)
    | none => False := astore_rp
end

section
variable {P : Program} {t : TypeId} {x y : Operand} {k : IntKind} {a b : Int} [K : Kv]
theorem jbin_add : jbin P .add t x y (.v (.int k a)) (.v (.int k b)) = K.k (.v (.int k (k.wrap (a + b)))) := abin_add
theorem jbin_sub : jbin P .sub t x y (.v (.int k a)) (.v (.int k b)) = K.k (.v (.int k (k.wrap (a - b)))) := abin_sub
theorem jbin_mul : jbin P .mul t x y (.v (.int k a)) (.v (.int k b)) = K.k (.v (.int k (k.wrap (a * b)))) := abin_mul
theorem jbin_lss : jbin P .lss t x y (.v (.int k a)) (.v (.int k b)) = K.k (.v (.bool (decide (a < b)))) := abin_lss
theorem jbin_gtr : jbin P .gtr t x y (.v (.int k a)) (.v (.int k b)) = K.k (.v (.bool (decide (b < a)))) := abin_gtr
theorem jbin_geq : jbin P .geq t x y (.v (.int k a)) (.v (.int k b)) = K.k (.v (.bool (decide (b ≤ a)))) := abin_geq
theorem jbin_eql : jbin P .eql t x y (.v (.int k a)) (.v (.int k b)) = K.k (.v (.bool (decide (a = b)))) := abin_eql
theorem jbin_neq : jbin P .neq t x y (.v (.int k a)) (.v (.int k b)) = K.k (.v (.bool (!decide (a = b)))) := abin_neq
theorem jbin_quo (h : b ≠ 0) : jbin P .quo t x y (.v (.int k a)) (.v (.int k b)) = K.k (.v (.int k (k.wrap (a.tdiv b)))) := abin_quo h
theorem jbin_rem (h : b ≠ 0) : jbin P .rem t x y (.v (.int k a)) (.v (.int k b)) = K.k (.v (.int k (a.tmod b))) := abin_rem h
end

section
variable {P : Program} {H : Heap} {T : Nat → AV} {rs : List ResultVar} [K : Kl]
theorem jres_nil : jres P H T [] = K.k [] := (rfl)
theorem jres_tmp {t : Tmp} : jres P H T (.tmp t :: rs) = @jres P H T rs ⟨fun vs => K.k (T t :: vs)⟩ := (rfl)
theorem jres_cell {p : Tmp} {ty : TypeId} : jres P H T (.cell p ty :: rs) = @jload P ty (T p) H ⟨fun v => @jres P H T rs ⟨fun vs => K.k (v :: vs)⟩⟩ := (rfl)
end

section
variable {E : Env} {n : Nat} {T : Nat → AV} {H : Heap} {Q : Exit → (Nat → AV) → Heap → Prop}
theorem z_reg {c : Code} {i : Nat} {ops : Array Oper} (hc : c = .region i ops false) (h : @jops E ops ops.toList T H ⟨fun T' H' => Q .normal T' H'⟩) : awp E n c Q T H := w_reg hc h
theorem z_call {g : FuncId} {as : List AV} {K : Kvh} {R : AV → Heap → Prop} (h : ACalls E g as H R) (hk : ∀ r H', R r H' → K.k r H') : jcall (K := K) E g as H := ⟨R, h, hk⟩
theorem z_ret {g : FuncId} {as : List AV} {K : Kvh} {r : AV} {H' : Heap} (h : ACalls E g as H fun x h => x = r ∧ h = H') (hk : K.k r H') : jcall (K := K) E g as H := acallF_ret h hk
theorem z_end {P : Program} {rs : List ResultVar} {KK : AV → Heap → Prop} (h : @jres P H T rs ⟨fun vs => KK (one vs) H⟩) : afin P rs KK .ret T H := h
theorem z_end0 {P : Program} {rs : List ResultVar} {KK : AV → Heap → Prop} (h : @jres P H T rs ⟨fun vs => KK (one vs) H⟩) : afin P rs KK .normal T H := h
end

/-! ### branches -/
class Kc where
  x : Prop
  y : Prop
def jcnd (a : AV) [K : Kc] : Prop := match a with
  | .v (.bool t) => (t = true → K.x) ∧ (t = false → K.y)
  | _ => False
section
variable {K : Kc}
theorem jc_t (h : K.x) : jcnd (K := K) (.v (.bool true)) := ⟨fun _ => h, fun h => by cases h⟩
theorem jc_f (h : K.y) : jcnd (K := K) (.v (.bool false)) := ⟨fun h => (by cases h), fun _ => h⟩
theorem jc_b {b : Bool} (h1 : b = true → K.x) (h2 : b = false → K.y) : jcnd (K := K) (.v (.bool b)) := ⟨h1, h2⟩
end
theorem z_cond {E : Env} {n : Nat} {T : Nat → AV} {H : Heap} {Q : Exit → (Nat → AV) → Heap → Prop} {c x y : Code} {o : Operand} (hc : c = .cond o x y) (h : @jcnd (ev E.gl T o) ⟨awp E n x Q T H, awp E n y Q T H⟩) : awp E n c Q T H := by
  subst hc
  unfold jcnd at h
  split at h
  · next t ht => exact ⟨t, ht, h⟩
  · exact h.elim
/-! ### the heap's own end -/
theorem hget0 (H L : Heap) : (H ++ L)[H.length]? = L[0]? := by rw [List.getElem?_append_right (Nat.le_refl _)]; simp
theorem hset0 (H L : Heap) (x : Option Blk) : (H ++ L).set H.length x = H ++ L.set 0 x := by rw [List.set_append_right _ _ (Nat.le_refl _)]; simp
/-! ### statements whose order Go leaves open -/
class Kvg where
  k : AV → Option Blk → Prop
def jex (p : AV → Prop) [K : Kv] : Prop := ∃ v, p v ∧ K.k v
def jexg (p : AV → Option Blk → Prop) [K : Kvg] : Prop := ∃ v B, p v B ∧ K.k v B
def jexh (p : AV → Heap → Prop) [K : Kvh] : Prop := ∃ v H, p v H ∧ K.k v H
def jborn (P : Program) (o : Op) (ρ : Operand → AV) [K : Kv] : Prop := aborn P o ρ K.k
def jdraw (E : Env) (all : Array Oper) (H0 : Heap) (l : List Oper) (ks : List Kd) (T : Nat → AV) (H : Heap) [K : Kth] : Prop := adraw E all H0 l ks T H K.k
class Kp where
  k : Prop
/-- What must be the same. -/
def jsame {α : Type} (x y : α) [K : Kp] : Prop := x = y ∧ K.k
def jkeep (rs : List Nat) (H1 H : Heap) [K : Kp] : Prop := keepB rs H1 H ∧ K.k
/-- What must hold. -/
def jwhen (p : Prop) [K : Kp] : Prop := p ∧ K.k
theorem bcN_eq {n : Int} : bcN n = [.v (.int .u8 n)] := rfl
theorem convT_m {P : Program} {s t : TypeId} {x : Operand} : convT P (.convert s t x) = (s = t ∧ match P.underlying s with
    | some (.slice e) => P.underlying e = some (.int .u8)
    | _ => False) := rfl
theorem locOf_ptr {r o : Nat} : locOf (.ptr r o) = some r := rfl
theorem locOf_rp {r s i o : Nat} : locOf (.rp r s i o) = some r := rfl
theorem locOf_cptr {cs : List AV} : locOf (.cptr cs) = some 999 := rfl
theorem locCv_int {k : IntKind} {n : Int} : locCv (.v (.int k n)) = some 999 := rfl
section
variable {x : AV} {K : Kv} {K2 : Kvg} {K3 : Kvh}
theorem jex_eq : jex (fun v => x = v) = K.k x := by
  unfold jex
  simp
theorem jex_all : jex (fun v => Heap → x = v) = K.k x := by
  unfold jex
  apply propext
  constructor
  · rintro ⟨v, h1, h2⟩
    rw [h1 []]
    exact h2
  · intro h
    exact ⟨x, fun _ => rfl, h⟩
theorem jexg_eq {B : Option Blk} : jexg (fun v b => x = v ∧ B = b) = K2.k x B := by
  unfold jexg
  apply propext
  constructor
  · rintro ⟨v, b, ⟨rfl, rfl⟩, h2⟩
    exact h2
  · intro h
    exact ⟨x, B, ⟨rfl, rfl⟩, h⟩
theorem jexh_eq {H : Heap} : jexh (fun v h => x = v ∧ H = h) = K3.k x H := by
  unfold jexh
  apply propext
  constructor
  · rintro ⟨v, b, ⟨rfl, rfl⟩, h2⟩
    exact h2
  · intro h
    exact ⟨x, H, ⟨rfl, rfl⟩, h⟩
end
section
variable {P : Program} {t : TypeId} {ρ : Operand → AV} [K : Kv]
theorem jborn_m {n : Nat} {ps : Array (Nat × Operand)} : jborn P (.buildSlice t n ps) ρ = match slI P t with
    | some (e, sz) => (match tyI P e with
      | some (sz', _, z) => sz' = sz ∧ 0 < sz ∧ n * sz ≤ 16777216 ∧ (match bfill sz (List.replicate n z) (ps.toList.map fun p => (p.1, ρ p.2)) with
        | some es => if n = 0 then K.k .mt else K.k (.sl sz es)
        | none => False)
      | none => False)
    | none => False := by
  unfold jborn aborn
  simp only
  apply propext
  cases slI P t with
  | none => simp
  | some x =>
    obtain ⟨e, sz⟩ := x
    simp only [Option.some.injEq, Prod.mk.injEq]
    cases h0 : tyI P e with
    | none =>
      constructor
      · rintro ⟨e', sz', ⟨rfl, rfl⟩, g, z, h1, _⟩
        rw [h0] at h1; cases h1
      · intro h; exact h.elim
    | some y =>
      obtain ⟨s', g, z⟩ := y
      constructor
      · rintro ⟨e', sz', ⟨rfl, rfl⟩, g', z', h1, h2, h3, es, h4, h5⟩
        rw [h0] at h1
        cases h1
        refine ⟨rfl, h2, h3, ?_⟩
        rw [h4]
        exact h5
      · rintro ⟨rfl, h2, h3, h4⟩
        split at h4
        · next es hes => exact ⟨e, s', ⟨rfl, rfl⟩, g, z, h0, h2, h3, es, hes, h4⟩
        · exact h4.elim
end
section
variable {E : Env} {all : Array Oper} {H0 : Heap} {os : List Oper} {ks : List Kd} {T : Nat → AV} {H : Heap} [K : Kth] {d : Option Tmp} {o : Op} {ty : TypeId} {p : String} {af : Array Edge}
theorem jdraw_nil : jdraw E all H0 [] ks T H = K.k T H := by unfold jdraw adraw; rfl
theorem jdraw_q : jdraw E all H0 (⟨d, o, ty, p, af, none⟩ :: os) (.q :: ks) T H = @jex (fun v => @jop E o ty (ev E.gl T) H ⟨fun v' H' => v' = v ∧ H' = H⟩) ⟨fun v => @jdraw E all H0 os ks (aput T d v) H K⟩ := by
  unfold jdraw; rw [adraw]; rfl
theorem jdraw_l : jdraw E all H0 (⟨d, o, ty, p, af, none⟩ :: os) (.l :: ks) T H = @jex (fun v => ∀ L, @jop E o ty (ev E.gl T) (H0 ++ L) ⟨fun v' H' => v' = v ∧ H' = H0 ++ L⟩) ⟨fun v => @jdraw E all H0 os ks (aput T d v) H K⟩ := by
  unfold jdraw; rw [adraw]; rfl
theorem jdraw_b : jdraw E all H0 (⟨d, o, ty, p, af, none⟩ :: os) (.b :: ks) T H = @jex (fun v => @jborn E.P o (ev E.gl T) ⟨fun v' => v' = v⟩) ⟨fun v => @jdraw E all H0 os ks (aput T d v) H K⟩ := by
  unfold jdraw; rw [adraw]; rfl
theorem jdraw_gg : jdraw E all H0 (⟨d, o, ty, p, af, none⟩ :: os) (.g :: ks) T H = @jexg (fun v B => @jop E o ty (ev E.gl T) H ⟨fun v' H' => v' = v ∧ H' = H ++ [B]⟩) ⟨fun v B => @jdraw E all H0 os ks (aput T d v) (H ++ [B]) K⟩ := by
  unfold jdraw; rw [adraw]; rfl
theorem jdraw_e : jdraw E all H0 (⟨d, o, ty, p, af, none⟩ :: os) (.e :: ks) T H = @jexh (fun v H1 => @jop E o ty (ev E.gl T) H ⟨fun v' H' => v' = v ∧ H' = H1⟩) ⟨fun v H1 => @jdraw E all H0 os ks (aput T d v) H1 K⟩ := by
  unfold jdraw; rw [adraw]; rfl
theorem jdraw_m {t : TypeId} {x : Operand} {r : Nat} : jdraw E all H0 (⟨d, .load t x, ty, p, af, none⟩ :: os) (.m r :: ks) T H = @jsame _ (locOf (ev E.gl T x)) (some r) ⟨@jex (fun v => @jop E (.load t x) ty (ev E.gl T) H ⟨fun v' H' => v' = v ∧ H' = H⟩) ⟨fun v => @jdraw E all H0 os ks (aput T d v) H K⟩⟩ := by
  unfold jdraw; rw [adraw]; rfl
theorem jdraw_mc {t t2 : TypeId} {x : Operand} {r : Nat} : jdraw E all H0 (⟨d, .convert t t2 x, ty, p, af, none⟩ :: os) (.m r :: ks) T H = @jsame _ (locCv (ev E.gl T x)) (some r) ⟨@jex (fun v => @jop E (.convert t t2 x) ty (ev E.gl T) H ⟨fun v' H' => v' = v ∧ H' = H⟩) ⟨fun v => @jdraw E all H0 os ks (aput T d v) H K⟩⟩ := by
  unfold jdraw; rw [adraw]; rfl
theorem jdraw_f {r : List Nat} : jdraw E all H0 (⟨d, o, ty, p, af, none⟩ :: os) (.f r :: ks) T H = @jexh (fun v H1 => @jop E o ty (ev E.gl T) H ⟨fun v' H' => v' = v ∧ H' = H1⟩) ⟨fun v H1 => @jkeep r H1 H ⟨@jdraw E all H0 os ks (aput T d v) H1 K⟩⟩ := by
  unfold jdraw; rw [adraw]; rfl
theorem jdraw_p {l : List Int} : jdraw E all H0 (⟨d, o, ty, p, af, none⟩ :: os) (.p l :: ks) T H = @jwhen (@jborn E.P o (ev E.gl T) ⟨fun v' => v' = .sl 1 (l.map bcN)⟩) ⟨@jdraw E all H0 os ks (aput T d .any) H K⟩ := by
  unfold jdraw; rw [adraw]; rfl
theorem jdraw_c {s t : TypeId} {x : Operand} {j : Nat} {l : List Int} : jdraw E all H0 (⟨d, .convert s t x, ty, p, af, none⟩ :: os) (.c j l :: ks) T H = @jwhen (convT E.P (.convert s t x)) ⟨@jdraw E all H0 os ks (aput T d (.sl 1 (l.map bcN))) H K⟩ := by
  unfold jdraw; rw [adraw]; rfl
theorem jdraw_w {k : Kd} {j : Nat} {b : Bool} : jdraw E all H0 (⟨d, o, ty, p, af, some (j, b)⟩ :: os) (k :: ks) T H =
    @jguard (ayield all T j) b ⟨@jdraw E all H0 (⟨d, o, ty, p, af, none⟩ :: os) (k :: ks) T H K, @jdraw E all H0 os ks (aput T d (.v undef)) H K⟩ := by
  unfold jdraw
  have hl : lets all ⟨d, o, ty, p, af, some (j, b)⟩ T = match ayield all T j with
    | some (some c) => some (c == b)
    | some none => some false
    | none => none := rfl
  have hl2 : lets all ⟨d, o, ty, p, af, none⟩ T = some true := rfl
  cases hy : ayield all T j with
  | none => cases k <;> (conv => lhs; rw [adraw, hl, hy]) <;> rfl
  | some y =>
    cases y with
    | none => cases k <;> (conv => lhs; rw [adraw, hl, hy]) <;> rfl
    | some c =>
      cases hc : (c == b) with
      | true =>
        have : c = b := by simpa using hc
        have e : jguard (K := ⟨adraw E all H0 (⟨d, o, ty, p, af, none⟩ :: os) (k :: ks) T H K.k, adraw E all H0 os ks (aput T d (.v undef)) H K.k⟩) (some (some c)) b = adraw E all H0 (⟨d, o, ty, p, af, none⟩ :: os) (k :: ks) T H K.k := by
          subst this
          cases c <;> simp [jguard]
        rw [e]
        cases k <;> (conv => lhs; rw [adraw, hl, hy]) <;> (conv => rhs; rw [adraw, hl2]) <;> simp only [hc]
      | false =>
        have : ¬ c = b := by simpa using hc
        have e : jguard (K := ⟨adraw E all H0 (⟨d, o, ty, p, af, none⟩ :: os) (k :: ks) T H K.k, adraw E all H0 os ks (aput T d (.v undef)) H K.k⟩) (some (some c)) b = adraw E all H0 os ks (aput T d (.v undef)) H K.k := by
          simp [jguard, this]
        rw [e]
        cases k <;> (conv => lhs; rw [adraw, hl, hy]) <;> simp only [hc]
end
theorem z_draw {E : Env} {n : Nat} {T : Nat → AV} {H : Heap} {Q : Exit → (Nat → AV) → Heap → Prop} {c : Code} {ops : Array Oper} (i : Nat) (ks : List Kd) (hc : c = .region i ops true) (hm : E.P.follows .mixedOrders = true) (hok : drawOk ops ks = true)
    (h : @jdraw E ops H ops.toList ks T H ⟨fun T' H' => Q .normal T' H'⟩) : awp E n c Q T H := by
  subst hc
  exact ⟨hm, ks, hok, h⟩
/-! ### copy, cap -/
def jcopy (P : Program) (ts : List TypeId) (as : List AV) (H : Heap) [K : Kvh] : Prop := acopy P ts as H K.k
section
variable {E : Env} {P : Program} {ty t tx : TypeId} {ρ : Operand → AV} {H : Heap} [K : Kvh]
theorem jop_copy {as : Array Operand} {ts : Array TypeId} : jop E (.call ⟨.builtin .copy, as, ts⟩) ty ρ H = @jcopy E.P ts.toList (as.toList.map ρ) H K := (rfl)
theorem jcopy_hs {r sz' off n : Nat} {x : AV} : jcopy P [t, tx] [.hs r sz' off n, x] H = match slI P t with
    | some (_, sz) => (match P.underlying tx with
      | some (.slice _) => (match elems H sz x with
        | some new => (match H[r]? with
          | some (some (.row true sz2 es)) => sz2 = sz ∧ sz' = sz ∧ off + n ≤ es.length ∧ K.k (.v (.int .i64 (min new.length n : Nat))) (H.set r (some (.row true sz (es.take off ++ new.take (min new.length n) ++ es.drop (off + min new.length n)))))
          | _ => False)
        | none => False)
      | _ => False)
    | none => False := by
  unfold jcopy acopy
  simp only
  apply propext
  constructor
  · rintro ⟨e, sz, h1, ⟨e', h2⟩, new, h3, es, h4, h5, h6, h7⟩
    rw [h1, h2]
    simp only [h3, h4]
    exact ⟨trivial, h5, h6, h7⟩
  · intro h
    split at h
    case h_2 => exact h.elim
    case h_1 e sz h1 =>
    split at h
    case h_2 => exact h.elim
    case h_1 e' h2 =>
    split at h
    case h_2 => exact h.elim
    case h_1 new h3 =>
    split at h
    case h_2 => exact h.elim
    case h_1 sz2 es h4 =>
    obtain ⟨rfl, h5, h6, h7⟩ := h
    exact ⟨e, _, h1, ⟨e', h2⟩, new, h3, es, h4, h5, h6, h7⟩
/-- How many elements fit: an empty slice's. -/
def jcap (P : Program) (ts : List TypeId) (as : List AV) [K : Kv] : Prop := abuiltin P .cap ts 0 as [] fun v _ => K.k v
theorem jop_cap {as : Array Operand} {ts : Array TypeId} : jop E (.call ⟨.builtin .cap, as, ts⟩) ty ρ H = @jcap E.P ts.toList (as.toList.map ρ) ⟨fun v => K.k v H⟩ := (rfl)
theorem jcap_mt {K : Kv} : jcap P [t] [.mt] = ((∃ e sz, slI P t = some (e, sz)) ∧ K.k (.v (.int .i64 0))) := (rfl)
theorem jcap_nil {K : Kv} : jcap P [t] [.v (.slice none 0 0)] = ((∃ e sz, slI P t = some (e, sz)) ∧ K.k (.v (.int .i64 0))) := (rfl)
end

/-! ### a slice against nil -/
/-- .. negated. -/
def jalln (p : Bool → Prop) [K : Kv] : Prop := ∀ t, p t → K.k (.v (.bool (!t)))
section
variable {P : Program} {t : TypeId} {x y : Operand} [K : Kv] {sz r off n : Nat} {es : List (List AV)}
end
end Go.Am

namespace Go.Am
open Go.RowKit Go.Cx

/-! ### slots by lists -/
def ofl : List (Nat × AV) → Nat → AV
  | [], _ => .any
  | (j, a) :: r, i => if i = j then a else ofl r i
theorem ofl_nil {i : Nat} : ofl [] i = .any := rfl
theorem ofl_cons {i j : Nat} {a : AV} {r : List (Nat × AV)} : ofl ((j, a) :: r) i = if i = j then a else ofl r i := rfl
theorem ofl_all {p : Nat → AV → Prop} {i : Nat} (h0 : p i .any) : ∀ {l : List (Nat × AV)}, (∀ x ∈ l, p x.1 x.2) → p i (ofl l i)
  | [], _ => h0
  | (j, a) :: r, h => by
    unfold ofl
    split
    · next e => subst e; exact h (i, a) (by simp)
    · exact ofl_all h0 fun x hx => h x (List.mem_cons_of_mem _ hx)
theorem Wk.any (a : AV) : Wk a .any := fun _ _ _ _ _ => trivial
theorem Wk.of {a b : AV} (h : a = b) : Wk a b := h ▸ Wk.refl a
/-! ### other names -/
mutual
def amap (f : Nat → Nat) : AV → AV
  | .any => .any
  | .v x => .v x
  | .mt => .mt
  | .sl sz es => .sl sz (amapss f es)
  | .hs r sz off k => .hs (f r) sz off k
  | .os r sz off k => .os (f r) sz off k
  | .ptr r off => .ptr (f r) off
  | .rp r sz i off => .rp (f r) sz i off
  | .cptr cs => .cptr (amaps f cs)
  | .agg cs => .agg (amaps f cs)
  | .tup vs => .tup (amaps f vs)
  | .fn g a b => .fn g (amaps f a) (amaps f b)
  | .mp r => .mp (f r)
  | .ifp t r off => .ifp t (f r) off
def amaps (f : Nat → Nat) : List AV → List AV
  | [] => []
  | a :: as => amap f a :: amaps f as
def amapss (f : Nat → Nat) : List (List AV) → List (List AV)
  | [] => []
  | e :: es => amaps f e :: amapss f es
end
def bmap (f : Nat → Nat) : Blk → Blk
  | .obj cs => .obj (amaps f cs)
  | .row h sz es => .row h sz (amapss f es)
  | .map ks vs st => .map ks (amaps f vs) st
  | .iter m bs c seen => .iter (f m) bs c seen
theorem amapss_len {f : Nat → Nat} : ∀ {es : List (List AV)}, (amapss f es).length = es.length
  | [] => rfl
  | e :: es => by unfold amapss; simp [amapss_len]
section
variable {f : Nat → Nat} {n : Nat}
mutual
theorem amap_id (hf : ∀ r, r < n → f r = r) : ∀ {a : AV}, nb n a → amap f a = a
  | .any, _ => rfl
  | .v _, _ => rfl
  | .mt, _ => rfl
  | .sl sz es, h => by unfold nb at h; unfold amap; rw [amapss_id hf h]
  | .hs .., h => by unfold nb at h; unfold amap; rw [hf _ h]
  | .os .., h => by unfold nb at h; unfold amap; rw [hf _ h]
  | .ptr .., h => by unfold nb at h; unfold amap; rw [hf _ h]
  | .rp .., h => by unfold nb at h; unfold amap; rw [hf _ h]
  | .cptr cs, h => by unfold nb at h; unfold amap; rw [amaps_id hf h]
  | .agg cs, h => by unfold nb at h; unfold amap; rw [amaps_id hf h]
  | .tup cs, h => by unfold nb at h; unfold amap; rw [amaps_id hf h]
  | .fn g a b, h => by unfold nb at h; unfold amap; rw [amaps_id hf h.1, amaps_id hf h.2]
  | .mp .., h => by unfold nb at h; unfold amap; rw [hf _ h]
  | .ifp .., h => by unfold nb at h; unfold amap; rw [hf _ h]
theorem amaps_id (hf : ∀ r, r < n → f r = r) : ∀ {as : List AV}, nbs n as → amaps f as = as
  | [], _ => rfl
  | a :: as, h => by unfold nbs at h; unfold amaps; rw [amap_id hf h.1, amaps_id hf h.2]
theorem amapss_id (hf : ∀ r, r < n → f r = r) : ∀ {es : List (List AV)}, nbss n es → amapss f es = es
  | [], _ => rfl
  | e :: es, h => by unfold nbss at h; unfold amapss; rw [amaps_id hf h.1, amapss_id hf h.2]
end
end

section
variable {M M' : Mem} {n n' : Nat} {w : World} {f : Nat → Nat}
mutual
theorem VR.ren (hG : ∀ b, M.G b → M'.G b) (hb : ∀ r, r < n' → M'.blk r = M.blk (f r) ∧ M'.bsz r = M.bsz (f r)) : ∀ {a : AV} {u : Value}, nb n' a → VR M n w (amap f a) u → VR M' n' w a u
  | .any, _, _, _ => trivial
  | .v _, _, _, h => h
  | .mt, _, _, h => by unfold amap at h; unfold VR at h ⊢; exact h
  | .sl sz es, u, k, h => by
    unfold amap at h
    unfold VR at h ⊢
    unfold nb at k
    obtain ⟨h1, h2, h3, h4, h5, h6⟩ := h
    rw [amapss_len] at h4 h6
    exact ⟨h1, h2, h3, h4, VRss.ren hG hb k h5, h6.mono hG (fun _ _ => rfl)⟩
  | .hs r .., u, k, h => by
    unfold amap at h
    unfold VR at h ⊢
    unfold nb at k
    obtain ⟨e1, e2⟩ := hb r k
    rw [e1, e2]
    exact ⟨k, h.2⟩
  | .os r .., u, k, h => by
    unfold amap at h
    unfold VR at h ⊢
    unfold nb at k
    obtain ⟨e1, e2⟩ := hb r k
    rw [e1]
    exact ⟨k, h.2⟩
  | .ptr r .., u, k, h => by
    unfold amap at h
    unfold VR at h ⊢
    unfold nb at k
    obtain ⟨e1, e2⟩ := hb r k
    rw [e1]
    exact ⟨k, h.2⟩
  | .rp r .., u, k, h => by
    unfold amap at h
    unfold VR at h ⊢
    unfold nb at k
    obtain ⟨e1, e2⟩ := hb r k
    rw [e1]
    exact ⟨k, h.2⟩
  | .cptr cs, u, k, h => by
    unfold amap at h
    unfold VR at h ⊢
    unfold nb at k
    obtain ⟨h1, h2, h3, h4, h5, h6, h7⟩ := h
    exact ⟨h1, h2, h3, h4, hG _ h5, VRs.ren hG hb k h6, h7⟩
  | .agg cs, u, k, h => by
    unfold amap at h
    unfold VR at h ⊢
    unfold nb at k
    obtain ⟨h1, h2, h3⟩ := h
    exact ⟨h1, h2, VRs.ren hG hb k h3⟩
  | .tup cs, u, k, h => by
    unfold amap at h
    unfold VR at h ⊢
    unfold nb at k
    obtain ⟨h1, h2, h3⟩ := h
    exact ⟨h1, h2, VRt.ren hG hb k h3⟩
  | .fn g a b, u, k, h => by
    unfold amap at h
    unfold VR at h ⊢
    unfold nb at k
    obtain ⟨h1, h2, h3, h4, h5⟩ := h
    exact ⟨h1, h2, h3, VRt.ren hG hb k.1 h4, VRt.ren hG hb k.2 h5⟩
  | .mp r, u, k, h => by
    unfold amap at h
    unfold VR at h ⊢
    unfold nb at k
    obtain ⟨e1, e2⟩ := hb r k
    rw [e1]
    exact ⟨k, h.2⟩
  | .ifp _ r _, u, k, h => by
    unfold amap at h
    unfold VR at h ⊢
    unfold nb at k
    obtain ⟨e1, e2⟩ := hb r k
    rw [e1]
    exact ⟨k, h.2⟩
theorem VRs.ren (hG : ∀ b, M.G b → M'.G b) (hb : ∀ r, r < n' → M'.blk r = M.blk (f r) ∧ M'.bsz r = M.bsz (f r)) : ∀ {as : List AV} {us : List Value}, nbs n' as → VRs M n w (amaps f as) us → VRs M' n' w as us
  | [], _, _, h => by unfold amaps at h; unfold VRs at h ⊢; exact h
  | a :: as, us, k, h => by
    unfold amaps at h
    unfold VRs at h ⊢
    unfold nbs at k
    obtain ⟨u, r, h1, h2, h3, h4⟩ := h
    exact ⟨u, r, h1, h2, VR.ren hG hb k.1 h3, VRs.ren hG hb k.2 h4⟩
theorem VRt.ren (hG : ∀ b, M.G b → M'.G b) (hb : ∀ r, r < n' → M'.blk r = M.blk (f r) ∧ M'.bsz r = M.bsz (f r)) : ∀ {as : List AV} {us : List Value}, nbs n' as → VRt M n w (amaps f as) us → VRt M' n' w as us
  | [], _, _, h => by unfold amaps at h; unfold VRt at h ⊢; exact h
  | a :: as, us, k, h => by
    unfold amaps at h
    unfold VRt at h ⊢
    unfold nbs at k
    obtain ⟨u, r, h1, h3, h4⟩ := h
    exact ⟨u, r, h1, VR.ren hG hb k.1 h3, VRt.ren hG hb k.2 h4⟩
theorem VRss.ren (hG : ∀ b, M.G b → M'.G b) (hb : ∀ r, r < n' → M'.blk r = M.blk (f r) ∧ M'.bsz r = M.bsz (f r)) {sz : Nat} : ∀ {es : List (List AV)} {us : List Value}, nbss n' es → VRss M n w sz (amapss f es) us → VRss M' n' w sz es us
  | [], _, _, h => by unfold amapss at h; unfold VRss at h ⊢; exact h
  | e :: es, us, k, h => by
    unfold amapss at h
    unfold VRss at h ⊢
    unfold nbss at k
    obtain ⟨c, r, h1, h2, h3, h4⟩ := h
    exact ⟨c, r, h1, h2, VRs.ren hG hb k.1 h3, VRss.ren hG hb k.2 h4⟩
end
theorem BR.ren (hG : ∀ b, M.G b → M'.G b) (hb : ∀ r, r < n' → M'.blk r = M.blk (f r) ∧ M'.bsz r = M.bsz (f r)) {r : Nat} {B : Blk} (hr : r < n') (k : nbB n' B) (h : BR M n w (f r) (bmap f B)) : BR M' n' w r B := by
  obtain ⟨e1, e2⟩ := hb r hr
  cases B with
  | obj cs =>
    unfold bmap at h
    unfold BR at h ⊢
    unfold nbB at k
    obtain ⟨h1, h2, h3, h4, h5, h6, h7, h8, h9⟩ := h
    rw [e1, e2]
    exact ⟨h1, h2, h3, h4, h5, h6, h7, h8, VRs.ren hG hb k h9⟩
  | row hot sz es =>
    unfold bmap at h
    unfold BR at h ⊢
    unfold nbB at k
    rw [e1, e2]
    rcases h with ⟨h1, h2⟩ | ⟨h1, h2, h3, h4, h5, h6, h7, h8, h9, h10, h11, h12⟩
    · left
      refine ⟨h1, ?_⟩
      have := amapss_len (f := f) (es := es)
      rw [h2] at this
      exact List.length_eq_zero_iff.1 this.symm
    · exact .inr ⟨h1, h2, h3, h4, h5, h6, h7, h8, h9, VRss.ren hG hb k h10, h11, fun hh => hG _ (h12 hh)⟩
  | map ks vs st =>
    unfold bmap at h
    unfold BR at h ⊢
    unfold nbB at k
    obtain ⟨h1, h2, h3, h4, h5, h6, h7, h8, h9, h10, h11⟩ := h
    rw [e1]
    exact ⟨h1, h2, h3, h4, h5, h6, h7, h8, h9, VRt.ren hG hb k h10, h11⟩
  | iter m bs c seen =>
    unfold bmap at h
    unfold BR at h ⊢
    unfold nbB at k
    obtain ⟨h1, h2, h3, h4, h5, h6, h7⟩ := h
    exact ⟨k, h2, h3, e1.trans h4, (hb m k).1.trans h5, h6, h7⟩
end

section
variable {E : Env} {n : Nat} {T T' : Nat → AV} {H H' : Heap}

theorem Cq.ren (f : Nat → Nat) (h1 : n ≤ H.length → n ≤ H'.length) (hid : ∀ r, r < n → f r = r) (hblk : ∀ (r : Nat) (B' : Blk), H'[r]? = some (some B') → nbB H'.length B' ∧ H[f r]? = some (some (bmap f B')))
    (hinj : ∀ (r r' : Nat) (B B' : Blk), H'[r]? = some (some B) → H'[r']? = some (some B') → f r = f r' → r = r') (hT : ∀ i, nb H'.length (T' i) ∧ Wk (T i) (amap f (T' i))) : Cq E n T H T' H' := by
  intro hn
  refine ⟨h1 hn, fun M w N a hG hT0 => ?_⟩
  have hin : ∀ {r B}, H'[r]? = some (some B) → r < H'.length := fun h => (List.getElem?_eq_some_iff.1 h).1
  have hot : ∀ (B : Blk), (bmap f B).isHot = B.isHot := fun B => by cases B <;> rfl
  let M' : Mem := ⟨fun r => M.blk (f r), fun r => M.bsz (f r), M.G⟩
  refine ⟨M', ⟨fun g => ?_, hG.inG, fun r B hr => ?_, fun r B b hr hh hb => ?_, fun r r' B B' b hr hr' hh hne hb hb' => ?_⟩, ⟨hT0.1, fun i => ?_⟩, ⟨rfl, ⟨rfl, Nat.le_refl _⟩, rfl, Nat.le_refl _, fun _ h => h, fun _ h => .inl h, fun _ _ _ => rfl, h1 hn, fun r hr => ?_, fun r hr => ?_, fun b hb => ?_⟩⟩
  · exact VR.mono (M := M) (M' := M') (n := 0) (w := w) (fun _ h => h) (fun _ _ => rfl) (Nat.le_refl _) (fun r hr => absurd hr (Nat.not_lt_zero r)) (hG.glob g)
  · obtain ⟨k1, k2⟩ := hblk r B hr
    exact BR.ren (M := M) (M' := M') (n := H.length) (f := f) (fun _ h => h) (fun _ _ => ⟨rfl, rfl⟩) (hin hr) k1 (hG.blks _ _ k2)
  · obtain ⟨k1, k2⟩ := hblk r B hr
    exact hG.sep (f r) _ b k2 (by rw [hot]; exact hh) hb
  · obtain ⟨k1, k2⟩ := hblk r B hr
    obtain ⟨j1, j2⟩ := hblk r' B' hr'
    exact hG.far (f r) (f r') _ _ b k2 j2 (by rw [hot]; exact hh) (fun e => hne (hinj _ _ _ _ hr' hr e)) hb hb'
  · obtain ⟨k1, k2⟩ := hT i
    exact VR.ren (M := M) (M' := M') (n := H.length) (f := f) (fun _ h => h) (fun _ _ => ⟨rfl, rfl⟩) k1 (k2 _ _ _ _ (hT0.2 i))
  · show M.blk (f r) = _; rw [hid r hr]
  · show M.bsz (f r) = _; rw [hid r hr]
  · obtain ⟨r, B, q1, q2, q3⟩ := hb
    obtain ⟨k1, k2⟩ := hblk r B q1
    exact .inl ⟨f r, _, k2, by rw [hot]; exact q2, q3⟩
def okL (n' : Nat) (f : Nat → Nat) (L : Heap) : Heap → List Nat → Prop
  | [], [] => True
  | none :: L', _ :: σ => okL n' f L L' σ
  | some B :: L', s :: σ => (nbB n' B ∧ L[s]? = some (some (bmap f B))) ∧ okL n' f L L' σ
  | _, _ => False
def okT (n' : Nat) (f : Nat → Nat) (T : Nat → AV) : List (Nat × AV) → Prop
  | [] => True
  | (i, a) :: r => (nb n' a ∧ Wk (T i) (amap f a)) ∧ okT n' f T r
theorem okL_len {n' : Nat} {f : Nat → Nat} {L : Heap} : ∀ {L' : Heap} {σ : List Nat}, okL n' f L L' σ → σ.length = L'.length
  | [], [], _ => rfl
  | none :: L', _ :: σ, h => by unfold okL at h; simp [okL_len h]
  | some B :: L', s :: σ, h => by unfold okL at h; simp [okL_len h.2]
  | [], _ :: _, h => by simp [okL] at h
  | none :: _, [], h => by simp [okL] at h
  | some _ :: _, [], h => by simp [okL] at h
theorem okL_at {n' : Nat} {f : Nat → Nat} {L : Heap} : ∀ {L' : Heap} {σ : List Nat}, okL n' f L L' σ → ∀ (k : Nat) (B : Blk), L'[k]? = some (some B) → nbB n' B ∧ L[σ.getD k 0]? = some (some (bmap f B))
  | [], [], _, k, B, h => by simp at h
  | none :: L', _ :: σ, h, 0, B, e => by simp at e
  | none :: L', _ :: σ, h, k + 1, B, e => by unfold okL at h; simpa using okL_at h k B (by simpa using e)
  | some B' :: L', s :: σ, h, 0, B, e => by unfold okL at h; simp at e; subst e; simpa using h.1
  | some B' :: L', s :: σ, h, k + 1, B, e => by unfold okL at h; simpa using okL_at h.2 k B (by simpa using e)
  | [], _ :: _, h, _, _, _ => by simp [okL] at h
  | none :: _, [], h, _, _, _ => by simp [okL] at h
  | some _ :: _, [], h, _, _, _ => by simp [okL] at h
theorem cq_slots {tl : List (Nat × AV)} (hT : ∀ x ∈ tl, Wk (T x.1) x.2) : Cq E n T H (ofl tl) H := fun hn => ⟨hn, fun M w N a hG hT0 => ⟨M, hG, ⟨hT0.1, fun i => ofl_all (p := fun i x => VR M H.length w x (a.tmps.getD i undef)) trivial fun x hx => hT x hx M _ _ _ (hT0.2 x.1)⟩, .refl hn⟩⟩
def okD (n' : Nat) (d : Nat) (L : Heap) (T : Nat → AV) : List (Nat × AV) → Prop
  | [] => True
  | (i, a) :: r => (nb n' a ∧ Wk (frz d L n' (T i)) a) ∧ okD n' d L T r
theorem okD_all {n' d : Nat} {L : Heap} {T : Nat → AV} : ∀ {l : List (Nat × AV)}, okD n' d L T l → ∀ x ∈ l, nb n' x.2 ∧ Wk (frz d L n' (T x.1)) x.2
  | [], _, x, hx => by cases hx
  | (i, a) :: r, h, x, hx => by
    unfold okD at h
    rcases List.mem_cons.1 hx with rfl | hx
    · exact h.1
    · exact okD_all h.2 x hx
/-- The last blocks are not written any more: they are said as they read. -/
theorem cq_drop {H1 L : Heap} {tl : List (Nat × AV)} (d : Nat) (hn : n ≤ H1.length) (hB : ∀ (k : Nat) (B : Blk), H1[k]? = some (some B) → nbB H1.length B) (hT : okD H1.length d L T tl) : Cq E n T (H1 ++ L) (ofl tl) H1 := fun _ =>
  ⟨hn, fun M w N a hG hT0 => ⟨M.shut H1 L, hG.drop hB, ⟨hT0.1, fun i => ofl_all (p := fun i x => VR (M.shut H1 L) H1.length w x (a.tmps.getD i undef)) trivial fun x hx => VR.down (okD_all hT x hx).1 ((okD_all hT x hx).2 _ _ _ _ (VR.frz hG d (hT0.2 x.1)))⟩,
    ⟨rfl, ⟨rfl, Nat.le_refl _⟩, rfl, Nat.le_refl _, fun _ h => .inl h, fun b hb => (by
      rcases hb with hb | ⟨r, B, _, q2, q3⟩
      · exact .inl hb
      · exact shut_hot hG (Ext.refl M w (H1 ++ L)) q2 q3), fun _ _ _ => rfl, hn, fun _ _ => rfl, fun _ _ => rfl, fun b ⟨k, B, q1, q2, q3⟩ => .inl ⟨k, B, by rw [List.getElem?_append_left (List.getElem?_eq_some_iff.1 q1).1]; exact q1, q2, q3⟩⟩⟩⟩
/-- A slice that is nil: a row of one's own, empty. -/
theorem cq_bare (sz i : Nat) (hi : T i = .v (.slice none 0 0)) : Cq E n T H (put T i (.hs H.length sz 0 0)) (H ++ [some (.row true sz [])]) := fun hn => by
  refine ⟨by simp; omega, fun M w N a hG hT0 => ⟨M.bare H.length, hG.bare sz, ⟨hT0.1, fun j => ?_⟩, ⟨rfl, ⟨rfl, Nat.le_refl _⟩, rfl, Nat.le_refl _, fun _ h => h, fun _ h => .inl h, fun _ _ _ => rfl, by simp; omega, fun r hr => ?_, fun _ _ => rfl, fun b hb => ?_⟩⟩⟩
  · have hj := hT0.2 j
    unfold put
    split
    · next e =>
      subst e
      rw [hi] at hj
      have hj2 : a.tmps.getD j undef = .slice none 0 0 := hj
      rw [hj2]
      unfold VR
      exact ⟨by rw [List.length_append]; exact Nat.lt_succ_self _, none, 0, rfl, Nat.le_refl _, Nat.zero_le _, fun _ => rfl, .inr (.inl ⟨rfl, rfl⟩)⟩
    · refine VR.mono (M := M) (M' := M.bare H.length) (n := H.length) (n' := (H ++ [some (Blk.row true sz [])]).length) (w := w) (fun _ h => h) (fun _ _ => rfl) (by rw [List.length_append]; exact Nat.le_succ _) (fun r hr => ⟨?_, rfl⟩) hj
      simp only [Mem.bare]
      rw [if_neg (by omega)]
  · simp only [Mem.bare]
    rw [if_neg (by omega)]
  · obtain ⟨k, B, q1, q2, q3⟩ := hb
    rw [getElem?_snoc] at q1
    simp only [Mem.bare] at q3
    split at q1
    · next he => rw [if_pos he] at q3; cases q3
    · next he => rw [if_neg he] at q3; exact .inl ⟨k, B, q1, q2, q3⟩
/-! ### loops; statements in the middle -/
variable {Q : Exit → (Nat → AV) → Heap → Prop} {α : Type}
theorem z_loop {c b : Code} (hc : c = .loop b) (P : α → Prop) (m : α → Nat) (tl : α → List (Nat × AV)) (Hf : α → Heap) (x0 : α) (hP : P x0) (hq : Cq E n T H (ofl (tl x0)) (Hf x0))
    (h : ∀ x, P x → ∀ K : (Nat → AV) → Heap → Prop, (∀ T' H' x', P x' → m x' < m x → Cq E n T' H' (ofl (tl x')) (Hf x') → K T' H') → awp E n b (anorm K Q) (ofl (tl x)) (Hf x)) : awp E n c Q T H := by
  refine w_loop hc (fun k T H => ∃ x, P x ∧ m x = k ∧ T = ofl (tl x) ∧ H = Hf x) ⟨_, _, _, hq, x0, hP, rfl, rfl, rfl⟩ ?_
  rintro k T1 H1 ⟨x, h1, rfl, rfl, rfl⟩ K hK
  exact h x h1 K fun T' H' x' k1 k2 k3 => hK T' H' ⟨_, _, k3, m x', k2, x', k1, rfl, rfl, rfl⟩
end
end Go.Am

namespace Go.Am
open Go.RowKit Go.Cx

/-! ### slots -/
def okS (T : Nat → AV) : List (Nat × AV) → Prop
  | [] => True
  | (i, a) :: r => Wk (T i) a ∧ okS T r
theorem okS_all {T : Nat → AV} : ∀ {l : List (Nat × AV)}, okS T l → ∀ x ∈ l, Wk (T x.1) x.2
  | [], _, x, hx => by cases hx
  | (i, a) :: r, h, x, hx => by
    unfold okS at h
    rcases List.mem_cons.1 hx with rfl | hx
    · exact h.1
    · exact okS_all h.2 x hx
theorem cq_s {E : Env} {n : Nat} {T : Nat → AV} {H : Heap} {tl : List (Nat × AV)} (h : okS T tl) : Cq E n T H (ofl tl) H := cq_slots (okS_all h)
theorem wk_rfl (a : AV) : Wk a a = True := eq_true (Wk.refl a)
theorem wk_v {x y : Value} : Wk (.v x) (.v y) = (x = y) := propext ⟨fun h => (h ⟨fun _ => none, fun _ => 0, fun _ => False⟩ 0 default x rfl), fun h => by rw [h]; exact Wk.refl _⟩
theorem frz_v {d : Nat} {L : Heap} {N : Nat} {x : Value} : frz d L N (.v x) = .v x := by cases d <;> rfl
theorem frz_sl {d : Nat} {L : Heap} {N sz : Nat} {es : List (List AV)} : frz d L N (.sl sz es) = .sl sz es := by cases d <;> rfl
theorem frz_ptr {d : Nat} {L : Heap} {N r off : Nat} : frz d L N (.ptr r off) = .ptr r off := by cases d <;> rfl
theorem frz_any {d : Nat} {L : Heap} {N : Nat} : frz d L N .any = .any := by cases d <;> rfl
theorem frz_mt {d : Nat} {L : Heap} {N : Nat} : frz d L N .mt = .mt := by cases d <;> rfl
/-! ### bytes -/
theorem getD_bcl {l : List UInt8} {i : Nat} (h : i < l.length) : (l.map bcl).getD i [] = [.v (.int .u8 ((l.getD i 0).toNat : Int))] := by
  rw [getD_bytes l i h, List.getD_eq_getElem?_getD, List.getElem?_eq_getElem h]
  rfl
section
variable (b : UInt8)
end
theorem bits_u8 : IntKind.bits .u8 = 8 := rfl
theorem bits_u16 : IntKind.bits .u16 = 16 := rfl
theorem bits_u32 : IntKind.bits .u32 = 32 := rfl
theorem bits_u64 : IntKind.bits .u64 = 64 := rfl
theorem bits_i64 : IntKind.bits .i64 = 64 := rfl
end Go.Am
namespace Go.Am
open Go.RowKit Go.Cx

mutual
/-- Nothing that hangs on frozen memory. -/
def gf : AV → Prop
  | .sl _ _ => False
  | .cptr _ => False
  | .agg cs => gfs cs
  | .tup vs => gfs vs
  | .fn _ a b => gfs a ∧ gfs b
  | _ => True
def gfs : List AV → Prop
  | [] => True
  | a :: as => gf a ∧ gfs as
end
def gfss : List (List AV) → Prop
  | [] => True
  | e :: es => gfs e ∧ gfss es
def gfB : Blk → Prop
  | .obj cs => gfs cs
  | .row hot _ es => hot = true ∧ gfss es
  | .map _ vs _ => gfs vs
  | .iter _ _ _ _ => True
section
variable {M M' : Mem} {n n' : Nat} {w : World} {f : Nat → Nat}
mutual
theorem VR.up (hb : ∀ r, r < n → f r < n' ∧ M'.blk (f r) = M.blk r ∧ M'.bsz (f r) = M.bsz r) : ∀ {a : AV} {u : Value}, (gf a ∨ ∀ b, M.G b → M'.G b) → VR M n w a u → VR M' n' w (amap f a) u
  | .any, _, _, _ => by unfold amap; trivial
  | .v _, _, _, h => by unfold amap; exact h
  | .mt, _, _, h => by unfold amap; unfold VR at h ⊢; exact h
  | .sl sz es, u, k, h => by
    have hG : ∀ b, M.G b → M'.G b := by rcases k with k | k; · unfold gf at k; exact k.elim
                                        · exact k
    unfold amap
    unfold VR at h ⊢
    obtain ⟨h1, h2, h3, h4, h5, h6⟩ := h
    rw [amapss_len]
    exact ⟨h1, h2, h3, h4, VRss.up hb (.inr hG) h5, h6.mono hG (fun _ _ => rfl)⟩
  | .hs r .., u, _, h => by
    unfold amap
    unfold VR at h ⊢
    obtain ⟨e0, e1, e2⟩ := hb r h.1
    rw [e1, e2]
    exact ⟨e0, h.2⟩
  | .os r .., u, _, h => by
    unfold amap
    unfold VR at h ⊢
    obtain ⟨e0, e1, e2⟩ := hb r h.1
    rw [e1]
    exact ⟨e0, h.2⟩
  | .ptr r .., u, _, h => by
    unfold amap
    unfold VR at h ⊢
    obtain ⟨e0, e1, e2⟩ := hb r h.1
    rw [e1]
    exact ⟨e0, h.2⟩
  | .rp r .., u, _, h => by
    unfold amap
    unfold VR at h ⊢
    obtain ⟨e0, e1, e2⟩ := hb r h.1
    rw [e1]
    exact ⟨e0, h.2⟩
  | .cptr cs, u, k, h => by
    have hG : ∀ b, M.G b → M'.G b := by rcases k with k | k; · unfold gf at k; exact k.elim
                                        · exact k
    unfold amap
    unfold VR at h ⊢
    obtain ⟨h1, h2, h3, h4, h5, h6, h7⟩ := h
    exact ⟨h1, h2, h3, h4, hG _ h5, VRs.up hb (.inr hG) h6, h7⟩
  | .agg cs, u, k, h => by
    unfold amap
    unfold VR at h ⊢
    obtain ⟨h1, h2, h3⟩ := h
    exact ⟨h1, h2, VRs.up hb (k.imp (fun k => by unfold gf at k; exact k) id) h3⟩
  | .tup cs, u, k, h => by
    unfold amap
    unfold VR at h ⊢
    obtain ⟨h1, h2, h3⟩ := h
    exact ⟨h1, h2, VRt.up hb (k.imp (fun k => by unfold gf at k; exact k) id) h3⟩
  | .fn g a b, u, k, h => by
    unfold amap
    unfold VR at h ⊢
    obtain ⟨h1, h2, h3, h4, h5⟩ := h
    exact ⟨h1, h2, h3, VRt.up hb (k.imp (fun k => by unfold gf at k; exact k.1) id) h4, VRt.up hb (k.imp (fun k => by unfold gf at k; exact k.2) id) h5⟩
  | .mp r, u, _, h => by
    unfold amap
    unfold VR at h ⊢
    obtain ⟨e0, e1, e2⟩ := hb r h.1
    rw [e1]
    exact ⟨e0, h.2⟩
  | .ifp _ r _, u, _, h => by
    unfold amap
    unfold VR at h ⊢
    obtain ⟨e0, e1, e2⟩ := hb r h.1
    rw [e1]
    exact ⟨e0, h.2⟩
theorem VRs.up (hb : ∀ r, r < n → f r < n' ∧ M'.blk (f r) = M.blk r ∧ M'.bsz (f r) = M.bsz r) : ∀ {as : List AV} {us : List Value}, (gfs as ∨ ∀ b, M.G b → M'.G b) → VRs M n w as us → VRs M' n' w (amaps f as) us
  | [], _, _, h => by unfold amaps; unfold VRs at h ⊢; exact h
  | a :: as, us, k, h => by
    unfold amaps
    unfold VRs at h ⊢
    obtain ⟨u, r, h1, h2, h3, h4⟩ := h
    exact ⟨u, r, h1, h2, VR.up hb (k.imp (fun k => by unfold gfs at k; exact k.1) id) h3, VRs.up hb (k.imp (fun k => by unfold gfs at k; exact k.2) id) h4⟩
theorem VRt.up (hb : ∀ r, r < n → f r < n' ∧ M'.blk (f r) = M.blk r ∧ M'.bsz (f r) = M.bsz r) : ∀ {as : List AV} {us : List Value}, (gfs as ∨ ∀ b, M.G b → M'.G b) → VRt M n w as us → VRt M' n' w (amaps f as) us
  | [], _, _, h => by unfold amaps; unfold VRt at h ⊢; exact h
  | a :: as, us, k, h => by
    unfold amaps
    unfold VRt at h ⊢
    obtain ⟨u, r, h1, h3, h4⟩ := h
    exact ⟨u, r, h1, VR.up hb (k.imp (fun k => by unfold gfs at k; exact k.1) id) h3, VRt.up hb (k.imp (fun k => by unfold gfs at k; exact k.2) id) h4⟩
theorem VRss.up (hb : ∀ r, r < n → f r < n' ∧ M'.blk (f r) = M.blk r ∧ M'.bsz (f r) = M.bsz r) {sz : Nat} : ∀ {es : List (List AV)} {us : List Value}, (gfss es ∨ ∀ b, M.G b → M'.G b) → VRss M n w sz es us → VRss M' n' w sz (amapss f es) us
  | [], _, _, h => by unfold amapss; unfold VRss at h ⊢; exact h
  | e :: es, us, k, h => by
    unfold amapss
    unfold VRss at h ⊢
    obtain ⟨c, r, h1, h2, h3, h4⟩ := h
    exact ⟨c, r, h1, h2, VRs.up hb (k.imp (fun k => by unfold gfss at k; exact k.1) id) h3, VRss.up hb (k.imp (fun k => by unfold gfss at k; exact k.2) id) h4⟩
end
theorem BR.up (hb : ∀ r, r < n → f r < n' ∧ M'.blk (f r) = M.blk r ∧ M'.bsz (f r) = M.bsz r) {r : Nat} {B : Blk} (hr : r < n) (k : gfB B ∨ ∀ b, M.G b → M'.G b) (h : BR M n w r B) : BR M' n' w (f r) (bmap f B) := by
  obtain ⟨e0, e1, e2⟩ := hb r hr
  cases B with
  | obj cs =>
    unfold bmap
    unfold BR at h ⊢
    obtain ⟨h1, h2, h3, h4, h5, h6, h7, h8, h9⟩ := h
    rw [e1, e2]
    exact ⟨h1, h2, h3, h4, h5, h6, h7, h8, VRs.up hb (k.imp (fun k => k) id) h9⟩
  | row hot sz es =>
    unfold bmap
    unfold BR at h ⊢
    rw [e1, e2]
    rcases h with ⟨h1, h2⟩ | ⟨h1, h2, h3, h4, h5, h6, h7, h8, h9, h10, h11, h12⟩
    · subst h2
      exact .inl ⟨h1, rfl⟩
    · refine .inr ⟨h1, h2, h3, h4, h5, h6, h7, h8, h9, VRss.up hb (k.imp (fun k => k.2) id) h10, h11, fun hh => ?_⟩
      rcases k with k | k
      · rw [k.1] at hh; cases hh
      · exact k _ (h12 hh)
  | map ks vs st =>
    unfold bmap
    unfold BR at h ⊢
    obtain ⟨h1, h2, h3, h4, h5, h6, h7, h8, h9, h10, h11⟩ := h
    rw [e1]
    exact ⟨h1, h2, h3, h4, h5, h6, h7, h8, h9, VRt.up hb (k.imp (fun k => k) id) h10, h11⟩
  | iter m bs c seen =>
    unfold bmap
    unfold BR at h ⊢
    obtain ⟨h1, h2, h3, h4, h5, h6, h7⟩ := h
    obtain ⟨f0, f1, _⟩ := hb m h1
    exact ⟨f0, h2, h3, e1.trans h4, f1.trans h5, h6, h7⟩
end

/-! ### lent rows -/
def lentName : AV → Option Nat
  | .hs r _ _ _ => some r
  | .os r _ _ _ => some r
  | _ => none
theorem lent_out {E : Env} {M : Mem} {w : World} {H : Heap} {sz r : Nat} {a : AV} {es : List (List AV)} {u : Value} (hG : Gam E.gl M w H) (ha : VR M H.length w a u) (hr : lentName a = some r) (h : elems H sz a = some es) :
    ∃ ao cap us, u = .slice ao es.length cap ∧ VRss M H.length w sz es us ∧ RowAt (fun b => ∃ B, H[r]? = some (some B) ∧ M.blk r = some b) w ao es.length cap sz us := by
  obtain ⟨ao, cap, us, h1, h2, h3⟩ := elems_out hG ha h
  refine ⟨ao, cap, us, h1, h2, ⟨h3.len, h3.cle, h3.max, h3.one, ?_⟩⟩
  rcases h3.at_ with q | ⟨b, off, q1, _, q3⟩
  · exact .inl q
  · by_cases h0 : es.length = 0
    · refine .inl ⟨h0, fun e => ?_⟩
      rw [q1] at e
      cases e
    · refine .inr ⟨b, off, q1, ?_, q3⟩
      subst h1
      cases a with
      | hs r' sz' off' n =>
        cases hr
        unfold elems at h
        simp only at h
        split at h
        case h_2 => cases h
        case h_1 hot sz2 es0 hr =>
        split at h
        case isFalse => cases h
        case isTrue hc =>
        obtain ⟨rfl, rfl, hle⟩ := hc
        cases h
        unfold VR at ha
        obtain ⟨_, ao2, cap2, e, k1, k2, k3, k4⟩ := ha
        simp only [Value.slice.injEq] at e
        obtain ⟨rfl, e1, rfl⟩ := e
        rw [e1] at h0
        rcases k4 with ⟨k4, _⟩ | ⟨k4, _⟩ | ⟨b', k5, k6, k7⟩
        · exact absurd k4 h0
        · exact absurd k4 h0
        · rw [k6] at q1
          cases q1
          exact ⟨_, hr, k5⟩
      | os r' sz' off' n =>
        cases hr
        unfold elems at h
        simp only at h
        split at h
        case h_2 => cases h
        case h_1 cs hr =>
        split at h
        case isFalse => cases h
        case isTrue hc =>
        obtain ⟨rfl, hle⟩ := hc
        cases h
        unfold VR at ha
        obtain ⟨_, ao2, cap2, e, k1, k2, k3, k4⟩ := ha
        simp only [Value.slice.injEq] at e
        obtain ⟨rfl, e1, rfl⟩ := e
        rw [e1] at h0
        rcases k4 with k4 | ⟨b', k5, k6⟩
        · exact absurd k4 h0
        · rw [k6] at q1
          cases q1
          exact ⟨_, hr, k5⟩
      | _ => cases hr
/-! ### blocks among others -/
/-- Where a contract's names lie: those of σ, then new ones. -/
def sg (n : Nat) (σ : List Nat) (k : Nat) : Nat := if k < σ.length then σ.getD k 0 else n + (k - σ.length)
def backs (f : Nat → Nat) : List Nat → Heap → Heap → Heap
  | q :: σ, B :: H', H => backs f σ H' (H.set q (B.map (bmap f)))
  | _, _, H => H
def back (σ : List Nat) (H H' : Heap) : Heap := backs (sg H.length σ) σ H' H ++ (H'.drop σ.length).map (Option.map (bmap (sg H.length σ)))
theorem backs_len {f : Nat → Nat} : ∀ {σ : List Nat} {H' H : Heap}, (backs f σ H' H).length = H.length
  | [], [], _ => rfl
  | [], _ :: _, _ => rfl
  | _ :: _, [], _ => rfl
  | q :: σ, B :: H', H => by unfold backs; rw [backs_len, List.length_set]
theorem backs_out {f : Nat → Nat} {q : Nat} : ∀ {σ : List Nat} {H' H : Heap}, q ∉ σ → (backs f σ H' H)[q]? = H[q]?
  | [], [], _, _ => rfl
  | [], _ :: _, _, _ => rfl
  | _ :: _, [], _, _ => rfl
  | p :: σ, B :: H', H, h => by
    unfold backs
    rw [backs_out (fun h2 => h (List.mem_cons_of_mem _ h2)), List.getElem?_set_ne (fun e => h (by simp [e]))]
theorem backs_in {f : Nat → Nat} : ∀ {σ : List Nat} {H' H : Heap} {k : Nat}, σ.Nodup → (∀ q ∈ σ, q < H.length) → k < σ.length → (∀ B, H'[k]? = some B → (backs f σ H' H)[σ.getD k 0]? = some (B.map (bmap f)))
  | [], _, _, k, _, _, hk, _, _ => by simp at hk
  | _ :: _, [], _, _, _, _, _, _, h => by simp at h
  | q :: σ, B' :: H', H, 0, hn, hl, _, B, h => by
    simp at h
    subst h
    rw [List.nodup_cons] at hn
    unfold backs
    rw [List.getD_cons_zero, backs_out hn.1, List.getElem?_set_self (hl q (by simp))]
  | q :: σ, B' :: H', H, k + 1, hn, hl, hk, B, h => by
    rw [List.nodup_cons] at hn
    unfold backs
    rw [List.getD_cons_succ]
    exact backs_in hn.2 (fun x hx => by rw [List.length_set]; exact hl x (List.mem_cons_of_mem _ hx)) (by simpa using hk) B (by simpa using h)
section
variable {E : Env} {H Hs : Heap} {g : FuncId} {as as' : List AV} {R : AV → Heap → Prop}

/-- How an argument is read: by its names, or lent. -/
def rdV (lend : Bool) (σ : List Nat) (H : Heap) (n : Nat) (a' a : AV) : Prop :=
  (nb n a ∧ Wk a' (amap (sg H.length σ) a)) ∨ (lend = true ∧ ∃ r sz l, lentName a' = some r ∧ r ∉ σ ∧ elems H sz a' = some l ∧ nbss 0 l ∧ gfss l ∧ a = .sl sz l)
def rdVs (lend : Bool) (σ : List Nat) (H : Heap) (n : Nat) : List AV → List AV → Prop
  | [], [] => True
  | a' :: as', a :: as => rdV lend σ H n a' a ∧ rdVs lend σ H n as' as
  | _, _ => False
/-- .. a struct's cells likewise. -/
def rdEs (lend : Bool) (σ : List Nat) (H : Heap) (n : Nat) : List (List AV) → List (List AV) → Prop
  | [], [] => True
  | e' :: es', e :: es => rdVs lend σ H n e' e ∧ rdEs lend σ H n es' es
  | _, _ => False
def rdA (lend : Bool) (σ : List Nat) (H : Heap) (n : Nat) (a' a : AV) : Prop := rdV lend σ H n a' a ∨ (∃ cs' cs, a' = .agg cs' ∧ a = .agg cs ∧ rdVs lend σ H n cs' cs) ∨ ∃ sz es' es, a' = .sl sz es' ∧ a = .sl sz es ∧ rdEs lend σ H n es' es
def rdAs (lend : Bool) (σ : List Nat) (H : Heap) (n : Nat) : List AV → List AV → Prop
  | [], [] => True
  | a' :: as', a :: as => rdA lend σ H n a' a ∧ rdAs lend σ H n as' as
  | _, _ => False
/-- How the caller's memory looks to the one called. -/
def Mem.small (M : Mem) (lend : Bool) (σ : List Nat) (H : Heap) : Mem := ⟨fun k => if k < σ.length then M.blk (σ.getD k 0) else none, fun k => M.bsz (σ.getD k 0), fun c => M.G c ∨ (lend = true ∧ ∃ (q : Nat) (B : Blk), q ∉ σ ∧ H[q]? = some (some B) ∧ B.isHot = true ∧ M.blk q = some c)⟩
theorem ACalls.frameG (h : ACalls E g as Hs R) (lend : Bool) (σ : List Nat) (hσ : σ.Nodup) (hlen : Hs.length = σ.length) (hlt : ∀ q ∈ σ, q < H.length)
    (hH : ∀ (k : Nat) (B : Blk), Hs[k]? = some (some B) → nbB Hs.length B ∧ H[σ.getD k 0]? = some (some (bmap (sg H.length σ) B)))
    (hargs : ∀ (w : World) (M : Mem) (vs : List Value), Gam E.gl M w H → VRt M H.length w as' vs → VRt (M.small lend σ H) Hs.length w as vs) (hR : ∀ r H', R r H' → lend = true → gf r ∧ ∀ (k : Nat) (B : Blk), H'[k]? = some (some B) → gfB B) :
    ACalls E g as' H fun r' H'' => ∃ r H', R r H' ∧ r' = amap (sg H.length σ) r ∧ H'' = back σ H H' := by
  refine ⟨h.1, fun w M vs hG hv => ?_⟩
  let fh : Nat → Prop := fun c => ∃ (q : Nat) (B : Blk), q ∉ σ ∧ H[q]? = some (some B) ∧ B.isHot = true ∧ M.blk q = some c
  let M2 : Mem := ⟨fun k => if k < σ.length then M.blk (σ.getD k 0) else none, fun k => M.bsz (σ.getD k 0), fun c => M.G c ∨ (lend = true ∧ fh c)⟩
  have hin : ∀ {r B} {H : Heap}, H[r]? = some (some B) → r < H.length := fun h => (List.getElem?_eq_some_iff.1 h).1
  have hσd : ∀ k, k < σ.length → σ.getD k 0 ∈ σ := fun k hk => by
    rw [List.getD_eq_getElem?_getD, List.getElem?_eq_getElem hk]; simp
  have hσinj : ∀ j k, j < σ.length → k < σ.length → σ.getD j 0 = σ.getD k 0 → j = k := fun j k hj hk e => by
    rw [List.getD_eq_getElem?_getD, List.getD_eq_getElem?_getD, List.getElem?_eq_getElem hj, List.getElem?_eq_getElem hk] at e
    exact (List.getElem_inj hσ (h₀ := hj) (h₁ := hk)).1 (by simpa using e)
  have hot : ∀ (f : Nat → Nat) (B : Blk), (bmap f B).isHot = B.isHot := fun f B => by cases B <;> rfl
  have hGG : ∀ c, M.G c → M2.G c := fun c hc => .inl hc
  have hblt : ∀ {q B c}, H[q]? = some (some B) → M.blk q = some c → c < w.heap.size := fun h1 h2 => (hG.blks _ _ h1).lt h2
  have hfG : ∀ c, fh c → ¬ M.G c := fun c ⟨q, B, _, h2, h3, h4⟩ => hG.sep q B c h2 h3 h4
  -- the small heap
  have hbs : ∀ {k}, k < σ.length → M2.blk k = M.blk (σ.getD k 0) := fun hk => by simp only [M2]; rw [if_pos hk]
  have hG2 : Gam E.gl M2 w Hs := by
    refine ⟨fun q => VR.mono (M := M) (M' := M2) (n := 0) (w := w) hGG (fun _ _ => rfl) (Nat.le_refl _) (fun r hr => absurd hr (Nat.not_lt_zero r)) (hG.glob q), fun c hc => ?_, fun k B hk => ?_, fun k B c hk hh hb => ?_, fun k k' B B' c hk hk' hh hne hb hb' => ?_⟩
    · rcases hc with hc | ⟨_, q, B, _, h2, _, h4⟩
      · exact hG.inG c hc
      · exact hblt h2 h4
    · obtain ⟨k1, k2⟩ := hH k B hk
      have hkl : k < σ.length := by rw [← hlen]; exact hin hk
      have := hG.blks _ _ k2
      have e : σ.getD k 0 = sg H.length σ k := by unfold sg; rw [if_pos hkl]
      rw [e] at this
      refine BR.ren (M := M) (M' := M2) (n := H.length) (f := sg H.length σ) hGG (fun r hr => ?_) (hin hk) k1 this
      have hrl : r < σ.length := by rw [← hlen]; exact hr
      unfold sg
      rw [if_pos hrl]
      exact ⟨hbs hrl, rfl⟩
    · obtain ⟨k1, k2⟩ := hH k B hk
      have hkl : k < σ.length := by rw [← hlen]; exact hin hk
      rw [hbs hkl] at hb
      rintro (q | ⟨_, q, B2, q1, q2, q3, q4⟩)
      · exact hG.sep _ _ c k2 (by rw [hot]; exact hh) hb q
      · exact hG.far q _ B2 _ c q2 k2 q3 (fun e => q1 (e ▸ hσd k hkl)) q4 hb
    · obtain ⟨k1, k2⟩ := hH k B hk
      obtain ⟨j1, j2⟩ := hH k' B' hk'
      have hkl : k < σ.length := by rw [← hlen]; exact hin hk
      have hkl' : k' < σ.length := by rw [← hlen]; exact hin hk'
      rw [hbs hkl] at hb
      rw [hbs hkl'] at hb'
      exact hG.far _ _ _ _ c k2 j2 (by rw [hot]; exact hh) (fun e => hne (hσinj _ _ hkl' hkl e)) hb hb'
  have hhot2 : ∀ c, Hot M2 Hs c → Hot M H c ∧ ∃ k B, k < σ.length ∧ H[σ.getD k 0]? = some (some B) ∧ B.isHot = true ∧ M.blk (σ.getD k 0) = some c := fun c ⟨k, B, q1, q2, q3⟩ => by
    obtain ⟨k1, k2⟩ := hH k B q1
    have hkl : k < σ.length := by rw [← hlen]; exact hin q1
    rw [hbs hkl] at q3
    exact ⟨⟨_, _, k2, by rw [hot]; exact q2, q3⟩, k, _, hkl, k2, by rw [hot]; exact q2, q3⟩
  have hfar2 : ∀ {c q B}, Hot M2 Hs c → q ∉ σ → H[q]? = some (some B) → M.blk q ≠ some c := fun {c q B} hc hq hB => by
    obtain ⟨_, k, B', hk, k1, k2, k3⟩ := hhot2 c hc
    exact hG.far _ q _ B c k1 hB k2 (fun e => hq (e ▸ hσd k hk)) k3
  refine (h.2 w M2 vs hG2 (hargs w M vs hG hv)).mono ?_
  rintro e w' ⟨r, H', v, M', rfl, hr, hG', hv', hE⟩
  have hgf := hR r H' hr
  have hHl : σ.length ≤ H'.length := by rw [← hlen]; exact hE.len
  let M'' : Mem := ⟨fun q => if q < H.length then M.blk q else M'.blk (σ.length + (q - H.length)), fun q => if q < H.length then M.bsz q else M'.bsz (σ.length + (q - H.length)), fun c => M'.G c ∧ ¬ fh c⟩
  have hup : lend = false → ∀ c, M'.G c → M''.G c := fun hl c hc => ⟨hc, fun ⟨q, B, q1, q2, q3, q4⟩ => by
    rcases hE.gnew c hc with p | p | p
    · rcases p with p | ⟨p, _⟩
      · exact hG.sep q B c q2 q3 q4 p
      · rw [hl] at p; cases p
    · exact hfar2 p q1 q2 q4
    · have := hblt q2 q4; omega⟩
  have hsame : ∀ c, c < w.heap.size → (¬ ∃ k B, k < σ.length ∧ H[σ.getD k 0]? = some (some B) ∧ B.isHot = true ∧ M.blk (σ.getD k 0) = some c) → w'.heap[c]? = w.heap[c]? := fun c hc hn => hE.block c hc fun hh => hn (hhot2 c hh).2
  have hGsame : ∀ c, M.G c → w'.heap[c]? = w.heap[c]? := fun c hc => hsame c (hG.inG c hc) fun ⟨k, B, _, q1, q2, q3⟩ => hG.sep _ _ c q1 q2 q3 hc
  have hGup : ∀ c, M.G c → M''.G c := fun c hc => ⟨hE.G c (.inl hc), fun hf => hfG c hf hc⟩
  have hnames : ∀ k, k < H'.length → sg H.length σ k < (back σ H H').length ∧ M''.blk (sg H.length σ k) = M'.blk k ∧ M''.bsz (sg H.length σ k) = M'.bsz k := by
    intro k hk
    have hbl : (back σ H H').length = H.length + (H'.length - σ.length) := by unfold back; simp [backs_len]
    rw [hbl]
    unfold sg
    split
    · next hkl =>
      have h1 := hlt _ (hσd k hkl)
      have hkH : k < Hs.length := by rw [hlen]; exact hkl
      refine ⟨by omega, ?_, ?_⟩
      · simp only [M'']; rw [if_pos h1, hE.blk k hkH, hbs hkl]
      · simp only [M'']; rw [if_pos h1, hE.bsz k hkH]
    · next hkl =>
      refine ⟨by omega, ?_, ?_⟩
      · simp only [M'']; rw [if_neg (by omega)]; congr 1; omega
      · simp only [M'']; rw [if_neg (by omega)]; congr 1; omega
  have hvo : ∀ {k : Nat} {B : Blk}, H'[k]? = some (some B) → gfB B ∨ ∀ c, M'.G c → M''.G c := fun {k B} hk => by
    cases hl : lend with
    | true => exact .inl ((hgf hl).2 k B hk)
    | false => exact .inr (hup hl)
  -- what lies where
  have hcase : ∀ (q : Nat) (B : Blk), (back σ H H')[q]? = some (some B) → (q ∉ σ ∧ H[q]? = some (some B) ∧ M''.blk q = M.blk q) ∨ ∃ k B', H'[k]? = some (some B') ∧ q = sg H.length σ k ∧ B = bmap (sg H.length σ) B' := by
    intro q B hq
    unfold back at hq
    by_cases hql : q < H.length
    · rw [List.getElem?_append_left (by rw [backs_len]; exact hql)] at hq
      by_cases hqs : q ∈ σ
      · obtain ⟨k, hk, rfl⟩ := List.getElem_of_mem hqs
        have e : σ.getD k 0 = σ[k] := by rw [List.getD_eq_getElem?_getD, List.getElem?_eq_getElem hk]; rfl
        have := backs_in (f := sg H.length σ) (H := H) hσ hlt hk _ (List.getElem?_eq_getElem (l := H') (by omega : k < H'.length))
        rw [e, hq] at this
        have hkl : k < H'.length := by omega
        cases hB : H'[k] with
        | none => rw [hB] at this; simp at this
        | some B' =>
          rw [hB] at this
          simp at this
          refine .inr ⟨k, B', by rw [List.getElem?_eq_getElem hkl, hB], ?_, this⟩
          unfold sg
          rw [if_pos hk, e]
      · rw [backs_out hqs] at hq
        exact .inl ⟨hqs, hq, by simp only [M'']; rw [if_pos hql]⟩
    · rw [List.getElem?_append_right (by rw [backs_len]; omega), backs_len, List.getElem?_map, List.getElem?_drop] at hq
      obtain ⟨B0, h1, h2⟩ := Option.map_eq_some_iff.1 hq
      cases B0 with
      | none => simp at h2
      | some B' =>
        simp at h2
        refine .inr ⟨_, B', h1, ?_, h2.symm⟩
        unfold sg
        rw [if_neg (by omega)]
        omega
  have hnotfh : ∀ {k : Nat} {B' : Blk} {c : Nat}, H'[k]? = some (some B') → B'.isHot = true → M'.blk k = some c → ¬ fh c := fun {k B' c} h1 h2 h3 ⟨q, B, q1, q2, q3, q4⟩ => by
    rcases hE.hot c ⟨k, B', h1, h2, h3⟩ with p | p
    · exact hfar2 p q1 q2 q4
    · have := hblt q2 q4; omega
  have hGf : Gam E.gl M'' w' (back σ H H') := by
    refine ⟨fun q => VR.mono (M := M) (M' := M'') (n := 0) (w := w) hGup hGsame (Nat.le_refl _) (fun r hr => absurd hr (Nat.not_lt_zero r)) (hG.glob q), fun c hc => hG'.inG c hc.1, fun q B hq => ?_, fun q B c hq hh hb => ?_, fun q q' B B' c hq hq' hh hne hb hb' => ?_⟩
    · rcases hcase q B hq with ⟨q1, q2, q3⟩ | ⟨k, B', q1, rfl, rfl⟩
      · have hql := hin q2
        refine BR.mono (M := M) (M' := M'') (n := H.length) (w := w) (r := q) hGup hGsame (by have := (hnames : _); unfold back; simp [backs_len]) (fun r hr => ?_) q3 (by simp only [M'']; rw [if_pos hql]) (fun c hc => ?_) (hG.blks q B q2)
        · simp only [M'']; rw [if_pos hr, if_pos hr]; exact ⟨rfl, rfl⟩
        · refine hsame c (hblt q2 hc) fun ⟨k, B2, hk, k1, k2, k3⟩ => hG.far _ q _ B c k1 q2 k2 (fun e => q1 (e ▸ hσd k hk)) k3 hc
      · exact BR.up (fun r hr => hnames r hr) (hin q1) (hvo q1) (hG'.blks k B' q1)
    · rcases hcase q B hq with ⟨q1, q2, q3⟩ | ⟨k, B', q1, rfl, rfl⟩
      · rw [q3] at hb
        exact fun hc => hc.2 ⟨q, B, q1, q2, hh, hb⟩
      · rw [(hnames k (hin q1)).2.1] at hb
        exact fun hc => hG'.sep k B' c q1 (by rw [← hot (sg H.length σ)]; exact hh) hb hc.1
    · rcases hcase q B hq with ⟨q1, q2, q3⟩ | ⟨k, B1, q1, rfl, rfl⟩
      · rw [q3] at hb
        rcases hcase q' B' hq' with ⟨p1, p2, p3⟩ | ⟨k, B1, p1, rfl, rfl⟩
        · rw [p3] at hb'
          exact hG.far q q' B B' c q2 p2 hh hne hb hb'
        · rw [(hnames k (hin p1)).2.1] at hb'
          cases hh1 : B1.isHot with
          | true => exact hnotfh p1 hh1 hb' ⟨q, B, q1, q2, hh, hb⟩
          | false =>
            have := hG'.blks _ _ p1
            cases B1 with
            | obj cs => simp [Blk.isHot] at hh1
            | map ks vs st => simp [Blk.isHot] at hh1
            | iter m bs c seen => simp [Blk.isHot] at hh1
            | row hot' sz' es =>
              rcases this with ⟨j1, _⟩ | ⟨b', _, _, _, _, j1, _, _, _, _, _, j7⟩
              · rw [j1] at hb'; cases hb'
              · rw [j1] at hb'
                cases hb'
                have hGc := j7 (by simpa [Blk.isHot] using hh1)
                rcases hvo p1 with v1 | v1
                · have h3 : hot' = true := v1.1
                  simp [Blk.isHot, h3] at hh1
                · exact (v1 _ hGc).2 ⟨q, B, q1, q2, hh, hb⟩
      · rw [(hnames k (hin q1)).2.1] at hb
        rw [hot] at hh
        rcases hcase q' B' hq' with ⟨p1, p2, p3⟩ | ⟨k2, B2, p1, rfl, rfl⟩
        · rw [p3] at hb'
          rcases hE.hot c ⟨k, B1, q1, hh, hb⟩ with p | p
          · exact hfar2 p p1 p2 hb'
          · have := hblt p2 hb'; omega
        · rw [(hnames k2 (hin p1)).2.1] at hb'
          exact hG'.far k k2 B1 B2 c q1 p1 hh (fun e => hne (by rw [e])) hb hb'
  refine ⟨_, _, v, M'', rfl, ⟨r, H', hr, rfl, rfl⟩, hGf, VR.up (fun k hk => hnames k hk) ?_ hv', ⟨hE.os, hE.tape, hE.output, hE.size, hGup, fun c hc => ?_, fun c hc hn => hE.block c hc fun hh => hn (hhot2 c hh).1, by unfold back; simp [backs_len], fun q hq => ?_, fun q hq => ?_, fun c hc => ?_⟩⟩
  · cases hl : lend with
    | true => exact .inl (hgf hl).1
    | false => exact .inr (hup hl)
  · rcases hE.gnew c hc.1 with (p | ⟨_, p⟩) | p | p
    · exact .inl p
    · exact absurd p hc.2
    · exact .inr (.inl (hhot2 c p).1)
    · exact .inr (.inr p)
  · simp only [M'']; rw [if_pos hq]
  · simp only [M'']; rw [if_pos hq]
  · obtain ⟨q, B, q1, q2, q3⟩ := hc
    rcases hcase q B q1 with ⟨p1, p2, p3⟩ | ⟨k, B1, p1, rfl, rfl⟩
    · rw [p3] at q3
      exact .inl ⟨q, B, p2, q2, q3⟩
    · rw [(hnames k (hin p1)).2.1] at q3
      rw [hot] at q2
      rcases hE.hot c ⟨k, B1, p1, q2, q3⟩ with p | p
      · exact .inl (hhot2 c p).1
      · exact .inr p
theorem ACalls.frame (h : ACalls E g as Hs R) (lend : Bool) (σ : List Nat) (hσ : σ.Nodup) (hlen : Hs.length = σ.length) (hlt : ∀ q ∈ σ, q < H.length)
    (hH : ∀ (k : Nat) (B : Blk), Hs[k]? = some (some B) → nbB Hs.length B ∧ H[σ.getD k 0]? = some (some (bmap (sg H.length σ) B)))
    (ha : rdAs lend σ H Hs.length as' as) (hR : ∀ r H', R r H' → lend = true → gf r ∧ ∀ (k : Nat) (B : Blk), H'[k]? = some (some B) → gfB B) :
    ACalls E g as' H fun r' H'' => ∃ r H', R r H' ∧ r' = amap (sg H.length σ) r ∧ H'' = back σ H H' := by
  refine h.frameG lend σ hσ hlen hlt hH (fun w M vs hG hv => ?_) hR
  let fh : Nat → Prop := fun c => ∃ (q : Nat) (B : Blk), q ∉ σ ∧ H[q]? = some (some B) ∧ B.isHot = true ∧ M.blk q = some c
  let M2 : Mem := ⟨fun k => if k < σ.length then M.blk (σ.getD k 0) else none, fun k => M.bsz (σ.getD k 0), fun c => M.G c ∨ (lend = true ∧ fh c)⟩
  have hGG : ∀ c, M.G c → M2.G c := fun c hc => .inl hc
  have hbs : ∀ {k}, k < σ.length → M2.blk k = M.blk (σ.getD k 0) := fun hk => by simp only [M2]; rw [if_pos hk]
  -- the arguments
  have hval : ∀ {a' a : AV} {u : Value}, rdV lend σ H Hs.length a' a → VR M H.length w a' u → VR M2 Hs.length w a u := by
    intro a' a u h1 h3
    rcases h1 with ⟨k1, k2⟩ | ⟨hle, r', sz, l, k1, k2, k3, k4, k5, rfl⟩
    · refine VR.ren (M := M) (M' := M2) (n := H.length) (f := sg H.length σ) hGG (fun r hr => ?_) k1 (k2 _ _ _ _ h3)
      have hrl : r < σ.length := by rw [← hlen]; exact hr
      unfold sg
      rw [if_pos hrl]
      exact ⟨hbs hrl, rfl⟩
    · obtain ⟨ao, cap, us, rfl, j1, j2⟩ := lent_out hG h3 k1 k3
      unfold VR
      have j3 : VRss M2 0 w sz l us := VRss.mono (M := M) (M' := M2) (n := 0) (w := w) hGG (fun _ _ => rfl) (Nat.le_refl _) (fun r hr => absurd hr (Nat.not_lt_zero r)) (VRss.down k4 j1)
      refine ⟨ao, cap, us, rfl, VRss.mono (M := M2) (M' := M2) (n := 0) (w := w) (fun _ h => h) (fun _ _ => rfl) (Nat.zero_le _) (fun r hr => absurd hr (Nat.not_lt_zero r)) j3, j2.mono (fun b ⟨B, q1, q2⟩ => ?_) (fun _ _ => rfl)⟩
      cases hB : B.isHot with
      | true => exact .inr ⟨hle, r', B, k2, q1, hB, q2⟩
      | false =>
        have := hG.blks _ _ q1
        cases B with
        | obj cs => simp [Blk.isHot] at hB
        | map ks vs st => simp [Blk.isHot] at hB
        | iter m bs c seen => simp [Blk.isHot] at hB
        | row hot' sz' es =>
          rcases this with ⟨p1, _⟩ | ⟨b', _, _, _, _, p1, _, _, _, _, _, p7⟩
          · rw [p1] at q2; cases q2
          · rw [p1] at q2
            cases q2
            exact .inl (p7 (by simpa [Blk.isHot] using hB))
  have hcells : ∀ {as' as : List AV} {vs : List Value}, rdVs lend σ H Hs.length as' as → VRs M H.length w as' vs → VRs M2 Hs.length w as vs := by
    intro as'
    induction as' with
    | nil =>
      intro as vs h1 h2
      cases as with
      | nil => unfold VRs at h2 ⊢; exact h2
      | cons a as => simp [rdVs] at h1
    | cons a' as' ih =>
      intro as vs h1 h2
      cases as with
      | nil => simp [rdVs] at h1
      | cons a as =>
        unfold rdVs at h1
        unfold VRs at h2 ⊢
        obtain ⟨u, r, e, h0, h3, h4⟩ := h2
        exact ⟨u, r, e, h0, hval h1.1 h3, ih h1.2 h4⟩
  have hrows : ∀ {sz : Nat} {es' es : List (List AV)} {vs : List Value}, rdEs lend σ H Hs.length es' es → VRss M H.length w sz es' vs → VRss M2 Hs.length w sz es vs ∧ es'.length = es.length := by
    intro sz es'
    induction es' with
    | nil =>
      intro es vs h1 h2
      cases es with
      | nil => unfold VRss at h2 ⊢; exact ⟨h2, rfl⟩
      | cons a as => simp [rdEs] at h1
    | cons a' as' ih =>
      intro es vs h1 h2
      cases es with
      | nil => simp [rdEs] at h1
      | cons a as =>
        unfold rdEs at h1
        unfold VRss at h2 ⊢
        obtain ⟨c, r, e, h0, h3, h4⟩ := h2
        obtain ⟨k1, k2⟩ := ih h1.2 h4
        exact ⟨⟨c, r, e, h0, hcells h1.1 h3, k1⟩, by simp [k2]⟩
  have hargs : ∀ {as' as : List AV} {vs : List Value}, rdAs lend σ H Hs.length as' as → VRt M H.length w as' vs → VRt M2 Hs.length w as vs := by
    intro as'
    induction as' with
    | nil =>
      intro as vs h1 h2
      cases as with
      | nil => unfold VRt at h2 ⊢; exact h2
      | cons a as => simp [rdAs] at h1
    | cons a' as' ih =>
      intro as vs h1 h2
      cases as with
      | nil => simp [rdAs] at h1
      | cons a as =>
        unfold rdAs at h1
        unfold VRt at h2 ⊢
        obtain ⟨u, r, e, h3, h4⟩ := h2
        refine ⟨u, r, e, ?_, ih h1.2 h4⟩
        rcases h1.1 with k | ⟨cs', cs, rfl, rfl, k⟩ | ⟨sz, es', es, rfl, rfl, k⟩
        · exact hval k h3
        · unfold VR at h3 ⊢
          obtain ⟨us, e2, h5⟩ := h3
          exact ⟨us, e2, hcells k h5⟩
        · unfold VR at h3 ⊢
          obtain ⟨ao, cap, us, e2, h5, h6⟩ := h3
          obtain ⟨h7, h8⟩ := hrows k h5
          rw [h8] at h6 e2
          exact ⟨ao, cap, us, e2, h7, h6.mono hGG (fun _ _ => rfl)⟩
  exact hargs ha hv
/-! ### the rules at a call -/
/-- .. nothing is lent. -/
theorem z_at {K : Kvh} {r0 : AV} {L0 : Heap} (h : ACalls E g as Hs fun r H' => r = r0 ∧ H' = L0) (σ : List Nat) (hσ : σ.Nodup) (hlt : ∀ q ∈ σ, q < H.length) (hH : okL Hs.length (sg H.length σ) H Hs σ) (ha : rdAs false σ H Hs.length as' as)
    (hk : K.k (amap (sg H.length σ) r0) (back σ H L0)) : jcall (K := K) E g as' H :=
  ⟨_, h.frame false σ hσ (okL_len hH).symm hlt (fun k B hk => okL_at hH k B hk) ha (fun _ _ _ hl => by cases hl), by rintro r' H'' ⟨r, H', ⟨rfl, rfl⟩, rfl, rfl⟩; exact hk⟩
/-! ### where Go leaves the order open -/
theorem back_nil (H H' : Heap) : back [] H H' = H ++ H'.map (Option.map (bmap (sg H.length []))) := by cases H' <;> rfl
theorem jx {p : AV → Prop} {x : AV} {K : Kv} (h : p x) (k : K.k x) : jex p := ⟨x, h, k⟩
theorem jxg {p : AV → Option Blk → Prop} {x : AV} {B : Option Blk} {K : Kvg} (h : p x B) (k : K.k x B) : jexg p := ⟨x, B, h, k⟩
theorem jxh {p : AV → Heap → Prop} {x : AV} {B : Heap} {K : Kvh} (h : p x B) (k : K.k x B) : jexh p := ⟨x, B, h, k⟩
theorem jx_at {K : Kv} {r0 : AV} {L0 : Heap} (h : ACalls E g as Hs fun r H' => r = r0 ∧ H' = L0) (σ : List Nat) (hσ : σ.Nodup) (hlt : ∀ q ∈ σ, q < H.length) (hH : okL Hs.length (sg H.length σ) H Hs σ) (ha : rdAs false σ H Hs.length as' as)
    (he : back σ H L0 = H) (hk : K.k (amap (sg H.length σ) r0)) : @jex (fun v => @jcall E g as' H ⟨fun v' H' => v' = v ∧ H' = H⟩) K := jx (z_at h σ hσ hlt hH ha ⟨rfl, he⟩) hk
theorem jxg_at {K : Kvg} {r0 : AV} {B0 : Option Blk} (h : ACalls E g as [] fun r H' => r = r0 ∧ H' = [B0]) (ha : rdAs false [] H 0 as' as) (hk : K.k (amap (sg H.length []) r0) (B0.map (bmap (sg H.length [])))) :
    @jexg (fun v B => @jcall E g as' H ⟨fun v' H' => v' = v ∧ H' = H ++ [B]⟩) K := jxg (z_at h [] List.nodup_nil (by simp) trivial ha ⟨rfl, back_nil H [B0]⟩) hk
theorem jxh_at {K : Kvh} {r0 : AV} {L0 : Heap} (h : ACalls E g as Hs fun r H' => r = r0 ∧ H' = L0) (σ : List Nat) (hσ : σ.Nodup) (hlt : ∀ q ∈ σ, q < H.length) (hH : okL Hs.length (sg H.length σ) H Hs σ) (ha : rdAs false σ H Hs.length as' as)
    (hk : K.k (amap (sg H.length σ) r0) (back σ H L0)) : @jexh (fun v H1 => @jcall E g as' H ⟨fun v' H' => v' = v ∧ H' = H1⟩) K := jxh (z_at h σ hσ hlt hH ha ⟨rfl, rfl⟩) hk
section
variable {lend : Bool} {σ : List Nat} {n : Nat}
theorem rd_v {x : Value} : rdV lend σ H n (.v x) (.v x) := .inl ⟨trivial, by unfold amap; exact Wk.refl _⟩
theorem rd_sl {sz : Nat} {es : List (List AV)} (h : nbss 0 es) : rdV lend σ H n (.sl sz es) (.sl sz es) :=
  .inl ⟨by unfold nb; exact nbss.mono (Nat.zero_le _) h, by unfold amap; rw [amapss_id (n := 0) (fun r hr => absurd hr (Nat.not_lt_zero r)) h]; exact Wk.refl _⟩
theorem rd_nil {sz : Nat} : rdV lend σ H n (.v (.slice none 0 0)) (.sl sz []) := .inl ⟨by unfold nb nbss; trivial, by unfold amap amapss; exact Wk.nil sz⟩
theorem rd_mt {sz : Nat} : rdV lend σ H n .mt (.sl sz []) := .inl ⟨by unfold nb nbss; trivial, by
  unfold amap amapss
  intro M n w u h
  unfold VR at h ⊢
  obtain ⟨ao, rfl⟩ := h
  exact ⟨ao, 0, [], rfl, by simp [VRss], ⟨by simp, Nat.le_refl _, Nat.zero_le _, by simp, .inl ⟨rfl, fun _ => rfl⟩⟩⟩⟩
theorem rd_a {a' a : AV} (h : rdV lend σ H n a' a) : rdA lend σ H n a' a := .inl h
theorem rd_agg {cs' cs : List AV} (h : rdVs lend σ H n cs' cs) : rdA lend σ H n (.agg cs') (.agg cs) := .inr (.inl ⟨cs', cs, rfl, rfl, h⟩)
theorem rd_rows {sz : Nat} {es' es : List (List AV)} (h : rdEs lend σ H n es' es) : rdA lend σ H n (.sl sz es') (.sl sz es) := .inr (.inr ⟨sz, es', es, rfl, rfl, h⟩)
end
/-! ### a function's end -/
/-- What is told may be said anew. -/
theorem calls_q {f : FuncId} (h : ACalls E f as H fun r H' => Cl E H.length (fun T H2 => R (T 0) H2) (ofl [(0, r)]) H') : ACalls E f as H R := by
  refine ⟨h.1, fun w M vs hG hv => (h.2 w M vs hG hv).mono ?_⟩
  rintro e w' ⟨r, H', v, M', rfl, ⟨T', H2, hq, hR⟩, hG', hv', hE⟩
  obtain ⟨hn, hq⟩ := hq hE.len
  obtain ⟨M2, g1, g2, g3⟩ := hq M' w' 1 { tmps := #[v], defers := [] } hG' ⟨rfl, fun i => by
    unfold ofl
    split
    · next e => subst e; exact hv'
    · unfold ofl; trivial⟩
  exact ⟨T' 0, H2, v, M2, rfl, hR, g1, g2.2 0, ((ExtB.of (Nat.le_refl _) hE).trans g3).full⟩
/-- .. nothing stays: rows are told as they read. -/
theorem end_d {r r2 : AV} {L : Heap} {p : (Nat → AV) → Heap → Prop} (d : Nat) (hR : p (ofl [(0, r2)]) []) (hr : nb 0 r2 ∧ Wk (frz d L 0 r) r2) : Cl E 0 p (ofl [(0, r)]) L :=
  ⟨ofl [(0, r2)], [], cq_drop (H1 := []) (L := L) d (Nat.le_refl _) (by simp) ⟨⟨hr.1, hr.2⟩, trivial⟩, hR⟩
end
end Go.Am

namespace Go.Am
open Go.RowKit Go.Cx

theorem rall_bytes {G : Nat → Prop} {M : Mem} {n : Nat} {w : World} : ∀ {l : List UInt8} {us : List Value}, RAll G w us l → VRss M n w 1 (l.map bcl) us
  | [], us, h => h
  | b :: l, us, h => by
    obtain ⟨c, r, rfl, h1, h2⟩ := h
    rw [List.map_cons]
    unfold VRss
    have h1 : c = [Value.int .u8 (b.toNat : Int)] := h1
    subst h1
    exact ⟨_, r, rfl, rfl, ⟨_, [], rfl, rfl, rfl, rfl⟩, rall_bytes h2⟩
/-- Rows of rows of bytes. -/
def rows (xss : List (List UInt8)) : AV := .sl 1 (xss.map fun l => [byts l])
end Go.Am

namespace Go.Am
open Go.RowKit Go.Cx
theorem rsl_byts {M : Mem} {n : Nat} {w : World} {l : List UInt8} {v : Value} (h : RSl M.G w v l) : VR M n w (byts l) v := by
  obtain ⟨ao, cap, us, h1, h2, h3⟩ := h
  unfold byts VR
  rw [List.length_map]
  exact ⟨ao, cap, us, h1, rall_bytes h3, h2⟩
theorem vrt0 {M : Mem} {n : Nat} {w : World} : VRt M n w [] [] := by unfold VRt; rfl
theorem vrtc {M : Mem} {n : Nat} {w : World} {a : AV} {l : List AV} {v : Value} {vs : List Value} (h : VR M n w a v) (k : VRt M n w l vs) : VRt M n w (a :: l) (v :: vs) := by
  unfold VRt
  exact ⟨v, vs, rfl, h, k⟩
theorem vr_v {M : Mem} {n : Nat} {w : World} {x : Value} : VR M n w (.v x) x := by unfold VR; rfl
/-- The world's memory, none of it to be written. -/
abbrev M0 (w : World) : Mem := ⟨fun _ => none, fun _ => 0, fun b => b < w.heap.size⟩
end Go.Am

namespace Go.Cx
open Go.RowKit Go.ChangeShapes Go.WideShapes Go.ChangeAt Go.Deep

/-- Values of type t read as data of type α. -/
def Opens (α : Type) [Rep α] (P : Program) (t : TypeId) : Prop :=
  ∀ {H : Type} (enc : TypeId × Value → H) (w : World) (spare : Nat → Bool) (held : Bool) (fuel : Nat) (cs : List Value) (x : DataW H × List MemPlace),
    DataW.trod enc P w 0 spare held fuel t cs = some x → ∃ a : α, Rep.rd (fun b => b < w.heap.size) w cs a
theorem opens_u8 {P : Program} {t : TypeId} (ht : P.underlying t = some (.int .u8)) : Opens UInt8 P t := by
  intro H enc w spare held fuel cs x h
  obtain ⟨a, e0, _, wa⟩ := DataW.trod_int ht h
  have hb : 0 ≤ a ∧ a ≤ 255 := by simpa [Lit.wf, IntKind.min, IntKind.max, IntKind.signed, IntKind.bits] using wa
  refine ⟨UInt8.ofNat a.toNat, ?_⟩
  show cs = [.int .u8 ((UInt8.ofNat a.toNat).toNat : Int)]
  have h2 : (UInt8.ofNat a.toNat).toNat = a.toNat := by simp; omega
  rw [e0, h2]
  congr 2
  omega
theorem opens_slice {α : Type} [Rep α] {P : Program} {t e : TypeId} (ht : P.underlying t = some (.slice e)) (he : P.cellsOf e = Rep.sz α) (hs : 0 < Rep.sz α) (ho : Opens α P e) : Opens (List α) P t := by
  intro H enc w spare held fuel cs x h
  rcases open_slice ht h with ⟨rfl, _⟩ | ⟨a, len, cap, m, n, D, Pl, rfl, _, hl, hM, hm, _, hx⟩
  · exact ⟨[], _, rfl, RSl.nil _ _⟩
  rw [he] at hx
  have hlm : len ≤ m := by rw [hm]; split <;> omega
  have key : ∀ k, k ≤ len → ∃ (cells : List Value) (xs : List α), xs.length = k ∧ RAll (fun b => b < w.heap.size) w cells xs ∧ ∀ j u, cells[j]? = some u → w.cell? (a.add j) = some u := by
    intro k
    induction k with
    | zero => exact fun _ => ⟨[], [], rfl, rfl, fun j u hj => by simp at hj⟩
    | succ k ih =>
      intro hk
      obtain ⟨cells, xs, h1, h2, h3⟩ := ih (by omega)
      obtain ⟨cs', g1, g2⟩ := hx k (by omega)
      obtain ⟨_, g3, g4⟩ := World.cells?_some g1
      obtain ⟨y, hy⟩ := ho enc w spare held n cs' _ g2
      have hcl := h2.len
      rw [h1] at hcl
      refine ⟨cells ++ cs', xs ++ [y], by simp [h1], h2.append (RAll.single hy), fun j u hj => ?_⟩
      rw [List.getElem?_append] at hj
      split at hj
      · exact h3 j u hj
      · have hj2 : j - cells.length < Rep.sz α := by
          have := (List.getElem?_eq_some_iff.1 hj).1
          omega
        have := g4 _ hj2
        rw [hj, add_add] at this
        rw [← this]
        congr 2
        omega
  obtain ⟨cells, xs, h1, h2, h3⟩ := key len (Nat.le_refl _)
  refine ⟨xs, .slice (some a) len cap, rfl, some a, cap, cells, by rw [h1], ?_, h2⟩
  have hcl := h2.len
  refine ⟨hcl, by omega, hM, h2.one, ?_⟩
  by_cases h0 : xs.length = 0
  · exact .inl ⟨h0, fun hno => by cases hno⟩
  · right
    have hpos : 0 < cells.length := by rw [hcl]; exact Nat.mul_pos (by omega) hs
    have hc0 := h3 0 cells[0] (by simp [hpos])
    have ha0 : a.add 0 = a := by simp [Addr.add]
    rw [ha0] at hc0
    obtain ⟨b, off, spot⟩ := a
    have hsp : spot = none := by
      cases spot with
      | none => rfl
      | some q =>
        exfalso
        unfold World.cell? at hc0
        split at hc0 <;> simp at hc0
    subst hsp
    refine ⟨b, off, rfl, block_lt_of_cell hc0, fun j u hj => ?_⟩
    have := h3 j u hj
    rwa [addr_add] at this
/-- An argument that is one value of one cell. -/
theorem Opens.arg {α : Type} [Rep α] {P : Program} {t : TypeId} (ho : Opens (List α) P t) {H : Type} {enc : TypeId × Value → H} {w : World} {spare : Nat → Bool} {held : Bool} {v : Value} {d : DataW H} {p : List MemPlace}
    (hv : v.cells.toList = [v]) (h : DataW.Trod enc P w 0 spare held t v d p) : ∃ xs : List α, RSl (fun b => b < w.heap.size) w v xs := by
  obtain ⟨fuel, h⟩ := h
  rw [hv] at h
  obtain ⟨xs, v', e, hx⟩ := ho enc w spare held fuel _ _ h
  simp at e
  subst e
  exact ⟨xs, hx⟩
end Go.Cx

namespace Go.Am
open Go.RowKit Go.Cx

/-- The cells of an array of bytes. -/
def bvs (l : List UInt8) : List AV := l.map fun b => .v (.int .u8 (b.toNat : Int))
theorem bvs_cons (b : UInt8) (l : List UInt8) : bvs (b :: l) = .v (.int .u8 (b.toNat : Int)) :: bvs l := rfl
/-- An object's cells, written one by one. -/
theorem splice_cs {off : Nat} {new cs : List AV} {c : AV} : splice off new (c :: cs) = (c :: cs).take off ++ new ++ (c :: cs).drop (off + new.length) := (rfl)
theorem chunks_bvs : ∀ {n : Nat} {l : List UInt8}, n ≤ l.length → chunks 1 n (bvs l) = (l.take n).map bcl
  | 0, l, _ => by simp [chunks]
  | n + 1, [], h => by simp at h
  | n + 1, b :: l, h => by
    unfold chunks
    rw [bvs_cons]
    simp only [List.take_succ_cons, List.take_zero, List.drop_succ_cons, List.drop_zero, List.map_cons]
    rw [chunks_bvs (by simpa using h)]
    rfl
theorem flat_bcl (l : List UInt8) : (l.map bcl).flatten = bvs l := by
  induction l with
  | nil => rfl
  | cons b l ih => simp only [List.map_cons, List.flatten_cons, ih, bvs_cons]; rfl
theorem nbs_bvs {n : Nat} (l : List UInt8) : nbs n (bvs l) = True := eq_true (nbs_iff.2 fun a ha => by
  obtain ⟨b, _, rfl⟩ := List.mem_map.1 ha
  trivial)
section
variable [K : Kv]
end
end Go.Am
namespace Go.Am
open Go.RowKit Go.Cx

section
variable {P : Program} {t e : TypeId} {n : Nat} {k : IntKind} {z : Option Value} {b : Nat} {x y : Operand}
section
variable {lo : Option AV} {hi mx : AV} {K : Kv} {sz : Nat}
theorem jslice3_sl {es : List (List AV)} : jslice P t (.sl sz es) lo (some hi) (some mx) = match slI P t, abound lo 0, abound (some hi) es.length, abound (some mx) es.length with
    | some (_, s), some l, some h, some m => (0 ≤ l ∧ l ≤ h ∧ h ≤ m ∧ m ≤ es.length) ∧ (if m = l then K.k .mt else sz = s ∧ K.k (.sl s ((es.take h.toNat).drop l.toNat)))
    | _, _, _, _ => False := by
  unfold jslice aslice
  apply propext
  simp only [alen, Option.some.injEq, Option.isSome_some, true_and, forall_const]
  constructor
  · rintro ⟨e, s, h1, n, rfl, l, h, m, h2, h3, h4, h5, h6, h7⟩
    rw [h1, h2, h3, h4]
    refine ⟨h5, ?_⟩
    split
    · next q => exact h6 q
    · next q => obtain ⟨rfl, k⟩ := h7 q; exact ⟨rfl, k⟩
  · intro h0
    split at h0
    case h_2 => exact h0.elim
    case h_1 e s l h m h1 h2 h3 h4 =>
    obtain ⟨h5, h6⟩ := h0
    refine ⟨e, s, h1, _, rfl, l, h, m, h2, h3, h4, h5, fun q => ?_, fun q => ?_⟩
    · rw [if_pos q] at h6; exact h6
    · rw [if_neg q] at h6; exact h6
end
end
end Go.Am

namespace Go.Am
open Go.RowKit Go.Cx

/-! ### bytes and strings -/
theorem bcl_inj {l m : List UInt8} (h : l.map bcl = m.map bcl) : l = m := by
  refine List.map_inj_right (fun a b e => ?_) |>.1 h
  simp only [bcl, List.cons.injEq, AV.v.injEq, Value.int.injEq, and_true, true_and] at e
  exact UInt8.toNat_inj.1 (Int.ofNat.inj e)
def jstr (o : Option (List (List AV))) (H : Heap) [K : Kvh] : Prop := ∃ l, o = some (l.map bcl) ∧ K.k (.v (.string (str l))) H
section
variable {H : Heap} [K : Kvh]
theorem jstr_map {l : List UInt8} : jstr (some (l.map bcl)) H = K.k (.v (.string (str l))) H := by
  unfold jstr
  apply propext
  constructor
  · rintro ⟨m, h1, h2⟩
    rw [bcl_inj (Option.some.inj h1)]
    exact h2
  · intro h
    exact ⟨l, rfl, h⟩
/-- .. byte by byte. -/
def jstrc (l : List UInt8) (es : List (List AV)) (H : Heap) [K : Kvh] : Prop := ∃ m, es = m.map bcl ∧ K.k (.v (.string (str (l ++ m)))) H
theorem jstrc_cons {l : List UInt8} {a : UInt8} {es : List (List AV)} : jstrc l (bcl a :: es) H = jstrc (l ++ [a]) es H := by
  unfold jstrc
  apply propext
  constructor
  · rintro ⟨m, h1, h2⟩
    cases m with
    | nil => cases h1
    | cons b m =>
      simp only [List.map_cons, List.cons.injEq] at h1
      have : a = b := by
        have h3 := h1.1
        simp only [bcl, List.cons.injEq, AV.v.injEq, Value.int.injEq, and_true, true_and] at h3
        exact UInt8.toNat_inj.1 (Int.ofNat.inj h3)
      subst this
      exact ⟨m, h1.2, by simpa using h2⟩
  · rintro ⟨m, rfl, h2⟩
    exact ⟨a :: m, rfl, by simpa using h2⟩
theorem jstrc_nil {l : List UInt8} : jstrc l [] H = K.k (.v (.string (str l))) H := by
  unfold jstrc
  apply propext
  constructor
  · rintro ⟨m, h1, h2⟩
    cases m with
    | nil => simpa using h2
    | cons b m => cases h1
  · intro h
    exact ⟨[], rfl, by simpa using h⟩
theorem jstrc_map {l m : List UInt8} : jstrc l (m.map bcl) H = K.k (.v (.string (str (l ++ m)))) H := by
  unfold jstrc
  apply propext
  constructor
  · rintro ⟨m', h1, h2⟩
    rw [bcl_inj h1]
    exact h2
  · intro h
    exact ⟨m, rfl, h⟩
end
section
variable {P : Program} {s d : TypeId} {H : Heap} [K : Kvh]
theorem jconv_sl {sz : Nat} {es : List (List AV)} : jconv P s d (.sl sz es) H = match P.underlying s, P.underlying d with
    | some (.slice e), some .string => P.underlying e = some (.int .u8) ∧ jstr (elems H 1 (.sl sz es)) H
    | _, _ => aconv P s d (.sl sz es) H K.k := by
  unfold jconv
  split
  · next h1 h2 => simp only [aconv, h1, h2]; rfl
  · rfl
theorem jconv_hs {r sz off n : Nat} : jconv P s d (.hs r sz off n) H = match P.underlying s, P.underlying d with
    | some (.slice e), some .string => P.underlying e = some (.int .u8) ∧ jstr (elems H 1 (.hs r sz off n)) H
    | some (.slice e), some (.slice _) => s = d ∧ P.underlying e = some (.int .u8) ∧ off = 0 ∧ (match H[r]? with
      | some (some (.row true sz' _)) => sz' = sz
      | _ => False) ∧ 0 < n ∧ K.k (.hs r sz 0 n) H
    | _, _ => aconv P s d (.hs r sz off n) H K.k := by
  unfold jconv
  split
  · next h1 h2 => simp only [aconv, h1, h2]; rfl
  · next h1 h2 =>
    simp only [aconv, h1, h2]
    apply propext
    constructor
    · rintro ⟨h3, h4, h5⟩
      cases off with
      | zero =>
        obtain ⟨⟨es, h6⟩, h7, h8⟩ := h5
        rw [h6]
        exact ⟨h3, h4, rfl, rfl, h7, h8⟩
      | succ k => exact h5.elim
    · rintro ⟨h3, h4, rfl, h5, h6, h7⟩
      refine ⟨h3, h4, ?_⟩
      split at h5
      · next es he => subst h5; exact ⟨⟨es, he⟩, h6, h7⟩
      · exact h5.elim
  · rfl
theorem jconv_os {r sz off n : Nat} : jconv P s d (.os r sz off n) H = match P.underlying s, P.underlying d with
    | some (.slice e), some .string => P.underlying e = some (.int .u8) ∧ jstr (elems H 1 (.os r sz off n)) H
    | _, _ => aconv P s d (.os r sz off n) H K.k := by
  unfold jconv
  split
  · next h1 h2 => simp only [aconv, h1, h2]; rfl
  · rfl
theorem jconv_mt : jconv P s d .mt H = match P.underlying s, P.underlying d with
    | some (.slice e), some .string => P.underlying e = some (.int .u8) ∧ jstr (some []) H
    | _, _ => aconv P s d .mt H K.k := by
  unfold jconv
  split
  · next h1 h2 => simp only [aconv, h1, h2]; rfl
  · rfl
theorem jconv_nil : jconv P s d (.v (.slice none 0 0)) H = match P.underlying s, P.underlying d with
    | some (.slice e), some .string => P.underlying e = some (.int .u8) ∧ jstr (some []) H
    | _, _ => aconv P s d (.v (.slice none 0 0)) H K.k := by
  unfold jconv
  split
  · next h1 h2 => simp only [aconv, h1, h2]; rfl
  · rfl
theorem jconv_str {b : ByteArray} : jconv P s d (.v (.string b)) H = match P.underlying s, P.underlying d with
    | some .string, some (.slice e) => P.underlying e = some (.int .u8) ∧ b.size ≤ 68719476736 ∧ K.k (.hs H.length 1 0 b.size) (H ++ [some (.row true 1 (b.toList.map bcl))])
    | _, _ => aconv P s d (.v (.string b)) H K.k := by
  unfold jconv
  split
  · next h1 h2 => simp only [aconv, h1, h2]
  · rfl
end
/-! ### nil -/
section
variable {P : Program} {t : TypeId} {x y : Operand} [K : Kv]
theorem jbin_eq_nn : jbin P .eql t x y (.v (.pointer none)) (.v (.pointer none)) = match P.underlying t with
    | some (.pointer _) => K.k (.v (.bool true))
    | _ => abin P .eql t x y (.v (.pointer none)) (.v (.pointer none)) K.k := by
  split
  · next e he =>
    unfold jbin abin
    refine pureR (v := .bool true) fun w => ?_
    show (do pure (Value.bool (← Op.equalIn (9999 + 1) t _ _)) : Sem Value).run P w = _
    generalize 9999 = d
    simp only [Op.equalIn, Sem.run_bind, run_underlying he, Result.andThen_ok, Sem.run_pure, Option.isNone_none]
  · rfl
theorem jbin_ne_nn : jbin P .neq t x y (.v (.pointer none)) (.v (.pointer none)) = match P.underlying t with
    | some (.pointer _) => K.k (.v (.bool false))
    | _ => abin P .neq t x y (.v (.pointer none)) (.v (.pointer none)) K.k := by
  split
  · next e he =>
    unfold jbin abin
    refine pureR (v := .bool false) fun w => ?_
    show (do pure (Value.bool (!(← Op.equalIn (9999 + 1) t _ _))) : Sem Value).run P w = _
    generalize 9999 = d
    simp only [Op.equalIn, Sem.run_bind, run_underlying he, Result.andThen_ok, Sem.run_pure, Option.isNone_none, Bool.not_true]
  · rfl
theorem jbin_eq_pn {r off : Nat} : jbin P .eql t x y (.ptr r off) (.v (.pointer none)) = match P.underlying t with
    | some (.pointer _) => K.k (.v (.bool false))
    | _ => False := by
  unfold jbin abin
  simp only [conc]
  cases P.underlying t with
  | none => simp
  | some d => cases d <;> simp [aeq, aeqS, nilS, nilP, nilF, surePtr, sureFn, sureMp, nilM]
theorem jbin_ne_pn {r off : Nat} : jbin P .neq t x y (.ptr r off) (.v (.pointer none)) = match P.underlying t with
    | some (.pointer _) => K.k (.v (.bool true))
    | _ => False := by
  unfold jbin abin
  simp only [conc]
  cases P.underlying t with
  | none => simp
  | some d => cases d <;> simp [aeq, aeqS, nilS, nilP, nilF, surePtr, sureFn, sureMp, nilM]
theorem jbin_eq_bb {a b : Bool} : jbin P .eql t x y (.v (.bool a)) (.v (.bool b)) = match P.underlying t with
    | some .bool => K.k (.v (.bool (a == b)))
    | _ => abin P .eql t x y (.v (.bool a)) (.v (.bool b)) K.k := by
  split
  · next he =>
    unfold jbin abin
    refine pureR (v := .bool (a == b)) fun w => ?_
    show (do pure (Value.bool (← Op.equalIn (9999 + 1) t _ _)) : Sem Value).run P w = _
    simp only [Sem.run_bind, run_equalIn_bool w _ _ _ _ he, Result.andThen_ok, Sem.run_pure]
  · rfl
theorem jbin_ne_bb {a b : Bool} : jbin P .neq t x y (.v (.bool a)) (.v (.bool b)) = match P.underlying t with
    | some .bool => K.k (.v (.bool (!(a == b))))
    | _ => abin P .neq t x y (.v (.bool a)) (.v (.bool b)) K.k := by
  split
  · next he =>
    unfold jbin abin
    refine pureR (v := .bool (!(a == b))) fun w => ?_
    show (do pure (Value.bool (!(← Op.equalIn (9999 + 1) t _ _))) : Sem Value).run P w = _
    simp only [Sem.run_bind, run_equalIn_bool w _ _ _ _ he, Result.andThen_ok, Sem.run_pure]
  · rfl
end
theorem oc_int {k : IntKind} {n : Int} : (Value.int k n).oneCell' = true := rfl
theorem oc_bool {b : Bool} : (Value.bool b).oneCell' = true := rfl
theorem oc_str {b : ByteArray} : (Value.string b).oneCell' = true := rfl
theorem oc_slice {a : Option Addr} {n c : Nat} : (Value.slice a n c).oneCell' = true := rfl
theorem oc_ptr {a : Option Addr} : (Value.pointer a).oneCell' = true := rfl
theorem oc_nilF : (Value.nilFunc).oneCell' = true := rfl
/-! ### ways that part -/
theorem jg_st {K : Kg} {b : Bool} (h1 : b = true → K.run) (h2 : b = false → K.skip) : jguard (K := K) (some (some b)) true := ⟨h1, fun h => h2 (by cases b <;> simp_all)⟩
theorem jg_sf {K : Kg} {b : Bool} (h1 : b = false → K.run) (h2 : b = true → K.skip) : jguard (K := K) (some (some b)) false := ⟨h1, fun h => h2 (by cases b <;> simp_all)⟩
theorem jall_s {K : Kv} {p : Bool → Prop} (h1 : p true → K.k (.v (.bool true))) (h2 : p false → K.k (.v (.bool false))) : jall (K := K) p := fun t ht => match t, ht with
  | true, ht => h1 ht
  | false, ht => h2 ht
theorem jalln_s {K : Kv} {p : Bool → Prop} (h1 : p true → K.k (.v (.bool false))) (h2 : p false → K.k (.v (.bool true))) : jalln (K := K) p := fun t ht => match t, ht with
  | true, ht => h1 ht
  | false, ht => h2 ht
theorem jpk_s {K : Kv} {b : Bool} {x y : AV} (h1 : b = true → K.k x) (h2 : b = false → K.k y) : jpick (K := K) b x y := ⟨h1, h2⟩
/-! ### what is handed to a call, reckoned -/
def okV (lend : Bool) (σ : List Nat) (H : Heap) (n : Nat) : AV → AV → Prop
  | _, .any => True
  | .v x, .v y => x = y
  | .v x, .sl _ es => x = .slice none 0 0 ∧ es = []
  | .mt, .sl _ es => es = []
  | .mt, .mt => True
  | .sl sz' es', .sl sz es => sz' = sz ∧ es' = es ∧ nbss 0 es
  | .hs r sz' off k, .sl sz es => lend = true ∧ r ∉ σ ∧ elems H sz (.hs r sz' off k) = some es ∧ nbss 0 es ∧ gfss es
  | .os r sz' off k, .sl sz es => lend = true ∧ r ∉ σ ∧ elems H sz (.os r sz' off k) = some es ∧ nbss 0 es ∧ gfss es
  | .hs r sz' off k, .hs q sz off2 k2 => q < n ∧ sg H.length σ q = r ∧ sz' = sz ∧ off = off2 ∧ k = k2
  | .os r sz' off k, .os q sz off2 k2 => q < n ∧ sg H.length σ q = r ∧ sz' = sz ∧ off = off2 ∧ k = k2
  | .ptr r off, .ptr q off2 => q < n ∧ sg H.length σ q = r ∧ off = off2
  | .rp r sz i off, .rp q sz2 i2 off2 => q < n ∧ sg H.length σ q = r ∧ sz = sz2 ∧ i = i2 ∧ off = off2
  | .cptr cs, .cptr cs2 => cs = cs2 ∧ nbs 0 cs2
  | .agg cs, .agg cs2 => cs = amaps (sg H.length σ) cs2 ∧ nbs n cs2
  | .fn f a b, .fn f2 a2 b2 => f = f2 ∧ a = amaps (sg H.length σ) a2 ∧ b = amaps (sg H.length σ) b2 ∧ nbs n a2 ∧ nbs n b2
  | _, _ => False
def okVs (lend : Bool) (σ : List Nat) (H : Heap) (n : Nat) : List AV → List AV → Prop
  | [], [] => True
  | a :: r, b :: t => okV lend σ H n a b ∧ okVs lend σ H n r t
  | _, _ => False
def okEs (lend : Bool) (σ : List Nat) (H : Heap) (n : Nat) : List (List AV) → List (List AV) → Prop
  | [], [] => True
  | a :: r, b :: t => okVs lend σ H n a b ∧ okEs lend σ H n r t
  | _, _ => False
def okA (lend : Bool) (σ : List Nat) (H : Heap) (n : Nat) (a b : AV) : Prop :=
  match a, b with
  | .agg cs, .agg cs2 => okVs lend σ H n cs cs2
  | .sl sz es, .sl sz2 es2 => sz = sz2 ∧ ((es = es2 ∧ nbss 0 es2) ∨ okEs lend σ H n es es2)
  | a, b => okV lend σ H n a b
def okAs (lend : Bool) (σ : List Nat) (H : Heap) (n : Nat) : List AV → List AV → Prop
  | [], [] => True
  | a :: r, b :: t => okA lend σ H n a b ∧ okAs lend σ H n r t
  | _, _ => False
section
variable {lend : Bool} {σ : List Nat} {H : Heap} {n : Nat}
theorem okV_rd {a b : AV} (h : okV lend σ H n a b) : rdV lend σ H n a b := by
  unfold okV at h
  split at h
  case h_1 => exact .inl ⟨trivial, by unfold amap; exact Wk.any _⟩
  case h_2 => subst h; exact rd_v
  case h_3 => obtain ⟨rfl, rfl⟩ := h; exact rd_nil
  case h_4 => subst h; exact rd_mt
  case h_5 => exact .inl ⟨trivial, by unfold amap; exact Wk.refl _⟩
  case h_6 => obtain ⟨rfl, rfl, h⟩ := h; exact rd_sl h
  case h_7 r sz' off k sz es =>
    obtain ⟨rfl, h1, h2, h3, h4⟩ := h
    exact .inr ⟨rfl, r, sz, es, rfl, h1, h2, h3, h4, rfl⟩
  case h_8 r sz' off k sz es =>
    obtain ⟨rfl, h1, h2, h3, h4⟩ := h
    exact .inr ⟨rfl, r, sz, es, rfl, h1, h2, h3, h4, rfl⟩
  case h_9 => obtain ⟨h1, rfl, rfl, rfl, rfl⟩ := h; exact .inl ⟨h1, by unfold amap; exact Wk.refl _⟩
  case h_10 => obtain ⟨h1, rfl, rfl, rfl, rfl⟩ := h; exact .inl ⟨h1, by unfold amap; exact Wk.refl _⟩
  case h_11 => obtain ⟨h1, rfl, rfl⟩ := h; exact .inl ⟨h1, by unfold amap; exact Wk.refl _⟩
  case h_12 => obtain ⟨h1, rfl, rfl, rfl, rfl⟩ := h; exact .inl ⟨h1, by unfold amap; exact Wk.refl _⟩
  case h_13 =>
    obtain ⟨rfl, h⟩ := h
    exact .inl ⟨by unfold nb; exact nbs_iff.2 fun a ha => nb.mono (Nat.zero_le _) (nbs_iff.1 h a ha), by unfold amap; rw [amaps_id (n := 0) (fun r hr => absurd hr (Nat.not_lt_zero r)) h]; exact Wk.refl _⟩
  case h_14 => obtain ⟨rfl, h⟩ := h; exact .inl ⟨h, by (conv => rhs; unfold amap); exact Wk.refl _⟩
  case h_15 => obtain ⟨rfl, rfl, rfl, h1, h2⟩ := h; exact .inl ⟨⟨h1, h2⟩, by (conv => rhs; unfold amap); exact Wk.refl _⟩
  case h_16 => exact h.elim
theorem okVs_rd : ∀ {a b : List AV}, okVs lend σ H n a b → rdVs lend σ H n a b
  | [], [], _ => trivial
  | _ :: _, _ :: _, h => ⟨okV_rd h.1, okVs_rd h.2⟩
  | [], _ :: _, h => h.elim
  | _ :: _, [], h => h.elim
theorem okEs_rd : ∀ {a b : List (List AV)}, okEs lend σ H n a b → rdEs lend σ H n a b
  | [], [], _ => trivial
  | _ :: _, _ :: _, h => ⟨okVs_rd h.1, okEs_rd h.2⟩
  | [], _ :: _, h => h.elim
  | _ :: _, [], h => h.elim
theorem okA_rd {a b : AV} (h : okA lend σ H n a b) : rdA lend σ H n a b := by
  unfold okA at h
  split at h
  · exact rd_agg (okVs_rd h)
  · obtain ⟨rfl, ⟨rfl, h⟩ | h⟩ := h
    · exact rd_a (rd_sl h)
    · exact rd_rows (okEs_rd h)
  · exact rd_a (okV_rd h)
theorem okAs_rd : ∀ {a b : List AV}, okAs lend σ H n a b → rdAs lend σ H n a b
  | [], [], _ => trivial
  | _ :: _, _ :: _, h => ⟨okA_rd h.1, okAs_rd h.2⟩
  | [], _ :: _, h => h.elim
  | _ :: _, [], h => h.elim
end
/-! ### slots that nobody looks at any more are forgotten -/
def jlive (l : List (Nat × AV)) (H : Heap) [K : Kth] : Prop := K.k (ofl l) H
theorem jl_go {K : Kth} {l : List (Nat × AV)} {H : Heap} (h : K.k (ofl l) H) : jlive (K := K) l H := h
def sel (T : Nat → AV) : List Nat → List (Nat × AV)
  | [] => []
  | i :: r => (i, T i) :: sel T r
theorem sel_nil {T : Nat → AV} : sel T [] = [] := rfl
theorem sel_cons {T : Nat → AV} {i : Nat} {r : List Nat} : sel T (i :: r) = (i, T i) :: sel T r := rfl
theorem sel_mem {T : Nat → AV} : ∀ {l : List Nat}, ∀ x ∈ sel T l, Wk (T x.1) x.2
  | [], x, h => by cases h
  | i :: r, x, h => by
    rcases List.mem_cons.1 h with rfl | h
    · exact Wk.refl _
    · exact sel_mem x h
def tabAt : List (Nat × List Nat) → Nat → List Nat
  | [], _ => []
  | (j, l) :: r, i => if i = j then l else tabAt r i
theorem tabAt_cons {j i : Nat} {l : List Nat} {r : List (Nat × List Nat)} : tabAt ((j, l) :: r) i = if i = j then l else tabAt r i := rfl
/-- The end of region i. -/
def jend (E : Env) (n i : Nat) (T : Nat → AV) (H : Heap) [K : Kth] : Prop := Cl E n K.k T H
section
variable {E : Env} {n i : Nat} {T : Nat → AV} {H : Heap} {Q : Exit → (Nat → AV) → Heap → Prop} {c b : Code} {ops : Array Oper}
theorem jend_go {K : Kth} (tab : List (Nat × List Nat)) (h : @jlive (sel T (tabAt tab i)) H K) : @jend E n i T H K := ⟨_, H, cq_slots sel_mem, h⟩
theorem z_seqr (hc : c = .seq (.region i ops false) b) (h : @jops E ops ops.toList T H ⟨fun T' H' => @jend E n i T' H' ⟨fun T2 H2 => awp E n b Q T2 H2⟩⟩) : awp E n c Q T H := by
  subst hc
  exact h
theorem z_seqd (i : Nat) (ks : List Kd) (hc : c = .seq (.region i ops true) b) (hm : E.P.follows .mixedOrders = true) (hok : drawOk ops ks = true)
    (h : @jdraw E ops H ops.toList ks T H ⟨fun T' H' => @jend E n i T' H' ⟨fun T2 H2 => awp E n b Q T2 H2⟩⟩) : awp E n c Q T H := by
  subst hc
  exact ⟨hm, ks, hok, h⟩
end
end Go.Am

namespace Go.Am
open Go.RowKit Go.Cx

def sgOk (n : Nat) : List Nat → Prop
  | [] => True
  | q :: σ => (q < n ∧ q ∉ σ) ∧ sgOk n σ
theorem sgOk_out {n : Nat} : ∀ {σ : List Nat}, sgOk n σ → σ.Nodup ∧ ∀ q ∈ σ, q < n
  | [], _ => ⟨List.nodup_nil, by simp⟩
  | q :: σ, ⟨⟨h1, h2⟩, h3⟩ => by
    obtain ⟨h4, h5⟩ := sgOk_out h3
    refine ⟨List.nodup_cons.2 ⟨h2, h4⟩, fun x hx => ?_⟩
    rcases List.mem_cons.1 hx with rfl | hx
    · exact h1
    · exact h5 x hx
/-- What a call asks. -/
def cok (lend : Bool) (σ : List Nat) (H Hs : Heap) (as' as : List AV) : Prop := sgOk H.length σ ∧ okL Hs.length (sg H.length σ) H Hs σ ∧ okAs lend σ H Hs.length as' as
section
variable {E : Env} {H Hs : Heap} {g : FuncId} {as as' : List AV} {r0 : AV} {L0 : Heap} {B0 : Option Blk}
theorem zc {K : Kvh} (h : ACalls E g as Hs fun r H' => r = r0 ∧ H' = L0) (σ : List Nat) (ok : cok false σ H Hs as' as) (hk : K.k (amap (sg H.length σ) r0) (back σ H L0)) : jcall (K := K) E g as' H :=
  z_at h σ (sgOk_out ok.1).1 (sgOk_out ok.1).2 ok.2.1 (okAs_rd ok.2.2) hk
theorem jxc {K : Kv} (h : ACalls E g as Hs fun r H' => r = r0 ∧ H' = L0) (σ : List Nat) (ok : cok false σ H Hs as' as ∧ back σ H L0 = H) (hk : K.k (amap (sg H.length σ) r0)) : @jex (fun v => @jcall E g as' H ⟨fun v' H' => v' = v ∧ H' = H⟩) K :=
  jx_at h σ (sgOk_out ok.1.1).1 (sgOk_out ok.1.1).2 ok.1.2.1 (okAs_rd ok.1.2.2) ok.2 hk
theorem jxgc {K : Kvg} (h : ACalls E g as [] fun r H' => r = r0 ∧ H' = [B0]) (ok : okAs false [] H 0 as' as) (hk : K.k (amap (sg H.length []) r0) (B0.map (bmap (sg H.length [])))) : @jexg (fun v B => @jcall E g as' H ⟨fun v' H' => v' = v ∧ H' = H ++ [B]⟩) K :=
  jxg_at h (okAs_rd ok) hk
theorem jxhc {K : Kvh} (h : ACalls E g as Hs fun r H' => r = r0 ∧ H' = L0) (σ : List Nat) (ok : cok false σ H Hs as' as) (hk : K.k (amap (sg H.length σ) r0) (back σ H L0)) : @jexh (fun v H1 => @jcall E g as' H ⟨fun v' H' => v' = v ∧ H' = H1⟩) K :=
  jxh_at h σ (sgOk_out ok.1).1 (sgOk_out ok.1).2 ok.2.1 (okAs_rd ok.2.2) hk
end
/-! ### ways that part, marked -/
structure Mk (p : Prop) : Prop where
  out : p
theorem mc_b {K : Kc} {b : Bool} (h1 : Mk (b = true) → K.x) (h2 : Mk (b = false) → K.y) : jcnd (K := K) (.v (.bool b)) := jc_b (fun h => h1 ⟨h⟩) fun h => h2 ⟨h⟩
theorem mg_st {K : Kg} {b : Bool} (h1 : Mk (b = true) → K.run) (h2 : Mk (b = false) → K.skip) : jguard (K := K) (some (some b)) true := jg_st (fun h => h1 ⟨h⟩) fun h => h2 ⟨h⟩
theorem mg_sf {K : Kg} {b : Bool} (h1 : Mk (b = false) → K.run) (h2 : Mk (b = true) → K.skip) : jguard (K := K) (some (some b)) false := jg_sf (fun h => h1 ⟨h⟩) fun h => h2 ⟨h⟩
theorem mall_s {K : Kv} {p : Bool → Prop} (h1 : Mk (p true) → K.k (.v (.bool true))) (h2 : Mk (p false) → K.k (.v (.bool false))) : jall (K := K) p := jall_s (fun h => h1 ⟨h⟩) fun h => h2 ⟨h⟩
theorem malln_s {K : Kv} {p : Bool → Prop} (h1 : Mk (p true) → K.k (.v (.bool false))) (h2 : Mk (p false) → K.k (.v (.bool true))) : jalln (K := K) p := jalln_s (fun h => h1 ⟨h⟩) fun h => h2 ⟨h⟩
theorem mpk_s {K : Kv} {b : Bool} {x y : AV} (h1 : Mk (b = true) → K.k x) (h2 : Mk (b = false) → K.k y) : jpick (K := K) b x y := jpk_s (fun h => h1 ⟨h⟩) fun h => h2 ⟨h⟩
end Go.Am

namespace Go.Sha
def rr (x : UInt32) (j : Nat) : UInt32 := (x >>> UInt32.ofNat j) ||| (x <<< UInt32.ofNat (32 - j))
def K256 : List UInt32 := [
  1116352408, 1899447441, 3049323471, 3921009573, 961987163, 1508970993, 2453635748, 2870763221,
  3624381080, 310598401, 607225278, 1426881987, 1925078388, 2162078206, 2614888103, 3248222580,
  3835390401, 4022224774, 264347078, 604807628, 770255983, 1249150122, 1555081692, 1996064986,
  2554220882, 2821834349, 2952996808, 3210313671, 3336571891, 3584528711, 113926993, 338241895,
  666307205, 773529912, 1294757372, 1396182291, 1695183700, 1986661051, 2177026350, 2456956037,
  2730485921, 2820302411, 3259730800, 3345764771, 3516065817, 3600352804, 4094571909, 275423344,
  430227734, 506948616, 659060556, 883997877, 958139571, 1322822218, 1537002063, 1747873779,
  1955562222, 2024104815, 2227730452, 2361852424, 2428436474, 2756734187, 3204031479, 3329325298]
/-- A word out of four bytes. -/
def wd (b : List UInt8) (i : Nat) : UInt32 := UInt32.ofNat ((b.getD (4 * i) 0).toNat * 16777216 + (b.getD (4 * i + 1) 0).toNat * 65536 + (b.getD (4 * i + 2) 0).toNat * 256 + (b.getD (4 * i + 3) 0).toNat)
def lowS (x : UInt32) : UInt32 := rr x 7 ^^^ rr x 18 ^^^ x >>> 3
def highS (y : UInt32) : UInt32 := rr y 17 ^^^ rr y 19 ^^^ y >>> 10
/-- The next word. -/
def nextW (b : List UInt8) (l : List UInt32) (t : Nat) : UInt32 := if t < 16 then wd b t else l.getD (t - 16) 0 + lowS (l.getD (t - 15) 0) + l.getD (t - 7) 0 + highS (l.getD (t - 2) 0)
/-- The first t words of a block. -/
def sch (b : List UInt8) : Nat → List UInt32
  | 0 => []
  | t + 1 => sch b t ++ [nextW b (sch b t) t]
structure St where
  (a c d e f g h k : UInt32)
  deriving DecidableEq
def big1 (f : UInt32) : UInt32 := rr f 6 ^^^ rr f 11 ^^^ rr f 25
def big0 (a : UInt32) : UInt32 := rr a 2 ^^^ rr a 13 ^^^ rr a 22
def ch (f g h : UInt32) : UInt32 := f &&& g ^^^ ~~~f &&& h
def maj (a c d : UInt32) : UInt32 := a &&& c ^^^ a &&& d ^^^ c &&& d
def rnd (s : St) (k w : UInt32) : St :=
  let one := s.k + big1 s.f + ch s.f s.g s.h + k + w
  ⟨one + big0 s.a + maj s.a s.c s.d, s.a, s.c, s.d, s.e + one, s.f, s.g, s.h⟩
/-- i rounds. -/
def rndsK (w q : List UInt32) (s : St) : Nat → St
  | 0 => s
  | i + 1 => rnd (rndsK w q s i) (q.getD i 0) (w.getD i 0)
abbrev rnds (w : List UInt32) (s : St) (i : Nat) : St := rndsK w K256 s i
def addS (s v : St) : St := ⟨s.a + v.a, s.c + v.c, s.d + v.d, s.e + v.e, s.f + v.f, s.g + v.g, s.h + v.h, s.k + v.k⟩
def stp (s : St) (b : List UInt8) : St := addS s (rnds (sch b 64) s 64)
def St.l (s : St) : List UInt32 := [s.a, s.c, s.d, s.e, s.f, s.g, s.h, s.k]
def blocks (s : St) (all : List UInt8) : Nat → St
  | 0 => s
  | n + 1 => blocks (stp s (all.take 64)) (all.drop 64) n
/-! the same, reckoned at once -/
/-! two ways to say it -/
theorem u32_ext {x y : UInt32} (h : ∀ i, x.toBitVec.getLsbD i = y.toBitVec.getLsbD i) : x = y := UInt32.eq_of_toBitVec_eq (BitVec.eq_of_getLsbD_eq fun i _ => h i)
end Go.Sha

namespace Go.Am
open Go.RowKit Go.Cx

/-- The cells of an array of numbers of 32 bits. -/
def uvs (l : List UInt32) : List AV := l.map fun b => .v (.int .u32 (b.toNat : Int))
theorem uvs_cons (b : UInt32) (l : List UInt32) : uvs (b :: l) = .v (.int .u32 (b.toNat : Int)) :: uvs l := rfl
theorem nbs_uvs {n : Nat} (l : List UInt32) : nbs n (uvs l) = True := eq_true (nbs_iff.2 fun a ha => by
  obtain ⟨b, _, rfl⟩ := List.mem_map.1 ha
  trivial)
/-- An element of a row of such numbers. -/
def ucl (b : UInt32) : List AV := [.v (.int .u32 (b.toNat : Int))]
theorem set_ucl {l : List UInt32} {i : Nat} {b : UInt32} : (l.map ucl).set i [.v (.int .u32 (b.toNat : Int))] = (l.set i b).map ucl := by rw [List.map_set]; rfl
/-! ### sums -/
section
variable (x y : UInt32)
theorem b32_xor : bits .xor .u32 (x.toNat : Int) (y.toNat : Int) = ((x ^^^ y).toNat : Int) := by rw [u32_xor_nat _ _ x.toNat_lt y.toNat_lt, UInt32.toNat_xor]
theorem b32_not : bits .xor .u32 4294967295 (x.toNat : Int) = ((~~~x).toNat : Int) := by
  have h : bits .xor .u32 (((4294967295 : UInt32).toNat : Nat) : Int) (x.toNat : Int) = ((4294967295 ^^^ x).toNat : Int) := b32_xor 4294967295 x
  have e : (4294967295 : UInt32) ^^^ x = ~~~x := by
    apply Go.Sha.u32_ext
    intro i
    simp only [UInt32.toBitVec_xor, UInt32.toBitVec_not, BitVec.getLsbD_xor, BitVec.getLsbD_not]
    have h1 : (4294967295 : UInt32).toBitVec = BitVec.allOnes 32 := rfl
    rw [h1, BitVec.getLsbD_allOnes]
    by_cases hi : i < 32
    · simp [hi]
    · simp [hi, BitVec.getLsbD_of_ge _ _ (Nat.le_of_not_lt hi)]
  rw [e] at h
  exact h
end
section
variable {E : Env} {ty t : TypeId} {x : Operand} {ρ : Operand → AV} {H : Heap} [K : Kvh]
theorem jop_cpl : jop E (.unOp .xor t x) ty ρ H = match ρ x with
    | .v (.int k a) => K.k (.v (.int k (bits .xor k (if k.signed then -1 else k.max) a))) H
    | a => aop E (.unOp .xor t x) ty (fun _ => a) H K.k := by
  split
  · next k a h =>
    show (∃ u, conc (ρ x) = some u ∧ ∃ r, Ret E.P (Op.unary .xor u) r ∧ K.k (cv r) H) = _
    rw [h]
    simp only [conc, Option.some.injEq, exists_eq_left']
    exact pureR (K := fun v => K.k v H) (v := .int k (bits .xor k (if k.signed then -1 else k.max) a)) fun w => rfl
  · rfl
theorem sgn_u32 : IntKind.signed .u32 = false := rfl
theorem max_u32 : IntKind.max .u32 = 4294967295 := rfl
end
theorem flat_ucl (l : List UInt32) : (l.map ucl).flatten = uvs l := by
  induction l with
  | nil => rfl
  | cons b l ih => simp only [List.map_cons, List.flatten_cons, ih, uvs_cons]; rfl
section
variable {lend : Bool} {σ : List Nat} {H : Heap} {n : Nat}
theorem okVs_bvs (l : List UInt8) : okVs lend σ H n (bvs l) (bvs l) = True := eq_true (by
  induction l with
  | nil => trivial
  | cons b l ih => exact ⟨rfl, ih⟩)
theorem okVs_uvs (l : List UInt32) : okVs lend σ H n (uvs l) (uvs l) = True := eq_true (by
  induction l with
  | nil => trivial
  | cons b l ih => exact ⟨rfl, ih⟩)
end
theorem getI_ucl {l : List UInt32} {i : Nat} (h : i < l.length) : (l.map ucl)[i]? = some [.v (.int .u32 ((l.getD i 0).toNat : Int))] := by
  rw [List.getElem?_map, List.getElem?_eq_getElem h, List.getD_eq_getElem?_getD, List.getElem?_eq_getElem h]
  rfl
theorem getI_bcl {l : List UInt8} {i : Nat} (h : i < l.length) : (l.map bcl)[i]? = some [.v (.int .u8 ((l.getD i 0).toNat : Int))] := by
  rw [List.getElem?_map, List.getElem?_eq_getElem h, List.getD_eq_getElem?_getD, List.getElem?_eq_getElem h]
  rfl
/-! ### min, max -/
def jmax2 (P : Program) (ts : List TypeId) (ty : TypeId) (l : List AV) (H : Heap) [K : Kvh] : Prop := abuiltin P .max ts ty l H K.k
def jmin2 (P : Program) (ts : List TypeId) (ty : TypeId) (l : List AV) (H : Heap) [K : Kvh] : Prop := abuiltin P .min ts ty l H K.k
section
variable {E : Env} {P : Program} {ty : TypeId} {ρ : Operand → AV} {H : Heap} [K : Kvh] {ts : List TypeId} {k k' : IntKind} {x y : Int}
theorem jop_max {l : Array Operand} {tt : Array TypeId} : jop E (.call ⟨.builtin .max, l, tt⟩) ty ρ H = @jmax2 E.P tt.toList ty (l.toList.map ρ) H K := (rfl)
theorem jop_min {l : Array Operand} {tt : Array TypeId} : jop E (.call ⟨.builtin .min, l, tt⟩) ty ρ H = @jmin2 E.P tt.toList ty (l.toList.map ρ) H K := (rfl)
end
end Go.Am

namespace Go.Am
open Go.RowKit Go.Cx
/-- What is told by plain values, one behind the other. -/
class Cel (α : Type) where
  cel : α → List Value
  dft : α
def cl1 {α : Type} [Cel α] (a : α) : List AV := (Cel.cel a).map .v
def cels {α : Type} [Cel α] (l : List α) : List (List AV) := l.map cl1
def gt {α : Type} [Cel α] (l : List α) (i : Nat) : α := l.getD i Cel.dft
instance : Cel Int := ⟨fun n => [.int .i64 n], 0⟩
instance : Cel Bool := ⟨fun b => [.bool b], false⟩
instance : Cel (Int × Int) := ⟨fun p => [.int .i64 p.1, .int .i64 p.2], (0, 0)⟩
instance : Cel (Int × Bool) := ⟨fun p => [.int .i64 p.1, .bool p.2], (0, false)⟩
instance : Cel (Int × Int × Bool) := ⟨fun p => [.int .i64 p.1, .int .i64 p.2.1, .bool p.2.2], (0, 0, false)⟩
theorem cl1_int (n : Int) : cl1 n = [.v (.int .i64 n)] := rfl
theorem cl1_bool (n : Bool) : cl1 n = [.v (.bool n)] := rfl
theorem cl1_ii (n : Int × Int) : cl1 n = [.v (.int .i64 n.1), .v (.int .i64 n.2)] := rfl
theorem cl1_ib (n : Int × Bool) : cl1 n = [.v (.int .i64 n.1), .v (.bool n.2)] := rfl
theorem cl1_iib (n : Int × Int × Bool) : cl1 n = [.v (.int .i64 n.1), .v (.int .i64 n.2.1), .v (.bool n.2.2)] := rfl
section
variable {α : Type} [Cel α] {l m : List α} {a : α} {i k : Nat}
theorem cels_nil : cels ([] : List α) = [] := rfl
theorem cels_len : (cels l).length = l.length := by simp [cels]
theorem cels_take : (cels l).take k = cels (l.take k) := by simp [cels, List.map_take]
theorem cels_drop : (cels l).drop k = cels (l.drop k) := by simp [cels, List.map_drop]
theorem cels_snoc : cels l ++ [cl1 a] = cels (l ++ [a]) := by simp [cels]
theorem cels_getD (h : i < l.length) : (cels l).getD i [] = cl1 (gt l i) := by
  simp [cels, gt, List.getD_eq_getElem?_getD, List.getElem?_eq_getElem h]
theorem cels_getI (h : i < l.length) : (cels l)[i]? = some (cl1 (gt l i)) := by
  simp [cels, gt, List.getD_eq_getElem?_getD, List.getElem?_eq_getElem h]
theorem cels_set : (cels l).set i (cl1 a) = cels (l.set i a) := by simp [cels, List.map_set]
theorem frz_cl1 {d N : Nat} {L : Heap} (a : α) : (cl1 a).map (frz d L N) = cl1 a := by
  simp [cl1, frz_v]
theorem frz_cels {d N : Nat} {L : Heap} (l : List α) : ((cels l).map fun e => e.map (frz d L N)) = cels l := by
  simp only [cels, List.map_map]
  exact List.map_congr_left fun x _ => frz_cl1 x
/-- Rows of one's own, told as they read. -/
theorem frzC_at {d N r off k : Nat} {hot : Bool} {L : Heap} {sz : Nat} {l : List α} (hr : N ≤ r) (h : L[r - N]? = some (some (.row hot sz (cels l)))) (hk : off + k ≤ l.length) : frz (d + 1) L N (.hs r sz off k) = .sl sz (cels ((l.drop off).take k)) := by
  unfold frz
  rw [if_neg (by omega), h]
  simp only
  rw [if_pos ⟨trivial, by rw [cels_len]; exact hk⟩, cels_drop, cels_take, frz_cels]
theorem frzC {d N r k : Nat} {hot : Bool} {L : Heap} {sz : Nat} {l : List α} (hr : N ≤ r) (h : L[r - N]? = some (some (.row hot sz (cels l)))) (hk : k = l.length) : frz (d + 1) L N (.hs r sz 0 k) = .sl sz (cels l) := by
  subst hk
  rw [frzC_at hr h (by omega), List.drop_zero, List.take_length]
theorem gt_eq (h : i < l.length) : gt l i = l[i] := by simp [gt, List.getD_eq_getElem?_getD, List.getElem?_eq_getElem h]
theorem gt_mem (h : i < l.length) : gt l i ∈ l := by rw [gt_eq h]; exact List.getElem_mem h
theorem drop_gt (h : i < l.length) : l.drop i = gt l i :: l.drop (i + 1) := by rw [gt_eq h]; exact List.drop_eq_getElem_cons h
end
section
variable {l : List Int} {lb : List Bool} {lp : List (Int × Int)} {lq : List (Int × Bool)} {lt : List (Int × Int × Bool)} {n m : Int} {b : Bool} {i : Nat}
theorem snoc_ii : cels lp ++ [[.v (.int .i64 n), .v (.int .i64 m)]] = cels (lp ++ [(n, m)]) := cels_snoc (a := (n, m))
theorem set_bool : (cels lb).set i [.v (.bool b)] = cels (lb.set i b) := cels_set (a := b)
end
/-! ### structs compared -/
inductive Sc where
  | int (k : IntKind)
  | bool
  | str
  deriving DecidableEq
def flatF (P : Program) (g : TypeId → Option (List Sc)) : List Field → Nat → Option (List Sc)
  | [], _ => some []
  | f :: fs, off => if f.name ≠ "_" ∧ f.offset = off then
      match g f.type, P.info? f.type with
      | some l, some i => if i.size = l.length then (flatF P g fs (off + l.length)).map (l ++ ·) else none
      | _, _ => none
    else none
/-- A type's cells: numbers, bools, strings. -/
def flatT (P : Program) : Nat → TypeId → Option (List Sc)
  | 0, _ => none
  | d + 1, t => match P.underlying t with
    | some (.int k) => some [.int k]
    | some .bool => some [.bool]
    | some .string => some [.str]
    | some (.struct fs) => if P.stoodInHeld t = true then none else flatF P (flatT P d) fs.toList 0
    | _ => none
def scEq : Sc → Value → Value → Option Bool
  | .int _, .int a x, .int b y => if a = b then some (decide (x = y)) else none
  | .bool, .bool x, .bool y => some (x == y)
  | .str, .string x, .string y => some (x.toList == y.toList)
  | _, _, _ => none
def eqs : List Sc → List Value → List Value → Option Bool
  | [], [], [] => some true
  | s :: ss, x :: xs, y :: ys => match scEq s x y, eqs ss xs ys with
    | some a, some b => some (a && b)
    | _, _ => none
  | _, _, _ => none
theorem eqs_len : ∀ {ss : List Sc} {xs ys : List Value} {b : Bool}, eqs ss xs ys = some b → xs.length = ss.length ∧ ys.length = ss.length
  | [], [], [], _, _ => ⟨rfl, rfl⟩
  | s :: ss, x :: xs, y :: ys, b, h => by
    unfold eqs at h
    split at h
    · next c d h1 h2 =>
      have := eqs_len h2
      simp [this]
    · cases h
  | [], _ :: _, _, _, h => by simp [eqs] at h
  | [], [], _ :: _, _, h => by simp [eqs] at h
  | _ :: _, [], _, _, h => by simp [eqs] at h
  | _ :: _, _ :: _, [], _, h => by simp [eqs] at h
theorem eqs_app : ∀ {ss tt : List Sc} {xs ys : List Value} {b : Bool}, eqs (ss ++ tt) xs ys = some b → ∃ c d, eqs ss (xs.take ss.length) (ys.take ss.length) = some c ∧ eqs tt (xs.drop ss.length) (ys.drop ss.length) = some d ∧ b = (c && d)
  | [], tt, xs, ys, b, h => ⟨true, b, by simp [eqs], by simpa using h, by simp⟩
  | s :: ss, tt, x :: xs, y :: ys, b, h => by
    simp only [List.cons_append] at h
    unfold eqs at h
    split at h
    · next c d h1 h2 =>
      obtain ⟨c2, d2, h3, h4, rfl⟩ := eqs_app h2
      cases h
      refine ⟨c && c2, d2, ?_, by simpa using h4, by rw [Bool.and_assoc]⟩
      simp only [List.length_cons, List.take_succ_cons]
      unfold eqs
      rw [h1, h3]
    · cases h
  | s :: ss, tt, [], ys, b, h => by simp [eqs] at h
  | s :: ss, tt, _ :: _, [], b, h => by simp [eqs] at h
section
variable {P : Program}
/-- The value of a type with such cells. -/
def whole (P : Program) (t : TypeId) (xs : List Value) : Value := match P.underlying t with
  | some (.struct _) => .agg xs.toArray
  | _ => xs.headD undef
theorem run_part_whole {t : TypeId} {xs : List Value} {off d : Nat} {ss : List Sc} {i : TypeInfo} (w : World) (hi : P.info? t = some i) (hs : flatT P d t = some ss) (hl : i.size = ss.length) (hx : off + ss.length ≤ xs.length) :
    (part t xs.toArray off).run P w = .ok (whole P t ((xs.drop off).take ss.length)) w := by
  cases d with
  | zero => simp [flatT] at hs
  | succ d =>
    unfold flatT at hs
    have one : ∀ (s : Sc), ss = [s] → (∀ fs, P.underlying t ≠ some (.struct fs)) → (∀ n e, P.underlying t ≠ some (.array n e)) → ∀ kd, P.underlying t = some kd → (part t xs.toArray off).run P w = .ok (whole P t ((xs.drop off).take ss.length)) w := by
      intro s hs h1 h2 kd hk
      subst hs
      simp only [List.length_singleton] at hx ⊢
      have hlt : off < xs.length := by omega
      unfold whole
      rw [hk]
      cases kd
      case struct fs => exact absurd hk (h1 fs)
      case array n e => exact absurd hk (h2 n e)
      all_goals
        simp [part, isAgg, run_underlying hk, List.getElem?_eq_getElem hlt, List.headD_eq_head?_getD, List.head?_take, List.head?_drop]
    split at hs
    · next k hk => cases hs; exact one _ rfl (by rw [hk]; simp) (by rw [hk]; simp) _ hk
    · next hk => cases hs; exact one _ rfl (by rw [hk]; simp) (by rw [hk]; simp) _ hk
    · next hk => cases hs; exact one _ rfl (by rw [hk]; simp) (by rw [hk]; simp) _ hk
    · next fs hk =>
      have e : xs.toArray.extract off (off + i.size) = ((xs.drop off).take ss.length).toArray := by
        rw [hl, List.extract_toArray]
        simp [List.extract]
      have hc : P.cellsOf t = ss.length := by simp [Program.cellsOf, hi, hl]
      simp [part, isAgg, run_underlying hk, run_sizeOf w hi, whole, hk, e, hc]
    · cases hs
theorem run_fields (D : Nat) {g : TypeId → Option (List Sc)} (hg : ∀ t ss, g t = some ss → ∀ i, P.info? t = some i → i.size = ss.length → ∀ (w : World) (xs ys : List Value) (b : Bool), eqs ss xs ys = some b → (Op.equalIn D t (whole P t xs) (whole P t ys)).run P w = .ok b w)
    (hp : ∀ t ss, g t = some ss → ∃ d, flatT P d t = some ss) (w : World) (xs ys : List Value) : ∀ (fs : List Field) (off : Nat) (ss : List Sc) (b : Bool), flatF P g fs off = some ss → eqs ss (xs.drop off) (ys.drop off) = some b → off ≤ xs.length → off ≤ ys.length →
    (Op.eqFields D xs.toArray ys.toArray fs).run P w = .ok b w
  | [], off, ss, b, h, k, _, _ => by
    unfold flatF at h
    cases h
    have h2 := eqs_len k
    rw [List.eq_nil_of_length_eq_zero h2.1, List.eq_nil_of_length_eq_zero h2.2] at k
    unfold eqs at k
    cases k
    simp [Op.eqFields]
  | f :: fs, off, ss, b, h, k, lx, ly => by
    unfold flatF at h
    split at h
    case isFalse => cases h
    case isTrue hn =>
    obtain ⟨hn, ho⟩ := hn
    split at h
    case h_2 => cases h
    case h_1 l i h1 h2 =>
    split at h
    case isFalse => cases h
    case isTrue h3 =>
    simp only [Option.map_eq_some_iff] at h
    obtain ⟨r, h4, rfl⟩ := h
    obtain ⟨c, d, k1, k2, rfl⟩ := eqs_app k
    have k3 := eqs_len k1
    have k4 := eqs_len k
    simp only [List.length_take, List.length_drop, List.length_append] at k3 k4
    obtain ⟨dd, h5⟩ := hp _ _ h1
    have p1 := run_part_whole (P := P) (xs := xs) (off := off) w h2 h5 h3 (by omega)
    have p2 := run_part_whole (P := P) (xs := ys) (off := off) w h2 h5 h3 (by omega)
    have p3 := hg _ _ h1 _ h2 h3 w _ _ _ k1
    have p4 := run_fields D hg hp w xs ys fs (off + l.length) r d h4 (by simpa [List.drop_drop, Nat.add_comm] using k2) (by omega) (by omega)
    subst ho
    simp only [Op.eqFields, hn, ne_eq, not_false_eq_true, if_true, Sem.run_bind, p1, p2, p3, Result.andThen_ok]
    cases c
    · simp
    · simpa using p4
theorem run_flat : ∀ (d D : Nat), d ≤ D → ∀ (t : TypeId) (ss : List Sc), flatT P d t = some ss → ∀ (w : World) (xs ys : List Value) (b : Bool), eqs ss xs ys = some b → (Op.equalIn D t (whole P t xs) (whole P t ys)).run P w = .ok b w
  | 0, _, _, t, ss, h => by simp [flatT] at h
  | d + 1, 0, hd, _, _, _ => by omega
  | d + 1, D + 1, hd, t, ss, h => by
    intro w xs ys b hb
    unfold flatT at h
    split at h
    · next k hk =>
      cases h
      have hl := eqs_len hb
      match xs, ys, hl with
      | [x], [y], _ =>
        unfold eqs at hb
        split at hb
        case h_2 => cases hb
        case h_1 c e h1 h2 =>
        unfold eqs at h2
        cases h2
        cases hb
        unfold scEq at h1
        split at h1 <;> try (cases h1; done)
        all_goals first | (simp at *; done) | skip
        rename_i q1 q2 q3
        split at h1
        case isFalse => cases h1
        case isTrue e =>
        subst e
        cases h1
        simp [whole, hk, Op.equalIn, run_underlying hk]; rfl
    · next hk =>
      cases h
      have hl := eqs_len hb
      match xs, ys, hl with
      | [x], [y], _ =>
        unfold eqs at hb
        split at hb
        case h_2 => cases hb
        case h_1 c e h1 h2 =>
        unfold eqs at h2
        cases h2
        cases hb
        unfold scEq at h1
        split at h1 <;> try (cases h1; done)
        all_goals first | (simp at *; done) | skip
        cases h1
        simp [whole, hk, Op.equalIn, run_underlying hk]
    · next hk =>
      cases h
      have hl := eqs_len hb
      match xs, ys, hl with
      | [x], [y], _ =>
        unfold eqs at hb
        split at hb
        case h_2 => cases hb
        case h_1 c e h1 h2 =>
        unfold eqs at h2
        cases h2
        cases hb
        unfold scEq at h1
        split at h1 <;> try (cases h1; done)
        all_goals first | (simp at *; done) | skip
        cases h1
        simp [whole, hk, Op.equalIn, run_underlying hk, beq_toListBytes]
    · next fs hk =>
      split at h
      case isTrue => cases h
      case isFalse hs =>
      have hf : P.fieldsOf t = fs := by simp [Program.fieldsOf, hk]
      have e1 : ∀ zs, whole P t zs = .agg zs.toArray := fun zs => by simp [whole, hk]
      rw [e1, e1, run_equalIn_struct w D t _ _ (by rw [hf]; exact hk) (by simpa using hs), hf]
      exact run_fields D (fun t ss h i _ _ w xs ys b k => run_flat d D (by omega) t ss h w xs ys b k) (fun t ss h => ⟨d, h⟩) w xs ys fs.toList 0 ss b h (by simpa using hb) (Nat.zero_le _) (Nat.zero_le _)
    · cases h
/-- Such a struct, if nothing guards its comparison. -/
def eqT (P : Program) (t : TypeId) : Option (List Sc) := match P.underlying t with
  | some (.struct _) => if P.eqGuardType P.depth t = true then none else flatT P 8 t
  | _ => none
/-- .. told by the machine's cells. -/
def eqAV : List Sc → List AV → List AV → Option Bool
  | [], [], [] => some true
  | s :: ss, .v x :: xs, .v y :: ys => match scEq s x y, eqAV ss xs ys with
    | some a, some b => some (a && b)
    | _, _ => none
  | _, _, _ => none
theorem eqAV_out {ss : List Sc} {cs ds : List AV} {b : Bool} (h : eqAV ss cs ds = some b) : ∃ xs ys, concs cs = some xs ∧ concs ds = some ys ∧ eqs ss xs ys = some b := by
  induction ss generalizing cs ds b with
  | nil =>
    unfold eqAV at h
    split at h
    · exact ⟨[], [], rfl, rfl, h⟩
    · next e => cases e
    · cases h
  | cons s ss ih =>
    unfold eqAV at h
    split at h
    · next e => cases e
    · next s2 ss2 x xs y ys e =>
      cases e
      split at h
      · next a c h1 h2 =>
        cases h
        obtain ⟨us, vs, e1, e2, e3⟩ := ih h2
        refine ⟨x :: us, y :: vs, by simp [concs, e1], by simp [concs, e2], ?_⟩
        unfold eqs
        rw [h1, e3]
      · cases h
    · cases h
theorem eqT_out {t : TypeId} {ss : List Sc} (h : eqT P t = some ss) : (∃ fs, P.underlying t = some (.struct fs)) ∧ P.eqGuardType P.depth t = false ∧ flatT P 8 t = some ss := by
  unfold eqT at h
  split at h
  · next fs hk =>
    split at h
    · cases h
    · next hg => exact ⟨⟨fs, hk⟩, by simpa using hg, h⟩
  · cases h
theorem jbin_agg_eql {t : TypeId} {ss : List Sc} (h : eqT P t = some ss) {x y : Operand} {cs ds : List AV} {K : Kv} : jbin P .eql t x y (.agg cs) (.agg ds) = match eqAV ss cs ds with
    | some b => K.k (.v (.bool b))
    | none => abin P .eql t x y (.agg cs) (.agg ds) K.k := by
  split
  · next b hb =>
    obtain ⟨⟨fs, h1⟩, h2, h3⟩ := eqT_out h
    obtain ⟨xs, ys, e1, e2, e3⟩ := eqAV_out hb
    unfold jbin abin
    simp only [conc, e1, e2, Option.map_some]
    refine pureR (v := .bool b) fun w => ?_
    have e4 : ∀ zs, whole P t zs = .agg zs.toArray := fun zs => by simp [whole, h1]
    have h5 := run_flat 8 10000 (by omega) t ss h3 w xs ys b e3
    rw [e4, e4] at h5
    rw [Sem.run_bind, run_eqGuard_agg w _ t x y _ _ h2, Result.andThen_ok, run_eql_struct, h5]
    rfl
  · rfl
end
end Go.Am

namespace Go.Am
open Go.RowKit Go.Cx

/-- a' says what a says, once row r (its elements es) is frozen. -/
def rl (r sz : Nat) (es : List (List AV)) (a a' : AV) : Prop :=
  a = a' ∨ ∃ off k, a = .hs r sz off k ∧ off + k ≤ es.length ∧ a' = .sl sz ((es.drop off).take k)
def rls (r sz : Nat) (es : List (List AV)) : List AV → List AV → Prop
  | [], [] => True
  | a :: l, a' :: l' => rl r sz es a a' ∧ rls r sz es l l'
  | _, _ => False
def rlss (r sz : Nat) (es : List (List AV)) : List (List AV) → List (List AV) → Prop
  | [], [] => True
  | a :: l, a' :: l' => rls r sz es a a' ∧ rlss r sz es l l'
  | _, _ => False
def rlB (r sz : Nat) (es : List (List AV)) : Blk → Blk → Prop
  | .obj cs, .obj cs' => rls r sz es cs cs'
  | .row h s l, .row h' s' l' => h = h' ∧ s = s' ∧ rlss r sz es l l'
  | .map ks vs st, B' => B' = .map ks vs st
  | .iter m bs c seen, B' => B' = .iter m bs c seen
  | _, _ => False
theorem rls_refl {r sz : Nat} {es : List (List AV)} : ∀ l : List AV, rls r sz es l l
  | [] => trivial
  | _ :: l => ⟨.inl rfl, rls_refl l⟩
theorem rlss_refl {r sz : Nat} {es : List (List AV)} : ∀ l : List (List AV), rlss r sz es l l
  | [] => trivial
  | a :: l => ⟨rls_refl a, rlss_refl l⟩
theorem rlB_refl {r sz : Nat} {es : List (List AV)} (B : Blk) : rlB r sz es B B := by
  cases B with
  | obj cs => exact rls_refl cs
  | row h s l => exact ⟨rfl, rfl, rlss_refl l⟩
  | map ks vs st => rfl
  | iter m bs c seen => rfl
theorem rl_hs {r sz : Nat} {es : List (List AV)} {off k : Nat} (h : off + k ≤ es.length) : rl r sz es (.hs r sz off k) (.sl sz ((es.drop off).take k)) := .inr ⟨off, k, rfl, h, rfl⟩
/-- Row r is frozen. -/
def Mem.ice (M : Mem) (r : Nat) : Mem := { M with G := fun b => M.G b ∨ M.blk r = some b }
section
variable {E : Env} {M : Mem} {w : World} {H : Heap} {r sz : Nat} {es : List (List AV)}
theorem VR.ice (hG : Gam E.gl M w H) (hr : H[r]? = some (some (.row true sz es))) {a a' : AV} {u : Value} (h : rl r sz es a a') (hv : VR M H.length w a u) : VR (M.ice r) H.length w a' u := by
  have keep : ∀ {a : AV}, VR M H.length w a u → VR (M.ice r) H.length w a u := fun h => VR.mono (M := M) (M' := M.ice r) (n := H.length) (w := w) (fun _ h => Or.inl h) (fun _ _ => rfl) (Nat.le_refl _) (fun _ _ => ⟨rfl, rfl⟩) h
  rcases h with rfl | ⟨off, k, rfl, hle, rfl⟩
  · exact keep hv
  · have hlen : ((es.drop off).take k).length = k := by simp; omega
    unfold VR at hv ⊢
    obtain ⟨_, ao, cap, rfl, k1, k2, k3, k4⟩ := hv
    rw [hlen]
    rcases hG.blks r _ hr with ⟨j1, j2⟩ | ⟨b, cur, e, fr, us, j1, j2, j3, j4, j5, j6, j7⟩
    · subst j2
      have hk : k = 0 := by have h3 : off + k ≤ 0 := hle; omega
      subst hk
      exact ⟨ao, cap, [], rfl, by simp [VRss], ⟨by simp, k1, k2, by simp, .inl ⟨rfl, k3⟩⟩⟩
    · have hd := VRss.take k (VRss.drop off j5)
      refine ⟨ao, cap, _, rfl, VRss.mono (M := M) (M' := M.ice r) (n := H.length) (w := w) (fun _ h => Or.inl h) (fun _ _ => rfl) (Nat.le_refl _) (fun _ _ => ⟨rfl, rfl⟩) hd, ⟨?_, k1, k2, VRss.one hd, ?_⟩⟩
      · rw [VRss.len hd, hlen]
      · rcases k4 with ⟨k4, _⟩ | ⟨k4, _⟩ | ⟨b', k5, k6, k7⟩
        · exact .inl ⟨k4, k3⟩
        · exact .inl ⟨k4, k3⟩
        · have hbb : b = b' := by rw [k5] at j1; exact (Option.some.inj j1).symm
          subst hbb
          refine .inr ⟨b, off * sz, k6, .inr k5, fun j v hj => ?_⟩
          rw [cell_of_row w b _ cur e fr j2]
          rw [List.getElem?_take] at hj
          split at hj
          · rw [List.getElem?_drop, ← j6, List.getElem?_take] at hj
            split at hj
            · simpa using hj
            · cases hj
          · cases hj
theorem VRs.ice (hG : Gam E.gl M w H) (hr : H[r]? = some (some (.row true sz es))) : ∀ {l l' : List AV} {us : List Value}, rls r sz es l l' → VRs M H.length w l us → VRs (M.ice r) H.length w l' us
  | [], [], us, _, h => by unfold VRs at h ⊢; exact h
  | a :: l, a' :: l', us, k, h => by
    unfold VRs at h ⊢
    obtain ⟨x, t, h1, h2, h3, h4⟩ := h
    exact ⟨x, t, h1, h2, VR.ice hG hr k.1 h3, VRs.ice hG hr k.2 h4⟩
  | [], _ :: _, _, k, _ => k.elim
  | _ :: _, [], _, k, _ => k.elim
theorem VRss.ice (hG : Gam E.gl M w H) (hr : H[r]? = some (some (.row true sz es))) {s : Nat} : ∀ {l l' : List (List AV)} {us : List Value}, rlss r sz es l l' → VRss M H.length w s l us → VRss (M.ice r) H.length w s l' us
  | [], [], us, _, h => by unfold VRss at h ⊢; exact h
  | a :: l, a' :: l', us, k, h => by
    unfold VRss at h ⊢
    obtain ⟨x, t, h1, h2, h3, h4⟩ := h
    exact ⟨x, t, h1, h2, VRs.ice hG hr k.1 h3, VRss.ice hG hr k.2 h4⟩
  | [], _ :: _, _, k, _ => k.elim
  | _ :: _, [], _, k, _ => k.elim
theorem rlss_len : ∀ {l l' : List (List AV)}, rlss r sz es l l' → l.length = l'.length
  | [], [], _ => rfl
  | _ :: _, _ :: _, h => by simp [rlss_len h.2]
  | [], _ :: _, h => h.elim
  | _ :: _, [], h => h.elim
theorem BR.ice (hG : Gam E.gl M w H) (hr : H[r]? = some (some (.row true sz es))) {q : Nat} {B B' : Blk} (k : rlB r sz es B B') (h : BR M H.length w q B) : BR (M.ice r) H.length w q B' := by
  match B, B', k, h with
  | .obj cs, .obj cs', k, h =>
    obtain ⟨b, cur, t, fr, h1, h2, h3, h4, h5⟩ := h
    exact ⟨b, cur, t, fr, h1, h2, h3, h4, VRs.ice hG hr k h5⟩
  | .row hh s l, .row _ _ l', ⟨rfl, rfl, k⟩, h =>
    rcases h with ⟨h1, rfl⟩ | ⟨b, cur, e, fr, us, h1, h2, h3, h4, h5, h6, h7⟩
    · refine .inl ⟨h1, ?_⟩
      have := rlss_len k
      exact List.eq_nil_of_length_eq_zero this.symm
    · exact .inr ⟨b, cur, e, fr, us, h1, h2, h3, h4, VRss.ice hG hr k h5, h6, fun q => .inl (h7 q)⟩
  | .map ks vs st, _, rfl, h => exact BR.mono (M := M) (M' := M.ice r) (n := H.length) (w := w) (r := q) (fun _ h => Or.inl h) (fun _ _ => rfl) (Nat.le_refl _) (fun _ _ => ⟨rfl, rfl⟩) rfl rfl (fun _ _ => rfl) h
  | .iter m bs c seen, _, rfl, h => exact BR.mono (M := M) (M' := M.ice r) (n := H.length) (w := w) (r := q) (fun _ h => Or.inl h) (fun _ _ => rfl) (Nat.le_refl _) (fun _ _ => ⟨rfl, rfl⟩) rfl rfl (fun _ _ => rfl) h
theorem rlB_hot {B B' : Blk} (k : rlB r sz es B B') : B.isHot = B'.isHot := by
  match B, B', k with
  | .obj _, .obj _, _ => rfl
  | .row _ _ _, .row _ _ _, ⟨h, _, _⟩ => exact h
  | .map _ _ _, _, rfl => rfl
  | .iter _ _ _ _, _, rfl => rfl
/-- The row r is frozen; whatever held it may be said with what it reads as. -/
theorem cq_ice {n : Nat} {T : Nat → AV} {H' : Heap} {tl : List (Nat × AV)} (r : Nat) (hr : H[r]? = some (some (.row true sz es))) (hlen : H'.length = H.length)
    (hH : ∀ (q : Nat) (B' : Blk), H'[q]? = some (some B') → q ≠ r ∧ ∃ B, H[q]? = some (some B) ∧ rlB r sz es B B') (hT : ∀ x ∈ tl, rl r sz es (T x.1) x.2) : Cq E n T H (ofl tl) H' := fun hn => by
  refine ⟨by omega, fun M w N a hG hT0 => ⟨M.ice r, ⟨fun g => ?_, fun b hb => ?_, fun q B' hq => ?_, fun q B' b hq hh hb => ?_, fun q q' B1 B2 b hq hq' hh hne hb => ?_⟩, ⟨hT0.1, fun i => ?_⟩, ⟨rfl, ⟨rfl, Nat.le_refl _⟩, rfl, Nat.le_refl _, fun _ h => Or.inl h, fun b hb => ?_, fun _ _ _ => rfl, by omega, fun _ _ => rfl, fun _ _ => rfl, fun b hb => ?_⟩⟩⟩
  · exact VR.mono (M := M) (M' := M.ice r) (n := 0) (w := w) (fun _ h => Or.inl h) (fun _ _ => rfl) (Nat.le_refl _) (fun _ _ => ⟨rfl, rfl⟩) (hG.glob g)
  · rcases hb with hb | hb
    · exact hG.inG b hb
    · exact (hG.blks r _ hr).lt hb
  · obtain ⟨_, B, h1, h2⟩ := hH q B' hq
    rw [hlen]
    exact BR.ice hG hr h2 (hG.blks q B h1)
  · obtain ⟨hne, B, h1, h2⟩ := hH q B' hq
    have hh1 : B.isHot = true := by rw [rlB_hot h2]; exact hh
    rintro (k | k)
    · exact hG.sep q B b h1 hh1 hb k
    · exact hG.far q r B _ b h1 hr hh1 (fun e => hne e.symm) hb k
  · obtain ⟨_, C1, h1, h2⟩ := hH q B1 hq
    obtain ⟨_, C2, h3, h4⟩ := hH q' B2 hq'
    exact hG.far q q' C1 C2 b h1 h3 (by rw [rlB_hot h2]; exact hh) hne hb
  · rw [hlen]
    exact ofl_all (p := fun i x => VR (M.ice r) H.length w x (a.tmps.getD i undef)) trivial fun x hx => VR.ice hG hr (hT x hx) (hT0.2 x.1)
  · rcases hb with hb | hb
    · exact .inl hb
    · exact .inr (.inl ⟨r, _, hr, rfl, hb⟩)
  · obtain ⟨q, B', q1, q2, q3⟩ := hb
    obtain ⟨_, B, h1, h2⟩ := hH q B' q1
    exact .inl ⟨q, B, h1, by rw [rlB_hot h2]; exact q2, q3⟩
end
end Go.Am

namespace Go.Am
open Go.RowKit Go.Cx
section
variable {gl : Nat → AV} {M : Mem} {W W' : World} {H : Heap}
theorem Gam.keepG {row : Option Nat} (hG : Gam gl M W H) (hg : W.grownBy W' row) (hr : ∀ r, row = some r → ¬ M.G r) : ∀ b, M.G b → W'.heap[b]? = W.heap[b]? :=
  fun b hb => hg.block b (hG.inG b hb) (fun e => hr b e.symm hb)
/-- A block that is none of the machine's is turned. -/
theorem Gam.other {row : Option Nat} (hG : Gam gl M W H) (hg : W.grownBy W' row) (hr : ∀ r, row = some r → ¬ M.G r) (hq : ∀ r, row = some r → ∀ q B, H[q]? = some (some B) → M.blk q ≠ some r) : Gam gl M W' H := by
  have keep := hG.keepG hg hr
  refine ⟨fun g => VR.mono (M := M) (M' := M) (n := 0) (w := W) (w' := W') (fun _ h => h) keep (Nat.le_refl _) (fun _ _ => ⟨rfl, rfl⟩) (hG.glob g), fun b hb => Nat.lt_of_lt_of_le (hG.inG b hb) hg.size, fun r B h => ?_, hG.sep, hG.far⟩
  exact BR.mono (M := M) (M' := M) (n := H.length) (w := W) (w' := W') (r := r) (fun _ h => h) keep (Nat.le_refl _) (fun _ _ => ⟨rfl, rfl⟩) rfl rfl (fun b hb => hg.block b ((hG.blks r B h).lt hb) (fun e => hq b e.symm r B h hb)) (hG.blks r B h)
/-- Neither maps nor walks over them. -/
def Blk.plain : Blk → Prop
  | .obj _ => True
  | .row _ _ _ => True
  | _ => False
theorem TR.other {n N : Nat} {T : Nat → AV} {a : Act} (keep : ∀ b, M.G b → W'.heap[b]? = W.heap[b]?) (hT : TR M n W N T a) : TR M n W' N T a :=
  hT.mono (fun _ h => h) keep (Nat.le_refl _) (fun _ _ => ⟨rfl, rfl⟩)
theorem ExtB.other {n : Nat} {M0 : Mem} {w0 : World} {H0 : Heap} {row : Option Nat} (h : ExtB n M0 w0 H0 M W H) (hg : W.grownBy W' row) (hr : ∀ r, row = some r → w0.heap.size ≤ r) (hd : W.drawn ≤ W'.drawn) : ExtB n M0 w0 H0 M W' H :=
  ⟨hg.os.trans h.os, ⟨hg.tape.trans h.tape.1, Nat.le_trans h.tape.2 hd⟩, hg.output.trans h.output, Nat.le_trans h.size hg.size, h.G, h.gnew, fun b hb hn => (hg.block b (Nat.lt_of_lt_of_le hb h.size) (fun e => by have := hr b e.symm; omega)).trans (h.block b hb hn), h.len, h.blk, h.bsz, h.hot⟩
end
/-! ### operations within a round -/
section
variable {E : Env} {N : Nat} {ro : Option Nat} {n : Nat}
end
end Go.Am
namespace Go.Am
open Go.RowKit Go.Cx
section
variable {E : Env} {N : Nat} {n : Nat}
end
end Go.Am
namespace Go.Am
open Go.RowKit Go.Cx
section
variable {E : Env} {N : Nat} {n : Nat}
end
end Go.Am
namespace Go.Am
open Go.RowKit Go.Cx
section
variable {gl : Nat → AV} {M : Mem} {w : World} {H : Heap}
end
section
variable {E : Env} {N : Nat} {n : Nat}
end
end Go.Am
namespace Go.Am
open Go.RowKit Go.Cx
section
variable {E : Env} {N n : Nat} {M : Mem} {w : World} {H : Heap}
theorem ExtB.down {n' : Nat} {M' : Mem} {w' : World} {H' : Heap} (h : ExtB n M w H M' w' H') (hn : n' ≤ n) : ExtB n' M w H M' w' H' :=
  ⟨h.os, h.tape, h.output, h.size, h.G, h.gnew, h.block, Nat.le_trans hn h.len, fun r hr => h.blk r (Nat.lt_of_lt_of_le hr hn), fun r hr => h.bsz r (Nat.lt_of_lt_of_le hr hn), h.hot⟩
end
end Go.Am
namespace Go.Am
open Go.RowKit Go.Cx
end Go.Am
namespace Go.Am
open Go.RowKit Go.Cx
end Go.Am
