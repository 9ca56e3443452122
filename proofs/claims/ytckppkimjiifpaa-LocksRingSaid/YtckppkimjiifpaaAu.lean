/- The abstract machine: the model does what it says; regions, code, functions. No condition. -/
import Derived.Test.YtckppkimjiifpaaAd
import Derived.Scope
set_option linter.unusedSectionVars false
set_option linter.unusedVariables false
set_option linter.unusedSimpArgs false
set_option linter.deprecated false
namespace Go.Am
open Go.RowKit Go.Cx

/-- What the statements behind may do. -/
def anorm (K : (Nat → AV) → Heap → Prop) (Q : Exit → (Nat → AV) → Heap → Prop) : Exit → (Nat → AV) → Heap → Prop
  | .normal, T, H => K T H
  | e, T, H => Q e T H
def ablock (id : Nat) (Q : Exit → (Nat → AV) → Heap → Prop) : Exit → (Nat → AV) → Heap → Prop
  | .exit i, T, H => if i = id then Q .normal T H else Q (.exit i) T H
  | e, T, H => Q e T H
def astay (Q : Exit → (Nat → AV) → Heap → Prop) : Exit → (Nat → AV) → Heap → Prop
  | .goto _, _, _ => False
  | e, T, H => Q e T H

/-- From a world to a later one; names from n on may be given anew. -/
structure ExtB (n : Nat) (M : Mem) (w : World) (H : Heap) (M' : Mem) (w' : World) (H' : Heap) : Prop where
  os : w'.os = w.os
  tape : w'.tape = w.tape
  output : w'.output = w.output
  size : w.heap.size ≤ w'.heap.size
  G : ∀ b, M.G b → M'.G b
  gnew : ∀ b, M'.G b → M.G b ∨ Hot M H b ∨ w.heap.size ≤ b
  block : ∀ b, b < w.heap.size → ¬ Hot M H b → w'.heap[b]? = w.heap[b]?
  len : n ≤ H'.length
  blk : ∀ r, r < n → M'.blk r = M.blk r
  bsz : ∀ r, r < n → M'.bsz r = M.bsz r
  hot : ∀ b, Hot M' H' b → Hot M H b ∨ w.heap.size ≤ b

theorem ExtB.of {n : Nat} {M M' : Mem} {w w' : World} {H H' : Heap} (hn : n ≤ H.length) (h : Ext M w H M' w' H') : ExtB n M w H M' w' H' :=
  ⟨h.os, h.tape, h.output, h.size, h.G, h.gnew, h.block, Nat.le_trans hn h.len, fun r hr => h.blk r (Nat.lt_of_lt_of_le hr hn), fun r hr => h.bsz r (Nat.lt_of_lt_of_le hr hn), h.hot⟩
theorem ExtB.full {M M' : Mem} {w w' : World} {H H' : Heap} (h : ExtB H.length M w H M' w' H') : Ext M w H M' w' H' :=
  ⟨h.os, h.tape, h.output, h.size, h.G, h.gnew, h.block, h.len, h.blk, h.bsz, h.hot⟩
theorem ExtB.refl {n : Nat} {M : Mem} {w : World} {H : Heap} (hn : n ≤ H.length) : ExtB n M w H M w H := .of hn (.refl _ _ _)
theorem ExtB.trans {n : Nat} {M M' M'' : Mem} {w w' w'' : World} {H H' H'' : Heap} (h : ExtB n M w H M' w' H') (k : ExtB n M' w' H' M'' w'' H'') : ExtB n M w H M'' w'' H'' where
  os := k.os.trans h.os
  tape := k.tape.trans h.tape
  output := k.output.trans h.output
  size := Nat.le_trans h.size k.size
  G b hb := k.G b (h.G b hb)
  gnew b hb := by
    rcases k.gnew b hb with h1 | h1 | h1
    · exact h.gnew b h1
    · rcases h.hot b h1 with h2 | h2
      · exact .inr (.inl h2)
      · exact .inr (.inr h2)
    · exact .inr (.inr (Nat.le_trans h.size h1))
  block b hb hn := by
    rw [k.block b (Nat.lt_of_lt_of_le hb h.size) (fun hh => ?_), h.block b hb hn]
    rcases h.hot b hh with h1 | h1
    · exact hn h1
    · omega
  len := k.len
  blk r hr := (k.blk r hr).trans (h.blk r hr)
  bsz r hr := (k.bsz r hr).trans (h.bsz r hr)
  hot b hb := by
    rcases k.hot b hb with h1 | h1
    · exact h.hot b h1
    · exact .inr (Nat.le_trans h.size h1)

/-- What holds of T and H says at least what T' and H' say; names from n on may be given anew. -/
def Cq (E : Env) (n : Nat) (T : Nat → AV) (H : Heap) (T' : Nat → AV) (H' : Heap) : Prop :=
  n ≤ H.length → n ≤ H'.length ∧ ∀ (M : Mem) (w : World) (N : Nat) (a : Act), Gam E.gl M w H → TR M H.length w N T a → ∃ M', Gam E.gl M' w H' ∧ TR M' H'.length w N T' a ∧ ExtB n M w H M' w H'

/-- .. and then p. -/
def Cl (E : Env) (n : Nat) (p : (Nat → AV) → Heap → Prop) (T : Nat → AV) (H : Heap) : Prop := ∃ T' H', Cq E n T H T' H' ∧ p T' H'

theorem Cq.refl {E : Env} {n : Nat} {T : Nat → AV} {H : Heap} : Cq E n T H T H := fun hn => ⟨hn, fun M _ _ _ hG hT => ⟨M, hG, hT, .refl hn⟩⟩
theorem Cq.trans {E : Env} {n : Nat} {T T' T'' : Nat → AV} {H H' H'' : Heap} (h : Cq E n T H T' H') (k : Cq E n T' H' T'' H'') : Cq E n T H T'' H'' := fun hn => by
  obtain ⟨h1, h2⟩ := h hn
  obtain ⟨k1, k2⟩ := k h1
  refine ⟨k1, fun M w N a hG hT => ?_⟩
  obtain ⟨M', g1, g2, g3⟩ := h2 M w N a hG hT
  obtain ⟨M'', f1, f2, f3⟩ := k2 M' w N a g1 g2
  exact ⟨M'', f1, f2, g3.trans f3⟩
theorem cl_id {E : Env} {n : Nat} {p : (Nat → AV) → Heap → Prop} {T : Nat → AV} {H : Heap} (h : p T H) : Cl E n p T H := ⟨T, H, .refl, h⟩

/-- The code c, begun with T and H, comes to Q; the names below n stay as they are. -/
def awp (E : Env) (n : Nat) : Code → (Exit → (Nat → AV) → Heap → Prop) → (Nat → AV) → Heap → Prop
  | .skip, Q, T, H => Q .normal T H
  | .label _, Q, T, H => Q .normal T H
  | .exit id, Q, T, H => Q (.exit id) T H
  | .ret, Q, T, H => Q .ret T H
  | .seq a b, Q, T, H => awp E n a (anorm (Cl E n fun T' H' => awp E n b Q T' H') Q) T H
  | .cond c x y, Q, T, H => ∃ t, ev E.gl T c = .v (.bool t) ∧ ((t = true → awp E n x Q T H) ∧ (t = false → awp E n y Q T H))
  | .block id c, Q, T, H => awp E n c (ablock id Q) T H
  | .scope c, Q, T, H => awp E n c (astay Q) T H
  | .loop c, Q, T, H => ∃ I : Nat → (Nat → AV) → Heap → Prop, (∃ k, Cl E n (I k) T H) ∧ ∀ k T1 H1, I k T1 H1 →
      awp E n c (anorm (Cl E n fun T' H' => ∃ j, j < k ∧ I j T' H') Q) T1 H1
  | .region _ ops false, Q, T, H => aops E ops ops.toList T H fun T' H' => Q .normal T' H'
  | .region _ ops true, Q, T, H => E.P.follows .mixedOrders = true ∧ ∃ ks, drawOk ops ks = true ∧ adraw E ops H ops.toList ks T H fun T' H' => Q .normal T' H'
  | _, _, _, _ => False

section
variable {E : Env} {M : Mem} {w : World} {H : Heap} {N : Nat} {T : Nat → AV} {a : Act}

theorem TR.mono {M M' : Mem} {n n' : Nat} {w w' : World} (hG : ∀ b, M.G b → M'.G b) (hw : ∀ b, M.G b → w'.heap[b]? = w.heap[b]?) (hn : n ≤ n') (hb : ∀ r, r < n → M'.blk r = M.blk r ∧ M'.bsz r = M.bsz r) (h : TR M n w N T a) : TR M' n' w' N T a :=
  ⟨h.1, fun i => VR.mono hG hw hn hb (h.2 i)⟩

theorem Ext.keep {M' : Mem} {w' : World} {H' : Heap} (hE : Ext M w H M' w' H') (hG : Gam E.gl M w H) : ∀ b, M.G b → w'.heap[b]? = w.heap[b]? := by
  intro b hb
  refine hE.block b (hG.inG b hb) (fun hh => ?_)
  obtain ⟨r, B, h1, h2, h3⟩ := hh
  exact hG.sep r B b h1 h2 h3 hb

theorem TR.ext {M' : Mem} {w' : World} {H' : Heap} (hE : Ext M w H M' w' H') (hG : Gam E.gl M w H) (h : TR M H.length w N T a) : TR M' H'.length w' N T a :=
  h.mono hE.G (hE.keep hG) hE.len fun r hr => ⟨hE.blk r hr, hE.bsz r hr⟩

theorem TR.put {M : Mem} {n : Nat} {w : World} {d : Option Tmp} {v : AV} {u : Value} (h : TR M n w N T a) (hd : dstOk N d = true) (hv : VR M n w v u) : TR M n w N (aput T d v) (a.put d u) := by
  cases d with
  | none => exact h
  | some d =>
    refine ⟨by simp [Act.put, h.1], fun i => ?_⟩
    have hd' : d < a.tmps.size := by rw [h.1]; exact of_decide_eq_true hd
    simp only [aput, Go.Am.put, Act.put, Array.getD_eq_getD_getElem?, Array.getElem?_setIfInBounds]
    by_cases hi : d = i
    · subst hi
      rw [if_pos rfl, if_pos rfl, if_pos hd']
      exact hv
    · rw [if_neg (fun e => hi e.symm), if_neg hi]
      have := h.2 i
      rwa [Array.getD_eq_getD_getElem?] at this

theorem put_defers (a : Act) (d : Option Tmp) (u : Value) : (a.put d u).defers = a.defers := by
  cases d <;> rfl

theorem ayield_out {M : Mem} {n : Nat} {w : World} {ops : Array Oper} {j : Nat} {r : Option Bool} (hT : TR M n w N T a) (h : ayield ops T j = some r) (hd : ∀ d, (ops[j]?).bind (·.dst) = some d → d < N) : yielded ops a.tmps j = r := by
  unfold ayield at h
  unfold yielded
  split at h
  case h_2 => cases h
  case h_1 d hd1 =>
  have hlt : d < a.tmps.size := by rw [hT.1]; exact hd d hd1
  have hv := hT.2 d
  rw [hd1]
  rw [Array.getD_eq_getD_getElem?, Array.getElem?_eq_getElem hlt] at hv
  simp only [Option.bind_some, Array.getElem?_eq_getElem hlt]
  split at h
  · next hx =>
    cases h
    rw [hx] at hv
    unfold VR at hv
    simp only [Option.getD_some] at hv
    rw [hv]
  · next hx =>
    cases h
    rw [hx] at hv
    unfold VR at hv
    simp only [Option.getD_some] at hv
    rw [hv]
  · cases h

/-- The state behind. -/
def Lift (E : Env) (M : Mem) (w : World) (H : Heap) (N : Nat) (ds : List Deferred) (Q : Exit → (Nat → AV) → Heap → Prop) : Exit → Act → World → Prop := fun e a' w' =>
  ∃ T' H' M', Q e T' H' ∧ Gam E.gl M' w' H' ∧ TR M' H'.length w' N T' a' ∧ a'.defers = ds ∧ Ext M w H M' w' H'

/-- .. names from n on given anew. -/
def LiftB (E : Env) (n : Nat) (M : Mem) (w : World) (H : Heap) (N : Nat) (ds : List Deferred) (Q : Exit → (Nat → AV) → Heap → Prop) : Exit → Act → World → Prop := fun e a' w' =>
  ∃ T' H' M', Q e T' H' ∧ Gam E.gl M' w' H' ∧ TR M' H'.length w' N T' a' ∧ a'.defers = ds ∧ ExtB n M w H M' w' H'
theorem Lift.b {n : Nat} {ds : List Deferred} {Q : Exit → (Nat → AV) → Heap → Prop} {e : Exit} {a' : Act} {w' : World} (hn : n ≤ H.length) (h : Lift E M w H N ds Q e a' w') : LiftB E n M w H N ds Q e a' w' := by
  obtain ⟨T', H', M', h1, h2, h3, h4, h5⟩ := h
  exact ⟨T', H', M', h1, h2, h3, h4, .of hn h5⟩

theorem dst_lt {ops : Array Oper} (h : (ops.toList.all fun o => dstOk N o.dst) = true) (j d : Nat) (hj : (ops[j]?).bind (·.dst) = some d) : d < N := by
  obtain ⟨o, h1, h2⟩ := Option.bind_eq_some_iff.1 hj
  have h3 := List.all_eq_true.1 h o (by
    have := Array.mem_of_getElem? h1
    simpa using this)
  rw [h2] at h3
  exact of_decide_eq_true h3

theorem aops_sound {ops : Array Oper} (hops : (ops.toList.all fun o => dstOk N o.dst) = true) {Q : Exit → Act → World → Prop} {K : (Nat → AV) → Heap → Prop} : ∀ (l : List Oper) (i : Nat), ops.toList.drop i = l → ∀ (a : Act) (w : World) (T : Nat → AV) (H : Heap) (M : Mem), Gam E.gl M w H → TR M H.length w N T a →
    aops E ops l T H K → (∀ T' H' M' a' w', K T' H' → Gam E.gl M' w' H' → TR M' H'.length w' N T' a' → a'.defers = a.defers → Ext M w H M' w' H' → Q .normal a' w') → wpOps E.P ops Q ((List.range ops.size).drop i) a w
  | [], i, hi, a, w, T, H, M, hG, hT, h, hQ => by
    have hle : ops.size ≤ i := by
      have := congrArg List.length hi
      simp at this
      omega
    rw [List.drop_eq_nil_of_le (by simpa using hle)]
    unfold wpOps
    exact hQ T H M a w h hG hT rfl (Ext.refl _ _ _)
  | o :: l, i, hi, a, w, T, H, M, hG, hT, h, hQ => by
    have hlt : i < ops.size := by
      have := congrArg List.length hi
      simp at this
      omega
    have hoi : ops[i]? = some o := by
      have : (ops.toList.drop i)[0]? = some o := by rw [hi]; rfl
      simpa using this
    have hnext : ops.toList.drop (i + 1) = l := by
      rw [← List.drop_drop, hi]
      rfl
    have hr : (List.range ops.size).drop i = i :: (List.range ops.size).drop (i + 1) := by
      rw [List.drop_eq_getElem_cons (by simpa using hlt)]
      simp
    rw [hr]
    unfold wpOps
    simp only [hoi]
    unfold aops at h
    have hd : dstOk N o.dst = true := List.all_eq_true.1 hops o (by
      have : o ∈ ops.toList.drop i := by rw [hi]; simp
      exact List.mem_of_mem_drop this)
    have run : aop E o.op o.type (ev E.gl T) H (fun v H' => aops E ops l (aput T o.dst v) H' K) → o.wp E.P a w (wpOps E.P ops Q ((List.range ops.size).drop (i + 1))) Q := by
      intro h1
      refine op_sound hG hT h1 fun v u w' M' H' h2 h3 h4 h5 => ?_
      exact aops_sound hops l (i + 1) hnext _ w' _ H' M' h3 ((hT.ext h5 hG).put hd h4) h2 fun T2 H2 M2 a2 w2 k1 k2 k3 k4 k5 => hQ T2 H2 M2 a2 w2 k1 k2 k3 (k4.trans (put_defers a _ _)) (h5.trans k5)
    have skip : aops E ops l (aput T o.dst (.v undef)) H K → wpOps E.P ops Q ((List.range ops.size).drop (i + 1)) (a.put o.dst undef) w := by
      intro h1
      exact aops_sound hops l (i + 1) hnext _ w _ H M hG (hT.put hd (by unfold VR; rfl)) h1 fun T2 H2 M2 a2 w2 k1 k2 k3 k4 k5 => hQ T2 H2 M2 a2 w2 k1 k2 k3 (k4.trans (put_defers a _ _)) k5
    cases hg : o.guard with
    | none =>
      rw [hg] at h
      rw [if_pos (by simp [Region.wanted, hg])]
      exact .inl (run h)
    | some g =>
      obtain ⟨j, want⟩ := g
      rw [hg] at h
      simp only at h
      split at h
      · next b hy =>
        have hyo := ayield_out hT hy (dst_lt hops j)
        by_cases hb : b = want
        · rw [if_pos (by simp [Region.wanted, hg, hyo, hb])]
          exact .inl (run (h.1 hb))
        · rw [if_neg (by simp [Region.wanted, hg, hyo, hb])]
          exact skip (h.2 hb)
      · next hy =>
        have hyo := ayield_out hT hy (dst_lt hops j)
        rw [if_neg (by simp [Region.wanted, hg, hyo])]
        exact skip h
      · exact h.elim

theorem exists_least {p : Nat → Prop} (h : ∃ n, p n) : ∃ n, p n ∧ ∀ m, p m → n ≤ m := by
  obtain ⟨n, hn⟩ := h
  induction n using Nat.strongRecOn with
  | _ n ih =>
    by_cases hl : ∃ m, m < n ∧ p m
    · obtain ⟨m, h1, h2⟩ := hl
      exact ih m h1 h2
    · exact ⟨n, hn, fun m hm => Nat.le_of_not_lt fun h => hl ⟨m, h, hm⟩⟩

end
end Go.Am
