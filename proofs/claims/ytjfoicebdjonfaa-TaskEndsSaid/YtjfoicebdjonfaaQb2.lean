/- The abstract machine and its soundness, part 2. No condition. -/
import Derived.RangeFuncNested
import Derived.RangeFuncBound
import Derived.RangeFuncLeaves
import Derived.Test.YtjfoicebdjonfaaQb1
set_option linter.unusedSectionVars false
set_option linter.unusedVariables false
set_option linter.unusedSimpArgs false
set_option linter.deprecated false
namespace Go.Am
open Go.RowKit Go.Cx
section
variable {gl : Nat → AV} {M : Mem} {W W' : World} {H : Heap}
theorem Gam.keepG {row : Option Nat} (hG : Gam gl M W H) (hg : W.grownBy W' row) (hr : ∀ r, row = some r → ¬ M.G r) : ∀ b, M.G b → W'.heap[b]? = W.heap[b]? :=
  fun b hb => hg.block b (hG.inG b hb) (fun e => hr b e.symm hb)
/-- A block that is none of the machine's is turned. -/
theorem Gam.other {row : Option Nat} (hG : Gam gl M W H) (hg : W.grownBy W' row) (hr : ∀ r, row = some r → ¬ M.G r) (hq : ∀ r, row = some r → ∀ q B, H[q]? = some (some B) → M.blk q ≠ some r) : Gam gl M W' H := by
  have keep := hG.keepG hg hr
  refine ⟨fun g => VR.mono (M := M) (M' := M) (n := 0) (w := W) (w' := W') (fun _ h => h) keep (Nat.le_refl _) (fun _ _ => ⟨rfl, rfl⟩) (hG.glob g), fun b hb => Nat.lt_of_lt_of_le (hG.inG b hb) hg.size, fun r B h => ?_, hG.sep, hG.far⟩
  exact BR.mono (M := M) (M' := M) (n := H.length) (w := W) (w' := W') (r := r) (fun _ h => h) keep (Nat.le_refl _) (fun _ _ => ⟨rfl, rfl⟩) rfl rfl (fun b hb => hg.block b ((hG.blks r B h).lt hb) (fun e => hq b e.symm r B h hb)) (hG.blks r B h)
/-- Neither maps nor walks over them. -/
def Blk.plain : Blk → Prop
  | .obj _ => True
  | .row _ _ _ => True
  | _ => False
def noMaps : Heap → Prop
  | [] => True
  | none :: H => noMaps H
  | some B :: H => B.plain ∧ noMaps H
theorem noMaps_at : ∀ {H : Heap}, noMaps H → ∀ (q : Nat) (B : Blk), H[q]? = some (some B) → B.plain
  | [], _, q, B, e => by simp at e
  | none :: H, h, 0, B, e => by simp at e
  | none :: H, h, q + 1, B, e => noMaps_at (H := H) h q B (by simpa using e)
  | some C :: H, h, 0, B, e => by simp at e; subst e; exact h.1
  | some C :: H, h, q + 1, B, e => noMaps_at (H := H) h.2 q B (by simpa using e)
theorem Gam.notCells (hG : Gam gl M W H) {r : Nat} {o : Obj} (ho : W.heap[r]? = some o) (hc : o.isCells = false) (hN : noMaps H) : ∀ q B, H[q]? = some (some B) → M.blk q ≠ some r := by
  intro q B hq e
  have h := hG.blks q B hq
  cases B with
  | obj cs =>
    obtain ⟨b, cur, t, fr, h1, h2, _⟩ := h
    rw [h1] at e
    cases e
    rw [ho] at h2
    cases h2
    cases hc
  | row hot sz es =>
    rcases h with ⟨h1, _⟩ | ⟨b, cur, t, fr, us, h1, h2, _⟩
    · rw [h1] at e; cases e
    · rw [h1] at e
      cases e
      rw [ho] at h2
      cases h2
      cases hc
  | map ks vs st => exact (noMaps_at hN q _ hq).elim
  | iter m bs c seen => exact (noMaps_at hN q _ hq).elim
theorem TR.other {n N : Nat} {T : Nat → AV} {a : Act} (keep : ∀ b, M.G b → W'.heap[b]? = W.heap[b]?) (hT : TR M n W N T a) : TR M n W' N T a :=
  hT.mono (fun _ h => h) keep (Nat.le_refl _) (fun _ _ => ⟨rfl, rfl⟩)
theorem ExtB.other {n : Nat} {M0 : Mem} {w0 : World} {H0 : Heap} {row : Option Nat} (h : ExtB n M0 w0 H0 M W H) (hg : W.grownBy W' row) (hr : ∀ r, row = some r → w0.heap.size ≤ r) : ExtB n M0 w0 H0 M W' H :=
  ⟨hg.os.trans h.os, hg.tape.trans h.tape, hg.output.trans h.output, Nat.le_trans h.size hg.size, h.G, h.gnew, fun b hb hn => (hg.block b (Nat.lt_of_lt_of_le hb h.size) (fun e => by have := hr b e.symm; omega)).trans (h.block b hb hn), h.len, h.blk, h.bsz, h.hot⟩
/-- A struct of one's own that nobody writes any more. -/
theorem Gam.iceO (hG : Gam gl M W H) {k : Nat} {cs : List AV} (hk : H[k]? = some (some (.obj cs))) : Gam gl (M.ice k) W (H.set k none) := by
  have hin : ∀ r B, (H.set k none)[r]? = some (some B) → r ≠ k ∧ H[r]? = some (some B) := by
    intro r B h
    rw [List.getElem?_set] at h
    split at h
    · split at h <;> cases h
    · next hne => exact ⟨fun e => hne e.symm, h⟩
  refine ⟨fun g => VR.mono (M := M) (M' := M.ice k) (n := 0) (w := W) (fun _ h => Or.inl h) (fun _ _ => rfl) (Nat.le_refl _) (fun _ _ => ⟨rfl, rfl⟩) (hG.glob g), fun b hb => ?_, fun r B h => ?_, fun r B b h hh hb => ?_, fun r r' B B' b h h' hh hne hb => ?_⟩
  · rcases hb with hb | hb
    · exact hG.inG b hb
    · exact (hG.blks k _ hk).lt hb
  · rw [List.length_set]
    exact BR.mono (M := M) (M' := M.ice k) (n := H.length) (w := W) (r := r) (fun _ h => Or.inl h) (fun _ _ => rfl) (Nat.le_refl _) (fun _ _ => ⟨rfl, rfl⟩) rfl rfl (fun _ _ => rfl) (hG.blks r B (hin r B h).2)
  · rintro (q | q)
    · exact hG.sep r B b (hin r B h).2 hh hb q
    · exact hG.far r k B _ b (hin r B h).2 hk hh (fun e => (hin r B h).1 e.symm) hb q
  · exact hG.far r r' B B' b (hin r B h).2 (hin r' B' h').2 hh hne hb
theorem VR.iceO (hG : Gam gl M W H) {k : Nat} {cs : List AV} (hk : H[k]? = some (some (.obj cs))) {u : Value} (h : VR M H.length W (.ptr k 0) u) : VR (M.ice k) H.length W (.cptr cs) u := by
  unfold VR at h ⊢
  obtain ⟨_, b, h1, rfl⟩ := h
  obtain ⟨b', cur, t, fr, k1, k2, k3, k4, k5⟩ := hG.blks k _ hk
  rw [h1] at k1
  cases k1
  refine ⟨b, 0, cur.toList, rfl, .inr h1, VRs.mono (M := M) (M' := M.ice k) (n := H.length) (w := W) (fun _ h => Or.inl h) (fun _ _ => rfl) (Nat.le_refl _) (fun _ _ => ⟨rfl, rfl⟩) k5, fun j x hj => ?_⟩
  rw [cell_of_row W b _ cur t fr k2]
  simpa using hj
end
/-! ### operations within a round -/
/-- The wide fence, in a round or not. -/
def FR (ro : Option Nat) : Fence := { Fence.wide with round := ro }
theorem wp_inR {P : Program} {o : Oper} {a : Act} {w : World} {K : Act → World → Prop} {Q : Exit → Act → World → Prop} {ro : Option Nat} {n : Nat} (hd : ∀ c, o.op ≠ .defer c) (h : o.wp P a w K Q) : o.wpIn (FR ro) n P a w K Q := by
  refine ⟨fun _ _ => trivial, ?_⟩
  have hs : Oper.semAt (FR ro).round a.eval o = execOp a.eval o := by
    cases ro with
    | none => exact Oper.semAt_none _ _
    | some l => exact Oper.semAt_some l _ _ hd
  rw [hs]
  unfold Oper.wp at h
  generalize (execOp a.eval o).run P w = r at *
  cases r with
  | ok x w' =>
    cases x with
    | value v => exact h
    | skip => exact h
    | defer d => exact h
    | enter f args => exact ⟨fun h => (by cases h), callsIn_wide.2 h⟩
    | row row args =>
      refine ⟨fun h => (by cases h), fun c cs _ => ?_⟩
      obtain ⟨v, w', r, s⟩ := h c cs
      exact ⟨v, w', r, stepsIn_wide.2 s⟩
    | _ => exact h.elim
  | halt x w' =>
    cases x <;> first | exact h | exact h.elim
def noDefer : Oper → Bool
  | ⟨_, .defer _, _, _, _, _⟩ => false
  | _ => true
theorem noDefer_out {o : Oper} (h : noDefer o = true) : ∀ c, o.op ≠ .defer c := by
  intro c e
  cases o
  simp only at e
  subst e
  cases h
theorem put_getD {a : Act} {d : Option Tmp} {u : Value} {k : Nat} (h : d ≠ some k) : (a.put d u).tmps.getD k undef = a.tmps.getD k undef := by
  cases d with
  | none => rfl
  | some d =>
    simp only [Act.put, Array.getD_eq_getD_getElem?, Array.getElem?_setIfInBounds]
    rw [if_neg (fun e => h (by rw [e]))]
/-- Slots that no operation writes. -/
def Same (l : List Oper) (a a' : Act) : Prop := ∀ k, (l.all fun o => !(o.dst == some k)) = true → a'.tmps.getD k undef = a.tmps.getD k undef
section
variable {E : Env} {N : Nat} {ro : Option Nat} {n : Nat}
/-- Operations in a row, whatever comes behind them. -/
theorem aops_seg {ops : Array Oper} (hops : (ops.toList.all fun o => dstOk N o.dst) = true) (hnd : (ops.toList.all noDefer) = true) {Q : Exit → Act → World → Prop} {K : (Nat → AV) → Heap → Prop} : ∀ (l' tail : List Oper) (i : Nat), ops.toList.drop i = l' ++ tail → ∀ (a : Act) (w : World) (T : Nat → AV) (H : Heap) (M : Mem), Gam E.gl M w H → TR M H.length w N T a →
    aops E ops l' T H K → (∀ T' H' M' a' w', K T' H' → Gam E.gl M' w' H' → TR M' H'.length w' N T' a' → a'.defers = a.defers → Same l' a a' → Ext M w H M' w' H' → wpOpsIn (FR ro) n E.P ops Q ((List.range ops.size).drop (i + l'.length)) a' w') → wpOpsIn (FR ro) n E.P ops Q ((List.range ops.size).drop i) a w
  | [], tail, i, hi, a, w, T, H, M, hG, hT, h, hQ => hQ T H M a w h hG hT rfl (fun _ _ => rfl) (Ext.refl _ _ _)
  | o :: l', tail, i, hi, a, w, T, H, M, hG, hT, h, hQ => by
    have hlt : i < ops.size := by
      have := congrArg List.length hi
      simp at this
      omega
    have hoi : ops[i]? = some o := by
      have : (ops.toList.drop i)[0]? = some o := by rw [hi]; rfl
      simpa using this
    have hnext : ops.toList.drop (i + 1) = l' ++ tail := by
      rw [← List.drop_drop, hi]
      rfl
    have hr : (List.range ops.size).drop i = i :: (List.range ops.size).drop (i + 1) := by
      rw [List.drop_eq_getElem_cons (by simpa using hlt)]
      simp
    rw [hr]
    unfold wpOpsIn
    simp only [hoi]
    unfold aops at h
    have hmem : o ∈ ops.toList := List.mem_of_mem_drop (by
      have : o ∈ ops.toList.drop i := by rw [hi]; simp
      exact this)
    have hd : dstOk N o.dst = true := List.all_eq_true.1 hops o hmem
    have hnd' := noDefer_out (List.all_eq_true.1 hnd o hmem)
    have e1 : ∀ m, i + 1 + m = i + (m + 1) := fun m => by omega
    have same : ∀ (u : Value) (a2 : Act), Same l' (a.put o.dst u) a2 → Same (o :: l') a a2 := fun u a2 h k hk => by
      rw [List.all_cons, Bool.and_eq_true] at hk
      rw [h k hk.2]
      exact put_getD (by simpa using hk.1)
    have run : aop E o.op o.type (ev E.gl T) H (fun v H' => aops E ops l' (aput T o.dst v) H' K) → o.wpIn (FR ro) n E.P a w (wpOpsIn (FR ro) n E.P ops Q ((List.range ops.size).drop (i + 1))) Q := by
      intro h1
      refine wp_inR hnd' (op_sound hG hT h1 fun v u w' M' H' h2 h3 h4 h5 => ?_)
      exact aops_seg hops hnd l' tail (i + 1) hnext _ w' _ H' M' h3 ((hT.ext h5 hG).put hd h4) h2 fun T2 H2 M2 a2 w2 k1 k2 k3 k4 k6 k5 => by
        have := hQ T2 H2 M2 a2 w2 k1 k2 k3 (k4.trans (put_defers a _ _)) (same u a2 k6) (h5.trans k5)
        rwa [List.length_cons, ← e1] at this
    have skip : aops E ops l' (aput T o.dst (.v undef)) H K → wpOpsIn (FR ro) n E.P ops Q ((List.range ops.size).drop (i + 1)) (a.put o.dst undef) w := by
      intro h1
      exact aops_seg hops hnd l' tail (i + 1) hnext _ w _ H M hG (hT.put hd (by unfold VR; rfl)) h1 fun T2 H2 M2 a2 w2 k1 k2 k3 k4 k6 k5 => by
        have := hQ T2 H2 M2 a2 w2 k1 k2 k3 (k4.trans (put_defers a _ _)) (same undef a2 k6) k5
        rwa [List.length_cons, ← e1] at this
    cases hg : o.guard with
    | none =>
      rw [hg] at h
      rw [if_pos (by simp [Region.wanted, hg])]
      exact run h
    | some g =>
      obtain ⟨j, want⟩ := g
      rw [hg] at h
      simp only at h
      split at h
      · next b hy =>
        have hyo := ayield_out hT hy (dst_lt hops j)
        by_cases hb : b = want
        · rw [if_pos (by simp [Region.wanted, hg, hyo, hb])]
          exact run (h.1 hb)
        · rw [if_neg (by simp [Region.wanted, hg, hyo, hb])]
          exact ⟨fun _ _ => trivial, skip (h.2 hb)⟩
      · next hy =>
        have hyo := ayield_out hT hy (dst_lt hops j)
        rw [if_neg (by simp [Region.wanted, hg, hyo])]
        exact ⟨fun _ _ => trivial, skip h⟩
      · exact h.elim
/-- A region whose order is fixed. -/
theorem reg_inR {id : Nat} {ops : Array Oper} (hops : (ops.toList.all fun o => dstOk N o.dst) = true) (hnd : (ops.toList.all noDefer) = true) {Q : Exit → Act → World → Prop} {K : Kth} {a : Act} {w : World} {T : Nat → AV} {H : Heap} {M : Mem} (hG : Gam E.gl M w H) (hT : TR M H.length w N T a)
    (h : @jops E ops ops.toList T H K) (hQ : ∀ T' H' M' a' w', K.k T' H' → Gam E.gl M' w' H' → TR M' H'.length w' N T' a' → a'.defers = a.defers → Same ops.toList a a' → Ext M w H M' w' H' → Q .normal a' w') : (Code.region id ops false).wpIn (FR ro) n E.P Q a w := by
  refine wpIn_region ?_
  have := aops_seg (ro := ro) (n := n) (Q := Q) hops hnd ops.toList [] 0 (by simp) a w T H M hG hT h fun T' H' M' a' w' h1 h2 h3 h4 h5 h6 => by
    rw [Nat.zero_add, List.drop_eq_nil_of_le (by simp)]
    unfold wpOpsIn
    exact hQ T' H' M' a' w' h1 h2 h3 h4 h5 h6
  simpa using this
end
end Go.Am
namespace Go.Am
open Go.RowKit Go.Cx
theorem ext_grown {M M' : Mem} {w w' : World} {H' : Heap} (h : Ext M w [] M' w' H') : w.grownBy w' none :=
  ⟨h.os, h.tape, h.output, h.size, fun k hk _ => h.block k hk (by rintro ⟨r, B, h1, _⟩; simp at h1)⟩
section
variable {E : Env} {N : Nat} {n : Nat}
theorem reg_in0 {id : Nat} {ops : Array Oper} (hops : (ops.toList.all fun o => dstOk N o.dst) = true) (hnd : (ops.toList.all noDefer) = true) {Q : Exit → Act → World → Prop} {a : Act} {w : World} (T : Nat → AV) (H : Heap) (M : Mem) (K : (Nat → AV) → Heap → Prop) (hG : Gam E.gl M w H) (hT : TR M H.length w N T a)
    (h : @jops E ops ops.toList T H ⟨K⟩) (hQ : ∀ T' H' M' a' w', K T' H' → Gam E.gl M' w' H' → TR M' H'.length w' N T' a' → a'.defers = a.defers → Same ops.toList a a' → Ext M w H M' w' H' → Q .normal a' w') : (Code.region id ops false).wpIn Fence.wide n E.P Q a w :=
  reg_inR (ro := none) hops hnd hG hT h hQ
theorem reg_inL {l : Nat} {id : Nat} {ops : Array Oper} (hops : (ops.toList.all fun o => dstOk N o.dst) = true) (hnd : (ops.toList.all noDefer) = true) {Q : Exit → Act → World → Prop} {a : Act} {w : World} (T : Nat → AV) (H : Heap) (M : Mem) (K : (Nat → AV) → Heap → Prop) (hG : Gam E.gl M w H) (hT : TR M H.length w N T a)
    (h : @jops E ops ops.toList T H ⟨K⟩) (hQ : ∀ T' H' M' a' w', K T' H' → Gam E.gl M' w' H' → TR M' H'.length w' N T' a' → a'.defers = a.defers → Same ops.toList a a' → Ext M w H M' w' H' → Q .normal a' w') : (Code.region id ops false).wpIn (Fence.wide.inRound l) n E.P Q a w :=
  reg_inR (ro := some l) hops hnd hG hT h hQ
end
end Go.Am
namespace Go.Am
open Go.RowKit Go.Cx
section
variable {E : Env} {N : Nat} {n : Nat}
theorem reg_cut0 {id : Nat} {ops : Array Oper} (j : Nat) (hj : j ≤ ops.size) (hops : (ops.toList.all fun o => dstOk N o.dst) = true) (hnd : (ops.toList.all noDefer) = true) {Q : Exit → Act → World → Prop} {a : Act} {w : World} (T : Nat → AV) (H : Heap) (M : Mem) (K : (Nat → AV) → Heap → Prop) (hG : Gam E.gl M w H) (hT : TR M H.length w N T a)
    (h : @jops E ops (ops.toList.take j) T H ⟨K⟩) (hQ : ∀ T' H' M' a' w', K T' H' → Gam E.gl M' w' H' → TR M' H'.length w' N T' a' → a'.defers = a.defers → Same (ops.toList.take j) a a' → Ext M w H M' w' H' → wpOpsIn Fence.wide n E.P ops Q ((List.range ops.size).drop j) a' w') : (Code.region id ops false).wpIn Fence.wide n E.P Q a w := by
  refine wpIn_region ?_
  have hlen : (ops.toList.take j).length = j := by simp; omega
  have := aops_seg (ro := none) (n := n) (Q := Q) hops hnd (ops.toList.take j) (ops.toList.drop j) 0 (by rw [List.take_append_drop]; rfl) a w T H M hG hT h fun T' H' M' a' w' h1 h2 h3 h4 h5 h6 => by
    rw [Nat.zero_add, hlen]
    exact hQ T' H' M' a' w' h1 h2 h3 h4 h5 h6
  exact this
theorem reg_end0 {ops : Array Oper} (j : Nat) (hops : (ops.toList.all fun o => dstOk N o.dst) = true) (hnd : (ops.toList.all noDefer) = true) {Q : Exit → Act → World → Prop} {a : Act} {w : World} (T : Nat → AV) (H : Heap) (M : Mem) (K : (Nat → AV) → Heap → Prop) (hG : Gam E.gl M w H) (hT : TR M H.length w N T a)
    (h : @jops E ops (ops.toList.drop j) T H ⟨K⟩) (hQ : ∀ T' H' M' a' w', K T' H' → Gam E.gl M' w' H' → TR M' H'.length w' N T' a' → a'.defers = a.defers → Same (ops.toList.drop j) a a' → Ext M w H M' w' H' → Q .normal a' w') : wpOpsIn Fence.wide n E.P ops Q ((List.range ops.size).drop j) a w :=
  aops_seg (ro := none) (n := n) (Q := Q) hops hnd (ops.toList.drop j) [] j (by simp) a w T H M hG hT h fun T' H' M' a' w' h1 h2 h3 h4 h5 h6 => by
    rw [List.drop_eq_nil_of_le (by simp; omega)]
    unfold wpOpsIn
    exact hQ T' H' M' a' w' h1 h2 h3 h4 h5 h6
theorem wpOps_at {F : Fence} {P : Program} {ops : Array Oper} {Q : Exit → Act → World → Prop} {a : Act} {w : World} (j : Nat) (o : Oper) (ho : ops[j]? = some o) (hg : o.guard = none) (h : o.wpIn F n P a w (wpOpsIn F n P ops Q ((List.range ops.size).drop (j + 1))) Q) : wpOpsIn F n P ops Q ((List.range ops.size).drop j) a w := by
  have hlt : j < ops.size := (Array.getElem?_eq_some_iff.1 ho).1
  have hr : (List.range ops.size).drop j = j :: (List.range ops.size).drop (j + 1) := by
    rw [List.drop_eq_getElem_cons (by simpa using hlt)]
    simp
  rw [hr]
  unfold wpOpsIn
  simp only [ho]
  rw [if_pos (by simp [Region.wanted, hg])]
  exact h
/-- A call of yield. -/
theorem wp_yield {P : Program} {o : Oper} {a : Act} {w : World} {K : Act → World → Prop} {Q : Exit → Act → World → Prop} {l : Nat} {f : Operand} {as : Array Operand} {ts : Array TypeId} {R : Ending → World → Prop} (ho : o.op = .call ⟨.value f, as, ts⟩) (hf : a.eval f = .func (.yield l) #[] #[])
    (hy : YieldAt Fence.wide (n - 1) P l (as.map a.eval) w R) (hR : ∀ e w', R e w' → match e with | .returned v => K (a.put o.dst v) w' | _ => False) : o.wpIn Fence.wide n P a w K Q := by
  obtain ⟨fn, tmps, assign, body, h1, h2⟩ := hy
  refine ⟨fun _ _ => trivial, ?_⟩
  have hs : Oper.semAt Fence.wide.round a.eval o = execOp a.eval o := Oper.semAt_none _ _
  rw [hs]
  have he : (execOp a.eval o).run P w = .ok (.round l fn tmps assign body) w := by
    unfold execOp
    simp [ho, resolve, Deferred.ofValue, hf, invoke, h1]
  rw [he]
  refine ⟨fun h => (by cases h), h2.mono fun e w' h => ?_⟩
  have := hR e w' h
  cases e with
  | returned v => exact this
  | _ => exact this.elim
end
end Go.Am
namespace Go.Am
open Go.RowKit Go.Cx
section
variable {gl : Nat → AV} {M : Mem} {w : World} {H : Heap}
/-- Fewer blocks are frozen: what does not speak of them stays. -/
theorem Gam.shrink (hG : Gam gl M w H) (hgl : ∀ g, gl g = .any) (G0 : Nat → Prop) (h0 : ∀ b, G0 b → M.G b) (hH : gfH H) (hn : ∀ (k : Nat) (B : Blk), H[k]? = some (some B) → bmap (fun r => r) B = B) : Gam gl { M with G := G0 } w H := by
  refine ⟨fun g => by rw [hgl]; trivial, fun b hb => hG.inG b (h0 b hb), fun r B h => ?_, fun r B b h hh hb hg => hG.sep r B b h hh hb (h0 b hg), hG.far⟩
  have := BR.up (M := M) (M' := { M with G := G0 }) (n := H.length) (n' := H.length) (w := w) (f := fun r => r) (fun r hr => ⟨hr, rfl, rfl⟩) (List.getElem?_eq_some_iff.1 h).1 (.inl (gfH_at hH r B h)) (hG.blks r B h)
  rwa [hn r B h] at this
theorem ExtB.pushB {n b s : Nat} {M0 : Mem} {w0 : World} {H0 : Heap} {B : Blk} (h : ExtB n M0 w0 H0 M w H) (hb : w0.heap.size ≤ b) (hl : n ≤ H.length) : ExtB n M0 w0 H0 (M.push H.length b s) w (H ++ [some B]) := by
  refine ⟨h.os, h.tape, h.output, h.size, h.G, h.gnew, h.block, by simp; omega, fun r hr => ?_, fun r hr => ?_, fun c hc => ?_⟩
  · simp only [Mem.push]; rw [if_neg (by omega)]; exact h.blk r hr
  · simp only [Mem.push]; rw [if_neg (by omega)]; exact h.bsz r hr
  · obtain ⟨r, B', h1, h2, h3⟩ := hc
    simp only [Mem.push] at h3
    rw [getElem?_snoc] at h1
    split at h1
    · next e => rw [if_pos e] at h3; cases h3; exact .inr hb
    · next e => rw [if_neg e] at h3; exact h.hot c ⟨r, B', h1, h2, h3⟩
theorem ExtB.shrink {n : Nat} {M0 : Mem} {w0 : World} {H0 : Heap} (h : ExtB n M0 w0 H0 M w H) : ExtB n M0 w0 H0 { M with G := M0.G } w H :=
  ⟨h.os, h.tape, h.output, h.size, fun _ h => h, fun _ h => .inl h, h.block, h.len, h.blk, h.bsz, h.hot⟩
theorem ExtB.less {n : Nat} {M0 : Mem} {w0 : World} {H0 L : Heap} (h : ExtB n M0 w0 H0 M w (H ++ L)) (hl : n ≤ H.length) : ExtB n M0 w0 H0 M w H :=
  ⟨h.os, h.tape, h.output, h.size, h.G, h.gnew, h.block, hl, h.blk, h.bsz, fun b hb => by
    obtain ⟨r, B, h1, h2, h3⟩ := hb
    exact h.hot b ⟨r, B, by rw [List.getElem?_append_left (List.getElem?_eq_some_iff.1 h1).1]; exact h1, h2, h3⟩⟩
theorem Ext.keepsFrom {M' : Mem} {w' : World} {H' : Heap} (h : Ext M w H M' w' H') (hG : Gam gl M w H) (hN : noMaps H) (B : Nat) : KeepsFrom B w w' :=
  ⟨h.size, fun k o _ hk ho => (h.block k (Array.getElem?_eq_some_iff.1 hk).1 (fun hh => by
    obtain ⟨r, B, h1, _, h3⟩ := hh
    exact hG.notCells hk ho hN r B h1 h3)).trans hk⟩
end
section
variable {E : Env} {N : Nat} {n : Nat}
def onto : Code → Code → Code
  | .seq a b, rest => .seq a (onto b rest)
  | c, rest => .seq c rest
theorem onto_wp {Q : Exit → Act → World → Prop} {rest : Code} {Qa : Exit → (Nat → AV) → Heap → Prop} (hx : ∀ e T H, e ≠ .normal → ¬ Qa e T H) : ∀ (c : Code), codeOk N c = true → ∀ (a : Act) (w : World) (T : Nat → AV) (H : Heap) (M : Mem), n ≤ H.length → Gam E.gl M w H → TR M H.length w N T a → awp E n c Qa T H →
    (∀ T' H' M' a' w', Qa .normal T' H' → Gam E.gl M' w' H' → TR M' H'.length w' N T' a' → a'.defers = a.defers → ExtB n M w H M' w' H' → rest.wp E.P Q a' w') → (onto c rest).wp E.P Q a w := by
  intro c
  induction c with
  | seq x y ihx ihy =>
    intro hc a w T H M hn hG hT h hQ
    simp only [codeOk, Bool.and_eq_true] at hc
    refine wp_seq (wp_mono (awp_sound x hc.1 _ a w T H M hn hG hT h) ?_)
    rintro e a' w' ⟨T', H', M', h1, h2, h3, h4, h5⟩
    cases e with
    | normal =>
      obtain ⟨T2, H2, hq, h1⟩ := h1
      obtain ⟨hn2, hq⟩ := hq h5.len
      obtain ⟨M2, g2, g3, g5⟩ := hq M' w' N a' h2 h3
      exact ihy hc.2 a' w' T2 H2 M2 hn2 g2 g3 h1 fun T3 H3 M3 a3 w3 k1 k2 k3 k4 k5 => hQ T3 H3 M3 a3 w3 k1 k2 k3 (k4.trans h4) ((h5.trans g5).trans k5)
    | _ => exact absurd h1 (hx _ _ _ (by simp))
  | _ =>
    intro hc a w T H M hn hG hT h hQ
    refine wp_seq (wp_mono (awp_sound _ hc _ a w T H M hn hG hT h) ?_)
    rintro e a' w' ⟨T', H', M', h1, h2, h3, h4, h5⟩
    cases e with
    | normal => exact hQ T' H' M' a' w' h1 h2 h3 h4 h5
    | _ => exact absurd h1 (hx _ _ _ (by simp))
end
end Go.Am
namespace Go.Am
open Go.RowKit Go.Cx
section
variable {E : Env} {N n : Nat} {M : Mem} {w : World} {H : Heap}
theorem tr_T0 {as : List AV} {vs : List Value} (hv : VRt M H.length w as vs) (hl : as.length ≤ N) : TR M H.length w N (T0 as) { tmps := vs.toArray ++ Array.replicate (N - vs.toArray.size) undef, defers := [] } := by
  have hlen := VRt.len hv
  refine ⟨by simp; omega, fun i => ?_⟩
  unfold T0
  by_cases hi : i < as.length
  · rw [List.getElem?_eq_getElem hi]
    obtain ⟨u, h1, h2⟩ := VRt.get hv (List.getElem?_eq_getElem hi)
    have hiv : i < vs.length := by omega
    have : (vs.toArray ++ Array.replicate (N - vs.toArray.size) undef).getD i undef = u := by
      rw [Array.getD_eq_getD_getElem?, Array.getElem?_append_left (by simpa using hiv)]
      simp [h1]
    rw [this]
    exact h2
  · rw [List.getElem?_eq_none (by omega)]
    have : (vs.toArray ++ Array.replicate (N - vs.toArray.size) undef).getD i undef = undef := by
      rw [Array.getD_eq_getD_getElem?, Array.getElem?_append_right (by simp; omega)]
      simp only [Array.getElem?_replicate]
      split <;> rfl
    rw [this]
    simp [VR]
theorem ExtB.down {n' : Nat} {M' : Mem} {w' : World} {H' : Heap} (h : ExtB n M w H M' w' H') (hn : n' ≤ n) : ExtB n' M w H M' w' H' :=
  ⟨h.os, h.tape, h.output, h.size, h.G, h.gnew, h.block, Nat.le_trans hn h.len, fun r hr => h.blk r (Nat.lt_of_lt_of_le hr hn), fun r hr => h.bsz r (Nat.lt_of_lt_of_le hr hn), h.hot⟩
theorem ExtB.iceO {k : Nat} {cs : List AV} (hk : H[k]? = some (some (.obj cs))) (hn : n ≤ H.length) : ExtB n M w H (M.ice k) w (H.set k none) :=
  ⟨rfl, rfl, rfl, Nat.le_refl _, fun _ h => .inl h, fun b hb => by
    rcases hb with hb | hb
    · exact .inl hb
    · exact .inr (.inl ⟨k, _, hk, rfl, hb⟩), fun _ _ _ => rfl, by simpa using hn, fun _ _ => rfl, fun _ _ => rfl, fun b hb => by
    obtain ⟨r, B, h1, h2, h3⟩ := hb
    rw [List.getElem?_set] at h1
    split at h1
    · split at h1 <;> cases h1
    · exact .inl ⟨r, B, h1, h2, h3⟩⟩
theorem pre5 {Q : Exit → Act → World → Prop} {c1 c2 c3 c4 c5 B tl : Code} {K : (Nat → AV) → Heap → Prop} {a : Act} {T : Nat → AV} (h4 : ∀ r, onto c4 r = .seq c4 r) (hc : codeOk N (.seq c1 (.seq c2 (.seq c3 c4))) = true) (hc5 : codeOk N c5 = true) (hn : n ≤ H.length) (hG : Gam E.gl M w H) (hT : TR M H.length w N T a)
    (h : awp E n (.seq c1 (.seq c2 (.seq c3 c4))) (fun e T H => e = .normal ∧ Cl E n (fun T' H' => awp E n c5 (fun e T H => e = .normal ∧ Cl E n K T H) T' H') T H) T H)
    (hQ : ∀ T' H' M' a' w', K T' H' → n ≤ H'.length → Gam E.gl M' w' H' → TR M' H'.length w' N T' a' → a'.defers = a.defers → ExtB n M w H M' w' H' → B.wp E.P (Exit.then (tl.wp E.P Q) Q) a' w') : (Code.seq c1 (.seq c2 (.seq c3 (.seq c4 (.seq (.seq c5 B) tl))))).wp E.P Q a w := by
  have := onto_wp (E := E) (N := N) (n := n) (Q := Q) (rest := .seq (.seq c5 B) tl) (fun e T H hne h => hne h.1) _ hc a w T H M hn hG hT h fun T' H' M' a' w' h1 h2 h3 h4 h5 => by
    obtain ⟨_, T2, H2, hq, h1⟩ := h1
    obtain ⟨hn2, hq⟩ := hq h5.len
    obtain ⟨M2, g2, g3, g5⟩ := hq M' w' N a' h2 h3
    refine wp_seq (wp_seq (wp_mono (awp_sound c5 hc5 _ a' w' T2 H2 M2 hn2 g2 g3 h1) ?_))
    rintro e a3 w3 ⟨T3, H3, M3, ⟨rfl, T4, H4, hq, k1⟩, k2, k3, k4, k5⟩
    obtain ⟨hn4, hq⟩ := hq k5.len
    obtain ⟨M4, f2, f3, f5⟩ := hq M3 w3 N a3 k2 k3
    exact hQ T4 H4 M4 a3 w3 k1 hn4 f2 f3 (k4.trans h4) (((h5.trans g5).trans k5).trans f5)
  unfold onto onto onto at this
  rwa [h4] at this
end
end Go.Am
namespace Go.Am
open Go.RowKit Go.Cx
/-- A function whose body holds a range over a function. -/
theorem calls_marks {E : Env} {f : FuncId} {fn : Func} {c : Code} {as : List AV} {H : Heap} {R : AV → Heap → Prop} (hf : E.P.funcs[f]? = some fn) (hb : fn.body = some c) (hn : (fn.name == "runtime.NumGoroutine") = false)
    (h : ∀ (w : World) (M : Mem) (vs : List Value), Gam E.gl M w H → VRt M H.length w as vs → c.wp E.P (bodyPostM Fence.wide 8 E.P fn fun e w' => ∃ r H' v M', e = .returned v ∧ R r H' ∧ Gam E.gl M' w' H' ∧ VR M' H'.length w' r v ∧ Ext M w H M' w' H') { tmps := vs.toArray ++ Array.replicate (fn.ntmps - vs.toArray.size) undef, defers := [] } w) : ACalls E f as H R :=
  ⟨⟨fn, hf, hn, by rw [hb]; rfl⟩, fun w M vs hG hv => (callsIn_wide (n := 8)).1 (callsIn_of_wp_marks hf hb trivial (wpIn_wide.2 (h w M vs hG hv)) rfl)⟩
end Go.Am
namespace Go.Am
open Go.RowKit Go.Cx
theorem acalls_raw {E : Env} {f : FuncId} {fn : Func} {c : Code} {as : List AV} {H : Heap} {R : AV → Heap → Prop} (hf : E.P.funcs[f]? = some fn) (hb : fn.body = some c) (hn : (fn.name == "runtime.NumGoroutine") = false)
    (h : ∀ (w : World) (M : Mem) (vs : List Value), Gam E.gl M w H → VRt M H.length w as vs → Calls E.P f vs.toArray w fun e w' => ∃ r H' v M', e = .returned v ∧ R r H' ∧ Gam E.gl M' w' H' ∧ VR M' H'.length w' r v ∧ Ext M w H M' w' H') : ACalls E f as H R :=
  ⟨⟨fn, hf, hn, by rw [hb]; rfl⟩, h⟩
theorem setCells_setRow {b : Nat} {e : TypeId} {fr : Nat × Nat} : ∀ (vs : List Value) (o : Nat) (w : World) (cur : Array Value), w.heap[b]? = some (.cells cur e fr) → o + vs.length ≤ cur.size → w.setCells b o vs = w.setRow b (cur.toList.take o ++ vs ++ cur.toList.drop (o + vs.length)).toArray
  | [], o, w, cur, h, _ => by
    have : (cur.toList.take o ++ [] ++ cur.toList.drop (o + ([] : List Value).length)).toArray = cur := by simp
    rw [this, setRow_self w b cur e fr h]
    rfl
  | v :: vs, o, w, cur, h, hl => by
    have hl' : o + (vs.length + 1) ≤ cur.size := hl
    have h1 := setCell_eq_setRow w b o cur e fr v h
    show (w.setCell ⟨b, o, none⟩ v).setCells b (o + 1) vs = _
    rw [h1, setCells_setRow vs (o + 1) _ (cur.setIfInBounds o v) (setRow_heap w b cur _ e fr h) (by simp; omega), setRow_setRow]
    congr 1
    simp only [Array.toList_setIfInBounds, List.length_cons]
    rw [List.take_set, List.drop_set_of_lt (by omega), List.take_add_one]
    have h2 : o < cur.toList.length := by simp; omega
    rw [List.getElem?_eq_getElem h2, List.set_append_right _ _ (by simp; omega)]
    simp only [List.length_take, Option.toList_some]
    rw [Nat.min_eq_left (by omega), Nat.sub_self, List.set_cons_zero, show o + 1 + vs.length = o + (vs.length + 1) by omega]
    simp
theorem ext_drew {M : Mem} {w : World} {H : Heap} : Ext M w H M w.drew H := ⟨rfl, rfl, rfl, Nat.le_refl _, fun _ h => h, fun _ h => .inl h, fun _ _ _ => rfl, Nat.le_refl _, fun _ _ => rfl, fun _ _ => rfl, fun _ h => .inl h⟩
theorem grown_drew (w : World) : w.grownBy w.drew none := ⟨rfl, rfl, rfl, Nat.le_refl _, fun _ _ _ => rfl⟩
end Go.Am

namespace Go.Proofs.Ytjfoicebdjonfaa
open Go.RowKit Go.Cx

structure Tag where
  typ : Int
  val : List UInt8
instance : Rep Tag where
  sz := 2
  rd G w cs t := ∃ v, cs = [.int .i64 t.typ, v] ∧ (-9223372036854775808 ≤ t.typ ∧ t.typ ≤ 9223372036854775807) ∧ RSl G w v t.val
  len := by rintro _ _ _ _ ⟨v, rfl, _⟩; rfl
  one := by
    rintro _ _ _ _ ⟨v, rfl, _, ao, cap, cells, rfl, _⟩
    simp [Value.oneCell']
  mono hG hw := by
    rintro ⟨v, rfl, h1, h⟩
    exact ⟨v, rfl, h1, h.mono hG hw⟩
/-- may a tag be? -/
def okB (t : Int) (n : Nat) : Bool := decide (1 ≤ t ∧ t ≤ 65535 ∧ n ≤ 65535)
def okTag (t : Tag) : Bool := okB t.typ t.val.length
def encOne (t : Tag) : List UInt8 := be 2 t.typ.toNat ++ be 2 t.val.length ++ t.val
def encAll (ts : List Tag) : List UInt8 := ts.flatMap encOne
def enc (ts : List Tag) : List UInt8 × Int := if 64 < ts.length then ([], 3) else if ts.all okTag = false then ([], 50) else if 1494 < (encAll ts).length then ([], 2) else (encAll ts, 0)
def lenOf (b : List UInt8) : Nat := 256 * (b.getD 2 0).toNat + (b.getD 3 0).toNat
def others (ts : List Tag) (y : Int) : List Tag := ts.filter fun t => !(t.typ == y)
theorem two (n : Nat) (h : n ≤ 65535) : 256 * (UInt8.ofNat (n / 256)).toNat + (UInt8.ofNat n).toNat = n := by simp; omega
/-- Decoding goes on from what was decoded. -/
theorem four {b : List UInt8} (h : ¬ b.length < 4) : ∃ x0 x1 x2 x3 r, b = x0 :: x1 :: x2 :: x3 :: r := by
  match b, h with
  | x0 :: x1 :: x2 :: x3 :: r, _ => exact ⟨_, _, _, _, _, rfl⟩
  | [], h => simp at h
  | [_], h => simp at h
  | [_, _], h => simp at h
  | [_, _, _], h => simp at h
end Go.Proofs.Ytjfoicebdjonfaa
