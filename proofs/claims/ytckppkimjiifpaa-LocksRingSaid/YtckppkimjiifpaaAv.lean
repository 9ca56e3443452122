/- The abstract machine: the model does what it says; code. No condition. -/
import Derived.Test.YtckppkimjiifpaaAe
set_option linter.unusedSectionVars false
set_option linter.unusedVariables false
set_option linter.unusedSimpArgs false
set_option linter.deprecated false
namespace Go.Am
open Go.RowKit Go.Cx

section
variable {E : Env} {M : Mem} {w : World} {H : Heap} {N : Nat} {T : Nat → AV} {a : Act}

theorem awp_sound {n : Nat} : ∀ (c : Code), codeOk N c = true → ∀ (Q : Exit → (Nat → AV) → Heap → Prop) (a : Act) (w : World) (T : Nat → AV) (H : Heap) (M : Mem), n ≤ H.length → Gam E.gl M w H → TR M H.length w N T a →
    awp E n c Q T H → c.wp E.P (LiftB E n M w H N a.defers Q) a w
  | .skip, _, Q, a, w, T, H, M, hn, hG, hT, h => wp_skip ⟨T, H, M, h, hG, hT, rfl, .refl hn⟩
  | .label _, _, Q, a, w, T, H, M, hn, hG, hT, h => wp_label ⟨T, H, M, h, hG, hT, rfl, .refl hn⟩
  | .exit id, _, Q, a, w, T, H, M, hn, hG, hT, h => wp_exit ⟨T, H, M, h, hG, hT, rfl, .refl hn⟩
  | .ret, _, Q, a, w, T, H, M, hn, hG, hT, h => wp_ret ⟨T, H, M, h, hG, hT, rfl, .refl hn⟩
  | .seq x y, hc, Q, a, w, T, H, M, hn, hG, hT, h => by
    simp only [codeOk, Bool.and_eq_true] at hc
    refine wp_seq (wp_mono (awp_sound x hc.1 _ a w T H M hn hG hT h) ?_)
    rintro e a' w' ⟨T', H', M', h1, h2, h3, h4, h5⟩
    cases e with
    | normal =>
      obtain ⟨T2, H2, hq, h1⟩ := h1
      obtain ⟨hn2, hq⟩ := hq h5.len
      obtain ⟨M2, g2, g3, g5⟩ := hq M' w' N a' h2 h3
      refine wp_mono (awp_sound y hc.2 Q a' w' T2 H2 M2 hn2 g2 g3 h1) ?_
      rintro e2 a2 w2 ⟨T2, H2, M2, k1, k2, k3, k4, k5⟩
      exact ⟨T2, H2, M2, k1, k2, k3, k4.trans h4, (h5.trans g5).trans k5⟩
    | _ => exact ⟨T', H', M', h1, h2, h3, h4, h5⟩
  | .cond c x y, hc, Q, a, w, T, H, M, hn, hG, hT, h => by
    simp only [codeOk, Bool.and_eq_true] at hc
    obtain ⟨t, h1, h2, h3⟩ := h
    have hv := ev_out hG hT c
    rw [h1] at hv
    unfold VR at hv
    exact wp_cond_split hv (fun ht => awp_sound x hc.1 Q a w T H M hn hG hT (h2 ht)) (fun ht => awp_sound y hc.2 Q a w T H M hn hG hT (h3 ht))
  | .block id c, hc, Q, a, w, T, H, M, hn, hG, hT, h => by
    refine wp_block (wp_mono (awp_sound c hc _ a w T H M hn hG hT h) ?_)
    rintro e a' w' ⟨T', H', M', h1, h2⟩
    cases e with
    | exit i =>
      simp only [ablock] at h1
      simp only [Exit.inBlock]
      split
      · next hi => rw [if_pos hi] at h1; exact ⟨T', H', M', h1, h2⟩
      · next hi => rw [if_neg hi] at h1; exact ⟨T', H', M', h1, h2⟩
    | _ => exact ⟨T', H', M', h1, h2⟩
  | .scope c, hc, Q, a, w, T, H, M, hn, hG, hT, h => by
    refine wp_scope_straight (wp_mono (awp_sound c hc _ a w T H M hn hG hT h) ?_)
    rintro e a' w' ⟨T', H', M', h1, h2⟩
    cases e with
    | goto l => exact h1.elim
    | _ => exact ⟨T', H', M', h1, h2⟩
  | .loop c, hc, Q, a, w, T, H, M, hn, hG, hT, h => by
    obtain ⟨I, ⟨k0, T0, H0, hq, hI⟩, hround⟩ := h
    let R : Nat → Act → World → Prop := fun k a1 w1 => ∃ T1 H1 M1, I k T1 H1 ∧ Gam E.gl M1 w1 H1 ∧ TR M1 H1.length w1 N T1 a1 ∧ a1.defers = a.defers ∧ ExtB n M w H M1 w1 H1
    obtain ⟨μ, hμ⟩ : ∃ μ : Act × World → Nat, ∀ p, (∃ k, R k p.1 p.2) → R (μ p) p.1 p.2 ∧ ∀ k, R k p.1 p.2 → μ p ≤ k := by
      have : ∀ p : Act × World, ∃ m, (∃ k, R k p.1 p.2) → R m p.1 p.2 ∧ ∀ k, R k p.1 p.2 → m ≤ k := by
        intro p
        by_cases hp : ∃ k, R k p.1 p.2
        · obtain ⟨m, h1, h2⟩ := exists_least hp
          exact ⟨m, fun _ => ⟨h1, h2⟩⟩
        · exact ⟨0, fun h => absurd h hp⟩
      exact Classical.skolem.1 this
    obtain ⟨hn0, hq⟩ := hq hn
    obtain ⟨M0, g2, g3, g5⟩ := hq M w N a hG hT
    refine wp_loop (fun a1 w1 => ∃ k, R k a1 w1) (fun a1 w1 => μ (a1, w1)) ⟨k0, T0, H0, M0, hI, g2, g3, rfl, g5⟩ ?_
    intro a1 w1 hR
    obtain ⟨⟨T1, H1, M1, k1, k3, k4, k5, k6⟩, _⟩ := hμ (a1, w1) hR
    refine wp_mono (awp_sound c hc _ a1 w1 T1 H1 M1 k6.len k3 k4 (hround _ T1 H1 k1)) ?_
    rintro e a' w' ⟨T', H', M', h1, h2, h3, h4, h5⟩
    cases e with
    | normal =>
      obtain ⟨T2, H2, hq, j, hj, hI2⟩ := h1
      obtain ⟨hn2, hq⟩ := hq h5.len
      obtain ⟨M2, f2, f3, f5⟩ := hq M' w' N a' h2 h3
      have hR' : R j a' w' := ⟨T2, H2, M2, hI2, f2, f3, h4.trans k5, (k6.trans h5).trans f5⟩
      exact ⟨⟨_, hR'⟩, Nat.lt_of_le_of_lt ((hμ (a', w') ⟨_, hR'⟩).2 _ hR') hj⟩
    | _ => exact ⟨T', H', M', h1, h2, h3, h4.trans k5, k6.trans h5⟩
  | .region _ ops false, hc, Q, a, w, T, H, M, hn, hG, hT, h => by
    refine wp_region ?_
    have := aops_sound (E := E) (N := N) (Q := LiftB E n M w H N a.defers Q) hc ops.toList 0 rfl a w T H M hG hT h fun T' H' M' a' w' k1 k2 k3 k4 k5 => ⟨T', H', M', k1, k2, k3, k4, .of hn k5⟩
    simpa using this
  | .region _ ops true, hc, Q, a, w, T, H, M, hn, hG, hT, h => by
    unfold awp at h
    obtain ⟨h1, ks, h2, h3⟩ := h
    exact wp_mono (draw_wp h1 hc h2 h3 hG hT) fun _ _ _ h => h.b hn
  | .rangeFunc .., _, Q, a, w, T, H, M, hn, hG, hT, h => by unfold awp at h; exact h.elim
  | .goto .., _, Q, a, w, T, H, M, hn, hG, hT, h => by unfold awp at h; exact h.elim
  | .refuse .., _, Q, a, w, T, H, M, hn, hG, hT, h => by unfold awp at h; exact h.elim
end
end Go.Am
namespace Go.Am
open Go.RowKit Go.Cx

/-- The function's end: its own blocks are left behind, what is told is told as it reads. -/
def aend (H0 : Heap) (R : AV → Heap → Prop) (r : AV) (H' : Heap) : Prop :=
  ∃ H1 L d, H' = H1 ++ L ∧ H1.length = H0.length ∧ (∀ (k : Nat) (B : Blk), H1[k]? = some (some B) → H0[k]? = some (some B) ∨ nbB H0.length B) ∧ nb H0.length (frz d L H0.length r) ∧ R (frz d L H0.length r) H1

def ares (P : Program) (H : Heap) (T : Nat → AV) : List ResultVar → (List AV → Prop) → Prop
  | [], K => K []
  | .tmp t :: rs, K => ares P H T rs fun vs => K (T t :: vs)
  | .cell p ty :: rs, K => aload P ty (T p) H fun v => ares P H T rs fun vs => K (v :: vs)

def one : List AV → AV
  | [v] => v
  | vs => .tup vs

/-- How a body ends, if it ends as it should. -/
def afin (P : Program) (rs : List ResultVar) (K : AV → Heap → Prop) : Exit → (Nat → AV) → Heap → Prop
  | .normal, T, H => ares P H T rs fun vs => K (one vs) H
  | .ret, T, H => ares P H T rs fun vs => K (one vs) H
  | _, _, _ => False

section
variable {E : Env} {M : Mem} {w : World} {H : Heap}

theorem ares_out {N : Nat} {T : Nat → AV} {a : Act} (hG : Gam E.gl M w H) (hT : TR M H.length w N T a) : ∀ (rs : List ResultVar) (K : List AV → Prop), ares E.P H T rs K →
    ∃ vs us, K vs ∧ VRt M H.length w vs us ∧ (rs.mapM fun (r : ResultVar) => (match r with
      | .tmp t => pure (a.tmps.getD t undef)
      | .cell p t => do loadVar t (← asAddr (a.tmps.getD p undef)) : Sem Value)).run E.P w = .ok us w
  | [], K, h => ⟨[], [], h, by simp [VRt], by simp⟩
  | .tmp t :: rs, K, h => by
    obtain ⟨vs, us, h1, h2, h3⟩ := ares_out hG hT rs _ h
    refine ⟨T t :: vs, a.tmps.getD t undef :: us, h1, ?_, ?_⟩
    · unfold VRt
      exact ⟨_, _, rfl, hT.2 t, h2⟩
    · rw [List.mapM_cons]
      simp only [Sem.run_bind, Sem.run_pure, Result.andThen_ok, h3]
  | .cell p ty :: rs, K, h => by
    obtain ⟨s, g, z, h1, cs, h2, h3⟩ := h
    obtain ⟨b, of, us, h4, h5, h6⟩ := place_out hG (hT.2 p) h2
    obtain ⟨u, v, k1, k2, k3⟩ := load_pure h1 h5 h6 h3
    obtain ⟨vs, us', q1, q2, q3⟩ := ares_out hG hT rs _ k3
    refine ⟨v :: vs, u :: us', q1, ?_, ?_⟩
    · unfold VRt
      exact ⟨_, _, rfl, k2, q2⟩
    · have ha : asAddr (a.tmps.getD p undef) = pure ⟨b, of, none⟩ := by rw [h4]; rfl
      rw [List.mapM_cons]
      simp only [Sem.run_bind, ha, Sem.run_pure, Result.andThen_ok, k1, q3]

theorem results_out {N : Nat} {T : Nat → AV} {a : Act} {fn : Func} {K : AV → Prop} (hG : Gam E.gl M w H) (hT : TR M H.length w N T a) (h : ares E.P H T fn.results.toList fun vs => K (one vs)) :
    ∃ v u, K v ∧ VR M H.length w v u ∧ (results fn a.tmps).run E.P w = .ok u w := by
  obtain ⟨vs, us, h1, h2, h3⟩ := ares_out hG hT _ _ h
  have hrun : (results fn a.tmps).run E.P w = .ok (if h : us.toArray.size = 1 then us.toArray[0] else .tuple us.toArray) w := by
    have h4 := congrArg (fun (r : Result (List Value)) => r.andThen fun l w' => (Result.ok l.toArray w').andThen fun vs w' => .ok (if h : vs.size = 1 then vs[0] else .tuple vs) w') h3
    refine Eq.trans ?_ h4
    unfold results
    rw [Array.mapM_eq_mapM_toList, Sem.run_bind, Sem.run_map]
    cases Sem.run E.P (List.mapM _ fn.results.toList) w <;> rfl
  refine ⟨one vs, _, h1, ?_, hrun⟩
  have hl := VRt.len h2
  match vs, us, hl, h2 with
  | [], [], _, _ => simp [one, VR, VRt]
  | [v], [u], _, h2 =>
    unfold VRt at h2
    obtain ⟨_, _, e, h4, _⟩ := h2
    cases e
    simpa [one] using h4
  | v1 :: v2 :: vs, u1 :: u2 :: us, _, h2 =>
    simp only [one]
    unfold VR
    exact ⟨u1 :: u2 :: us, by simp, h2⟩

/-- The slots at a function's beginning. -/
def T0 (as : List AV) (i : Nat) : AV := (as[i]?).getD (.v undef)

theorem calls_of {f : FuncId} {fn : Func} {c : Code} {as : List AV} {R : AV → Heap → Prop} (hf : E.P.funcs[f]? = some fn) (hb : fn.body = some c) (hn : (fn.name == "runtime.NumGoroutine") = false) (hc : codeOk fn.ntmps c = true) (hl : as.length ≤ fn.ntmps)
    (h : (∀ (k : Nat) (B : Blk), H[k]? = some (some B) → nbB H.length B) → nbs H.length as → awp E H.length c (afin E.P fn.results.toList R) (T0 as) H) : ACalls E f as H R := by
  refine ⟨⟨fn, hf, hn, by rw [hb]; rfl⟩, fun w M vs hG hv => ?_⟩
  have hlen := VRt.len hv
  have hT : TR M H.length w fn.ntmps (T0 as) { tmps := vs.toArray ++ Array.replicate (fn.ntmps - vs.toArray.size) undef, defers := [] } := by
    refine ⟨by simp; omega, fun i => ?_⟩
    unfold T0
    by_cases hi : i < as.length
    · rw [List.getElem?_eq_getElem hi]
      obtain ⟨u, h1, h2⟩ := VRt.get hv (List.getElem?_eq_getElem hi)
      have hiv : i < vs.length := by omega
      have : (vs.toArray ++ Array.replicate (fn.ntmps - vs.toArray.size) undef).getD i undef = u := by
        rw [Array.getD_eq_getD_getElem?, Array.getElem?_append_left (by simpa using hiv)]
        simp [h1]
      rw [this]
      exact h2
    · rw [List.getElem?_eq_none (by omega)]
      have : (vs.toArray ++ Array.replicate (fn.ntmps - vs.toArray.size) undef).getD i undef = undef := by
        rw [Array.getD_eq_getD_getElem?, Array.getElem?_append_right (by simp; omega)]
        simp only [Array.getElem?_replicate]
        split <;> rfl
      rw [this]
      simp [VR]
  refine calls_of_wp hf hb (wp_mono (awp_sound c hc _ _ w _ H M (Nat.le_refl _) hG hT (h (fun k B hk => BR.nbOf (hG.blks k B hk)) (VRt.nbOf hv))) ?_)
  rintro e a' w' ⟨T', H', M', h1, h2, h3, h4, h5⟩
  have fin : ares E.P H' T' fn.results.toList (fun vs => R (one vs) H') → a'.defers = [] ∧ ∃ v, (results fn a'.tmps).run E.P w' = .ok v w' ∧ ∃ r H' v' M', Ending.returned v = .returned v' ∧ R r H' ∧ Gam E.gl M' w' H' ∧ VR M' H'.length w' r v' ∧ Ext M w H M' w' H' := by
    intro hres
    obtain ⟨v, u, k1, k2, k3⟩ := results_out (K := fun v => R v H') h2 h3 hres
    exact ⟨h4, u, k3, v, H', u, M', rfl, k1, h2, k2, h5.full⟩
  cases e with
  | normal => exact fin h1
  | ret => exact fin h1
  | _ => exact h1.elim

/-- .. leaving its own blocks behind. -/
theorem calls_end {f : FuncId} {as : List AV} {R : AV → Heap → Prop} (h : ACalls E f as H (aend H R)) : ACalls E f as H R := by
  refine ⟨h.1, fun w M vs hG hv => (h.2 w M vs hG hv).mono ?_⟩
  rintro e w' ⟨r, H', v, M', rfl, ⟨H1, L, d, rfl, hlen, hold, hnb, hR⟩, hG', hv', hE⟩
  let M2 : Mem := { M' with G := fun b => M'.G b ∨ ∃ (r : Nat) (B : Blk), H1.length ≤ r ∧ (H1 ++ L)[r]? = some (some B) ∧ M'.blk r = some b }
  have hsub : ∀ b, M'.G b → M2.G b := fun b hb => .inl hb
  have h1 := frz_out (M2 := M2) hG' hsub (fun _ => ⟨rfl, rfl⟩) (fun r B b q1 q2 q3 => .inr ⟨r, B, q1, q2, q3⟩) d hv'
  rw [← hlen] at hnb hR
  have hget : ∀ (k : Nat) (B : Blk), H1[k]? = some (some B) → (H1 ++ L)[k]? = some (some B) := by
    intro k B hk
    rw [List.getElem?_append_left (List.getElem?_eq_some_iff.1 hk).1]
    exact hk
  have hlt : ∀ (k : Nat) (B : Blk), H1[k]? = some (some B) → k < H1.length := fun k B hk => (List.getElem?_eq_some_iff.1 hk).1
  refine ⟨_, H1, v, M2, rfl, hR, ⟨fun g => VR.mono (M := M') (M' := M2) (n := 0) (w := w') hsub (fun _ _ => rfl) (Nat.le_refl _) (fun _ _ => ⟨rfl, rfl⟩) (hG'.glob g), fun b hb => ?_, fun k B hk => ?_, fun k B b hk hh hb => ?_, fun k k' B B' b hk hk' => hG'.far k k' B B' b (hget k B hk) (hget k' B' hk')⟩, VR.down hnb h1,
    ⟨hE.os, hE.tape, hE.output, hE.size, fun b hb => hsub b (hE.G b hb), fun b hb => by
      rcases hb with hb | ⟨r, B, _, q2, q3⟩
      · exact hE.gnew b hb
      · exact shut_hot hG' hE q2 q3, hE.block, by omega, hE.blk, hE.bsz, fun b hb => ?_⟩⟩
  · rcases hb with hb | ⟨r, B, q1, q2, q3⟩
    · exact hG'.inG b hb
    · exact (hG'.blks r B q2).lt q3
  · have hB : nbB H1.length B := by
      rcases hold k B hk with q | q
      · rw [hlen]; exact BR.nbOf (hG.blks k B q)
      · rw [hlen]; exact q
    exact BR.down hB (BR.mono (M := M') (n := (H1 ++ L).length) (w := w') (r := k) hsub (fun _ _ => rfl) (Nat.le_refl _) (fun _ _ => ⟨rfl, rfl⟩) rfl rfl (fun _ _ => rfl) (hG'.blks k B (hget k B hk)))
  · rintro (q | ⟨r, B', q1, q2, q3⟩)
    · exact hG'.sep k B b (hget k B hk) hh hb q
    · exact hG'.far k r B B' b (hget k B hk) q2 hh (by have := hlt k B hk; omega) hb q3
  · obtain ⟨k, B, q1, q2, q3⟩ := hb
    exact hE.hot b ⟨k, B, hget k B q1, q2, q3⟩

/-- b says no more than a. -/
def Wk (a b : AV) : Prop := ∀ (M : Mem) (n : Nat) (w : World) (u : Value), VR M n w a u → VR M n w b u
theorem Wk.refl (a : AV) : Wk a a := fun _ _ _ _ h => h
theorem Wk.nil (sz : Nat) : Wk (.v (.slice none 0 0)) (.sl sz []) := fun M n w u h => by
  unfold VR at h ⊢
  subst h
  exact ⟨none, 0, [], rfl, by simp [VRss], ⟨by simp, Nat.le_refl _, Nat.zero_le _, by simp, .inl ⟨rfl, fun _ => rfl⟩⟩⟩
theorem calls_wk {f : FuncId} {as : List AV} {R : AV → Heap → Prop} (h : ACalls E f as H fun r H' => ∃ r', Wk r r' ∧ R r' H') : ACalls E f as H R := by
  refine ⟨h.1, fun w M vs hG hv => (h.2 w M vs hG hv).mono ?_⟩
  rintro e w' ⟨r, H', v, M', rfl, ⟨r', k1, k2⟩, hG', hv', hE⟩
  exact ⟨r', H', v, M', rfl, k2, hG', k1 _ _ _ _ hv', hE⟩

/-! ### what is told is a row of one's own -/
/-- Names are forgotten. -/
theorem Gam.less {L : Heap} (hG' : Gam E.gl M w (H ++ L)) (hB : ∀ (k : Nat) (B : Blk), H[k]? = some (some B) → nbB H.length B) : Gam E.gl M w H := by
  have hget : ∀ (k : Nat) (B : Blk), H[k]? = some (some B) → (H ++ L)[k]? = some (some B) := by
    intro k B hk
    rw [List.getElem?_append_left (List.getElem?_eq_some_iff.1 hk).1]
    exact hk
  exact ⟨hG'.glob, hG'.inG, fun k B hk => BR.down (hB k B hk) (hG'.blks k B (hget k B hk)), fun k B b hk hh hb => hG'.sep k B b (hget k B hk) hh hb, fun k k' B B' b hk hk' => hG'.far k k' B B' b (hget k B hk) (hget k' B' hk')⟩

/-- A name without a block. -/
def Mem.bare (M : Mem) (n : Nat) : Mem := { M with blk := fun r => if r = n then none else M.blk r }

theorem Gam.bare (hG1 : Gam E.gl M w H) (sz : Nat) : Gam E.gl (M.bare H.length) w (H ++ [some (.row true sz [])]) := by
  have hbl : ∀ r, r < H.length → (M.bare H.length).blk r = M.blk r := fun r hr => by simp only [Mem.bare]; rw [if_neg (by omega)]
  have hnn : (M.bare H.length).blk H.length = none := by simp [Mem.bare]
  have hin : ∀ {r B}, H[r]? = some (some B) → r < H.length := fun h => (List.getElem?_eq_some_iff.1 h).1
  refine ⟨fun g => VR.mono (M := M) (M' := M.bare H.length) (n := 0) (w := w) (fun _ h => h) (fun _ _ => rfl) (Nat.le_refl _) (fun r hr => absurd hr (Nat.not_lt_zero r)) (hG1.glob g), hG1.inG, fun r B hr => ?_, fun r B c hr hh hb => ?_, fun r r' B1 B2 c hr hr' hh hne hb => ?_⟩
  · rw [getElem?_snoc] at hr
    split at hr
    · next he =>
      cases hr
      subst he
      exact .inl ⟨hnn, rfl⟩
    · have h5 := hin hr
      exact BR.mono (M := M) (n := H.length) (w := w) (r := r) (fun _ h => h) (fun _ _ => rfl) (by simp) (fun r hr => ⟨hbl r hr, rfl⟩) (hbl r h5) rfl (fun _ _ => rfl) (hG1.blks r B hr)
  · rw [getElem?_snoc] at hr
    split at hr
    · next he =>
      subst he
      rw [hnn] at hb
      cases hb
    · rw [hbl r (hin hr)] at hb
      exact hG1.sep r B c hr hh hb
  · rw [getElem?_snoc] at hr hr'
    split at hr
    · next he =>
      subst he
      rw [hnn] at hb
      cases hb
    · rw [hbl r (hin hr)] at hb
      split at hr'
      · next he =>
        subst he
        rw [hnn]
        simp
      · rw [hbl r' (hin hr')]
        exact hG1.far r r' B1 B2 c hr hr' hh hne hb

/-- A row of one's own, under one name. -/
theorem calls_hot {f : FuncId} {as : List AV} {sz : Nat} {es : List (List AV)} {K : AV → Heap → Prop}
    (h : ACalls E f as H fun r H' => ∃ L, H' = H ++ L ∧ nbss H.length es ∧ ((∃ k, L[k]? = some (some (.row true sz es)) ∧ r = .hs (H.length + k) sz 0 es.length) ∨ (es = [] ∧ (r = .v (.slice none 0 0) ∨ r = .mt))))
    (hK : K (.hs H.length sz 0 es.length) (H ++ [some (.row true sz es)])) : ACalls E f as H K := by
  refine ⟨h.1, fun w M vs hG hv => (h.2 w M vs hG hv).mono ?_⟩
  rintro e w' ⟨r, H', v, M', rfl, ⟨L, rfl, hnb, hc⟩, hG', hv', hE⟩
  have hB : ∀ (k : Nat) (B : Blk), H[k]? = some (some B) → nbB H.length B := fun k B hk => BR.nbOf (hG.blks k B hk)
  have hG2 := hG'.less hB
  have hhot : ∀ b, Hot M' H b → Hot M H b ∨ w.heap.size ≤ b := fun b hb => by
    obtain ⟨k, B, q1, q2, q3⟩ := hb
    exact hE.hot b ⟨k, B, by rw [List.getElem?_append_left (List.getElem?_eq_some_iff.1 q1).1]; exact q1, q2, q3⟩
  have bare : es = [] → (∃ ao cap, v = .slice ao 0 cap ∧ cap ≤ maxLen ∧ (ao = none → cap = 0) ∧ cap = 0) → ∃ r H' v2 M2, Ending.returned v = .returned v2 ∧ K r H' ∧ Gam E.gl M2 w' H' ∧ VR M2 H'.length w' r v2 ∧ Ext M w H M2 w' H' := by
    rintro rfl ⟨ao, cap, rfl, c1, c2, rfl⟩
    refine ⟨_, _, _, _, rfl, hK, hG2.bare sz, ?_, ⟨hE.os, hE.tape, hE.output, hE.size, hE.G, hE.gnew, hE.block, by simp, fun r hr => ?_, hE.bsz, fun b hb => ?_⟩⟩
    · unfold VR
      exact ⟨by simp, ao, 0, rfl, Nat.le_refl _, c1, c2, .inr (.inl ⟨rfl, rfl⟩)⟩
    · simp only [Mem.bare]
      rw [if_neg (by omega)]
      exact hE.blk r hr
    · obtain ⟨k, B, q1, q2, q3⟩ := hb
      rw [getElem?_snoc] at q1
      simp only [Mem.bare] at q3
      split at q1
      · next he => rw [if_pos he] at q3; cases q3
      · next he => rw [if_neg he] at q3; exact hhot b ⟨k, B, q1, q2, q3⟩
  rcases hc with ⟨k, hk, rfl⟩ | ⟨h0, rfl | rfl⟩
  · have hkr : (H ++ L)[H.length + k]? = some (some (.row true sz es)) := by rw [List.getElem?_append_right (by omega)]; simpa using hk
    unfold VR at hv'
    obtain ⟨k0, ao, cap, rfl, k1, k2, k3, k4⟩ := hv'
    rcases hG'.blks _ _ hkr with ⟨q1, q2⟩ | ⟨b, cur, et, fr, us, j1, j2, j3, j4, j5, j6, j7⟩
    · subst q2
      rcases k4 with ⟨_, k4⟩ | ⟨_, k4⟩ | ⟨b, k5, _⟩
      · exact absurd rfl k4
      · exact bare rfl ⟨ao, cap, rfl, k2, k3, k4⟩
      · rw [q1] at k5; cases k5
    · have hnG := hG'.sep _ _ b hkr rfl j1
      have hfree : ∀ r' B', H[r']? = some (some B') → M'.blk r' ≠ some b := fun r' B' hr' => by
        have hl := (List.getElem?_eq_some_iff.1 hr').1
        exact hG'.far _ r' _ B' b hkr (by rw [List.getElem?_append_left hl]; exact hr') rfl (by omega) j1
      have hnew : ¬ Hot M H b → w.heap.size ≤ b := fun hn => by
        rcases hE.hot b ⟨_, _, hkr, rfl, j1⟩ with q | q
        · exact absurd q hn
        · exact q
      refine ⟨_, _, _, M'.push H.length b (M'.bsz (H.length + k)), rfl, hK, Gam.rename (w := w') (w1 := w') hG2 hnG hfree ⟨rfl, rfl, rfl, rfl⟩ (fun _ _ => rfl) (fun M2 m1 m2 m3 m4 => ?_), ?_, ⟨hE.os, hE.tape, hE.output, hE.size, hE.G, hE.gnew, hE.block, by simp, fun r hr => ?_, fun r hr => ?_, fun c hc => ?_⟩⟩
      · refine .inr ⟨b, cur, et, fr, us, m3, j2, j3, by rw [m4]; exact j4, ?_, j6, fun hh => by cases hh⟩
        exact VRss.mono (M := M') (n := H.length) (w := w') (fun c hc => by rw [m2]; exact hc) (fun _ _ => rfl) (Nat.le_succ _) m1 (VRss.down hnb j5)
      · unfold VR
        refine ⟨by simp, ao, cap, rfl, k1, k2, k3, ?_⟩
        simp only [Mem.push, if_true]
        rcases k4 with ⟨_, k4⟩ | k4 | ⟨b', k5, k6⟩
        · exact absurd rfl k4
        · exact .inr (.inl k4)
        · rw [k5] at j1
          cases j1
          exact .inr (.inr ⟨_, rfl, k6⟩)
      · simp only [Mem.push]; rw [if_neg (by omega)]; exact hE.blk r hr
      · simp only [Mem.push]; rw [if_neg (by omega)]; exact hE.bsz r hr
      · obtain ⟨q, B, q1, q2, q3⟩ := hc
        rw [getElem?_snoc] at q1
        simp only [Mem.push] at q3
        split at q1
        · next he =>
          rw [if_pos he] at q3
          cases q3
          exact hE.hot b ⟨_, _, hkr, rfl, j1⟩
        · next he => rw [if_neg he] at q3; exact hhot c ⟨q, B, q1, q2, q3⟩
  · unfold VR at hv'
    subst hv'
    exact bare h0 ⟨none, 0, rfl, Nat.zero_le _, fun _ => rfl, rfl⟩
  · unfold VR at hv'
    obtain ⟨ao, rfl⟩ := hv'
    exact bare h0 ⟨ao, 0, rfl, Nat.zero_le _, fun _ => rfl, rfl⟩

/-- At the top: nothing that was there is written. -/
theorem calls_top {f : FuncId} {as : List AV} {r : Value} {w : World} {vs : List Value} (h : ACalls E f as [] fun v _ => v = .v r) (hgl : ∀ g, VR ⟨fun _ => none, fun _ => 0, fun b => b < w.heap.size⟩ 0 w (E.gl g) (.pointer (some ⟨g, 0, none⟩)))
    (hv : VRt ⟨fun _ => none, fun _ => 0, fun b => b < w.heap.size⟩ 0 w as vs) : Calls E.P f vs.toArray w fun e w' => e = .returned r ∧ Below w.heap.size w w' := by
  refine (h.2 w ⟨fun _ => none, fun _ => 0, fun b => b < w.heap.size⟩ vs ⟨hgl, fun _ h => h, by simp, by simp, by simp⟩ hv).mono ?_
  rintro e w' ⟨v, H', u, M', rfl, rfl, hG, hv, hE⟩
  unfold VR at hv
  subst hv
  refine ⟨rfl, hE.os, hE.tape, hE.output, hE.size, fun k hk => hE.block k hk ?_⟩
  rintro ⟨r, B, h1, _⟩
  simp at h1
end
end Go.Am
