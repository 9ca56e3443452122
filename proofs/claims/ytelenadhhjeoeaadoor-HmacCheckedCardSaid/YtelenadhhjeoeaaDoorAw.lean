/- The abstract machine: the model does what it says; code. No condition. -/
import Derived.Test.YtelenadhhjeoeaaDoorAe
set_option linter.unusedSectionVars false
set_option linter.unusedVariables false
set_option linter.unusedSimpArgs false
set_option linter.deprecated false
namespace Go.Am
open Go.RowKit Go.Cx

section
variable {E : Env} {M : Mem} {w : World} {H : Heap} {N : Nat} {T : Nat → AV} {a : Act}

theorem awp_sound {n : Nat} : ∀ (c : Code), codeOk N c = true → ∀ (Q : Exit → (Nat → AV) → Heap → Prop) (a : Act) (w : World) (T : Nat → AV) (H : Heap) (M : Mem), n ≤ H.length → Gam E.gl M w H → TR M H.length w N T a →
    awp E n c Q T H → c.wp E.P (LiftB E n M w H N a.defers Q) a w
  | .skip, _, Q, a, w, T, H, M, hn, hG, hT, h => wp_skip ⟨T, H, M, h, hG, hT, rfl, .refl hn⟩
  | .label _, _, Q, a, w, T, H, M, hn, hG, hT, h => wp_label ⟨T, H, M, h, hG, hT, rfl, .refl hn⟩
  | .exit id, _, Q, a, w, T, H, M, hn, hG, hT, h => wp_exit ⟨T, H, M, h, hG, hT, rfl, .refl hn⟩
  | .ret, _, Q, a, w, T, H, M, hn, hG, hT, h => wp_ret ⟨T, H, M, h, hG, hT, rfl, .refl hn⟩
  | .seq x y, hc, Q, a, w, T, H, M, hn, hG, hT, h => by
    simp only [codeOk, Bool.and_eq_true] at hc
    refine wp_seq (wp_mono (awp_sound x hc.1 _ a w T H M hn hG hT h) ?_)
    rintro e a' w' ⟨T', H', M', h1, h2, h3, h4, h5⟩
    cases e with
    | normal =>
      obtain ⟨T2, H2, hq, h1⟩ := h1
      obtain ⟨hn2, hq⟩ := hq h5.len
      obtain ⟨M2, g2, g3, g5⟩ := hq M' w' N a' h2 h3
      refine wp_mono (awp_sound y hc.2 Q a' w' T2 H2 M2 hn2 g2 g3 h1) ?_
      rintro e2 a2 w2 ⟨T2, H2, M2, k1, k2, k3, k4, k5⟩
      exact ⟨T2, H2, M2, k1, k2, k3, k4.trans h4, (h5.trans g5).trans k5⟩
    | _ => exact ⟨T', H', M', h1, h2, h3, h4, h5⟩
  | .cond c x y, hc, Q, a, w, T, H, M, hn, hG, hT, h => by
    simp only [codeOk, Bool.and_eq_true] at hc
    obtain ⟨t, h1, h2, h3⟩ := h
    have hv := ev_out hG hT c
    rw [h1] at hv
    unfold VR at hv
    exact wp_cond_split hv (fun ht => awp_sound x hc.1 Q a w T H M hn hG hT (h2 ht)) (fun ht => awp_sound y hc.2 Q a w T H M hn hG hT (h3 ht))
  | .block id c, hc, Q, a, w, T, H, M, hn, hG, hT, h => by
    refine wp_block (wp_mono (awp_sound c hc _ a w T H M hn hG hT h) ?_)
    rintro e a' w' ⟨T', H', M', h1, h2⟩
    cases e with
    | exit i =>
      simp only [ablock] at h1
      simp only [Exit.inBlock]
      split
      · next hi => rw [if_pos hi] at h1; exact ⟨T', H', M', h1, h2⟩
      · next hi => rw [if_neg hi] at h1; exact ⟨T', H', M', h1, h2⟩
    | _ => exact ⟨T', H', M', h1, h2⟩
  | .scope c, hc, Q, a, w, T, H, M, hn, hG, hT, h => by
    refine wp_scope_straight (wp_mono (awp_sound c hc _ a w T H M hn hG hT h) ?_)
    rintro e a' w' ⟨T', H', M', h1, h2⟩
    cases e with
    | goto l => exact h1.elim
    | _ => exact ⟨T', H', M', h1, h2⟩
  | .loop c, hc, Q, a, w, T, H, M, hn, hG, hT, h => by
    obtain ⟨I, ⟨k0, T0, H0, hq, hI⟩, hround⟩ := h
    let R : Nat → Act → World → Prop := fun k a1 w1 => ∃ T1 H1 M1, I k T1 H1 ∧ Gam E.gl M1 w1 H1 ∧ TR M1 H1.length w1 N T1 a1 ∧ a1.defers = a.defers ∧ ExtB n M w H M1 w1 H1
    obtain ⟨μ, hμ⟩ : ∃ μ : Act × World → Nat, ∀ p, (∃ k, R k p.1 p.2) → R (μ p) p.1 p.2 ∧ ∀ k, R k p.1 p.2 → μ p ≤ k := by
      have : ∀ p : Act × World, ∃ m, (∃ k, R k p.1 p.2) → R m p.1 p.2 ∧ ∀ k, R k p.1 p.2 → m ≤ k := by
        intro p
        by_cases hp : ∃ k, R k p.1 p.2
        · obtain ⟨m, h1, h2⟩ := exists_least hp
          exact ⟨m, fun _ => ⟨h1, h2⟩⟩
        · exact ⟨0, fun h => absurd h hp⟩
      exact Classical.skolem.1 this
    obtain ⟨hn0, hq⟩ := hq hn
    obtain ⟨M0, g2, g3, g5⟩ := hq M w N a hG hT
    refine wp_loop (fun a1 w1 => ∃ k, R k a1 w1) (fun a1 w1 => μ (a1, w1)) ⟨k0, T0, H0, M0, hI, g2, g3, rfl, g5⟩ ?_
    intro a1 w1 hR
    obtain ⟨⟨T1, H1, M1, k1, k3, k4, k5, k6⟩, _⟩ := hμ (a1, w1) hR
    refine wp_mono (awp_sound c hc _ a1 w1 T1 H1 M1 k6.len k3 k4 (hround _ T1 H1 k1)) ?_
    rintro e a' w' ⟨T', H', M', h1, h2, h3, h4, h5⟩
    cases e with
    | normal =>
      obtain ⟨T2, H2, hq, j, hj, hI2⟩ := h1
      obtain ⟨hn2, hq⟩ := hq h5.len
      obtain ⟨M2, f2, f3, f5⟩ := hq M' w' N a' h2 h3
      have hR' : R j a' w' := ⟨T2, H2, M2, hI2, f2, f3, h4.trans k5, (k6.trans h5).trans f5⟩
      exact ⟨⟨_, hR'⟩, Nat.lt_of_le_of_lt ((hμ (a', w') ⟨_, hR'⟩).2 _ hR') hj⟩
    | _ => exact ⟨T', H', M', h1, h2, h3, h4.trans k5, k6.trans h5⟩
  | .region _ ops false, hc, Q, a, w, T, H, M, hn, hG, hT, h => by
    refine wp_region ?_
    have := aops_sound (E := E) (N := N) (Q := LiftB E n M w H N a.defers Q) hc ops.toList 0 rfl a w T H M hG hT h fun T' H' M' a' w' k1 k2 k3 k4 k5 => ⟨T', H', M', k1, k2, k3, k4, .of hn k5⟩
    simpa using this
  | .region _ ops true, hc, Q, a, w, T, H, M, hn, hG, hT, h => by
    unfold awp at h
    obtain ⟨h1, ks, h2, h3⟩ := h
    exact wp_mono (draw_wp h1 hc h2 h3 hG hT) fun _ _ _ h => h.b hn
  | .rangeFunc .., _, Q, a, w, T, H, M, hn, hG, hT, h => by unfold awp at h; exact h.elim
  | .goto .., _, Q, a, w, T, H, M, hn, hG, hT, h => by unfold awp at h; exact h.elim
  | .refuse .., _, Q, a, w, T, H, M, hn, hG, hT, h => by unfold awp at h; exact h.elim
end
end Go.Am
