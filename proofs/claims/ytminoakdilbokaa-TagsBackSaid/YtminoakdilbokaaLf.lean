/- The abstract machine: a call that is lent rows which hold rows, however many. No condition. -/
import Derived.Test.YtminoakdilbokaaSa
set_option linter.unusedSectionVars false
set_option linter.unusedVariables false
set_option linter.unusedSimpArgs false
set_option linter.deprecated false
namespace Go.Am
open Go.RowKit Go.Cx
section
variable {E : Env} {M : Mem} {w : World} {L : Heap}
theorem VR.small (hG : Gam E.gl M w ([] ++ L)) {n : Nat} {a : AV} {u : Value} (h : VR (M.shut [] L) n w a u) : VR ⟨M.blk, M.bsz, (M.small true [] L).G⟩ n w a u := by
  refine VR.mono (M := M.shut [] L) (M' := ⟨M.blk, M.bsz, (M.small true [] L).G⟩) (n := n) (w := w) (fun b hb => ?_) (fun _ _ => rfl) (Nat.le_refl _) (fun _ _ => ⟨rfl, rfl⟩) h
  rcases hb with hb | ⟨r, B, _, q2, q3⟩
  · exact .inl hb
  · cases hB : B.isHot with
    | true => exact .inr ⟨rfl, r, B, by simp, q2, hB, q3⟩
    | false =>
      have := hG.blks r B q2
      cases B with
      | obj cs => simp [Blk.isHot] at hB
      | row hot sz es =>
        rcases this with ⟨p1, _⟩ | ⟨b', _, _, _, _, p1, _, _, _, _, _, p7⟩
        · rw [p1] at q3; cases q3
        · rw [p1] at q3
          cases q3
          exact .inl (p7 (by simpa [Blk.isHot] using hB))
theorem VRt.lendF (hG : Gam E.gl M w ([] ++ L)) (d : Nat) : ∀ {l l' : List AV} {us : List Value}, nbs 0 l' → Go.Am.sacF d L l l' → VRt M L.length w l us → VRt (M.small true [] L) 0 w l' us
  | [], [], us, _, _, h => by unfold VRt at h ⊢; exact h
  | a :: l, a' :: l', us, hn, k, h => by
    unfold nbs at hn
    unfold VRt at h ⊢
    obtain ⟨x, r, h1, h3, h4⟩ := h
    have h5 := VR.down hn.1 (VR.small hG (k.1 _ _ _ _ (VR.frz (H1 := []) hG d h3)))
    exact ⟨x, r, h1, VR.mono (M := ⟨M.blk, M.bsz, (M.small true [] L).G⟩) (M' := M.small true [] L) (n := 0) (w := w) (fun _ h => h) (fun _ _ => rfl) (Nat.le_refl _) (fun r hr => absurd hr (Nat.not_lt_zero r)) h5, VRt.lendF hG d hn.2 k.2 h4⟩
  | [], _ :: _, _, _, k, _ => k.elim
  | _ :: _, [], _, _, k, _ => k.elim
/-- The rows are lent, with all that they hold. -/
theorem ACalls.lendF {g : FuncId} {al al' : List AV} {r0 : AV} {L0 : Heap} (d : Nat) (h : ACalls E g al [] fun r H' => r = r0 ∧ H' = L0) (ha : Go.Am.sacF d L al' al) (hn : nbs 0 al) (hg : gf r0 ∧ gfH L0) :
    ACalls E g al' L fun r H' => r = amap (sg L.length []) r0 ∧ H' = L ++ L0.map (Option.map (bmap (sg L.length []))) := by
  have h2 := h.frameG (H := L) (as' := al') true [] List.nodup_nil rfl (by simp) (fun k B hk => by simp at hk) (fun w M vs hG hv => VRt.lendF hG d hn ha hv) (fun r H' ⟨h1, h2⟩ _ => by subst h1 h2; exact ⟨hg.1, gfH_at hg.2⟩)
  refine ⟨h2.1, fun w M vs hG hv => (h2.2 w M vs hG hv).mono ?_⟩
  rintro e w' ⟨r, H', v, M', rfl, ⟨r1, H1, ⟨rfl, rfl⟩, rfl, rfl⟩, rest⟩
  exact ⟨_, _, v, M', rfl, ⟨rfl, back_nil L _⟩, rest⟩
end
end Go.Am
