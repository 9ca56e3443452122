/- The abstract machine: a call that is handed a row of one's own, which nobody writes from then on. No condition. -/
import Derived.Test.YtckppkimjiifpaaTg
import Derived.Test.YtckppkimjiifpaaAb
set_option linter.unusedSectionVars false
set_option linter.unusedVariables false
set_option linter.unusedSimpArgs false
set_option linter.deprecated false
namespace Go.Am
open Go.RowKit Go.Cx
/-- An argument with the row of one's own (name 0), and what it reads as. -/
def sacA (sz : Nat) (es : List (List AV)) : AV → AV → Prop
  | .agg cs, .agg cs' => rls 0 sz es cs cs'
  | a, a' => rl 0 sz es a a'
def sacL (sz : Nat) (es : List (List AV)) : List AV → List AV → Prop
  | [], [] => True
  | a :: l, a' :: l' => sacA sz es a a' ∧ sacL sz es l l'
  | _, _ => False
section
variable {E : Env} {M : Mem} {w : World} {sz : Nat} {es : List (List AV)}
theorem VR.sac (hG : Gam E.gl M w [some (.row true sz es)]) {a a' : AV} {u : Value} (h : sacA sz es a a') (hv : VR M 1 w a u) : VR (M.ice 0) 1 w a' u := by
  unfold sacA at h
  split at h
  · next cs cs' =>
    unfold VR at hv ⊢
    obtain ⟨us, rfl, h2⟩ := hv
    exact ⟨us, rfl, VRs.ice (H := [some (.row true sz es)]) hG rfl h h2⟩
  · exact VR.ice (H := [some (.row true sz es)]) hG rfl h hv
theorem VRt.sac (hG : Gam E.gl M w [some (.row true sz es)]) : ∀ {l l' : List AV} {us : List Value}, sacL sz es l l' → VRt M 1 w l us → VRt (M.ice 0) 1 w l' us
  | [], [], us, _, h => by unfold VRt at h ⊢; exact h
  | a :: l, a' :: l', us, k, h => by
    unfold VRt at h ⊢
    obtain ⟨x, r, h1, h3, h4⟩ := h
    exact ⟨x, r, h1, VR.sac hG k.1 h3, VRt.sac hG k.2 h4⟩
  | [], _ :: _, _, k, _ => k.elim
  | _ :: _, [], _, k, _ => k.elim
/-- The row is handed over. -/
theorem ACalls.sac {g : FuncId} {al al' : List AV} {r0 : AV} (h : ACalls E g al [] fun r H' => r = r0 ∧ H' = []) (ha : sacL sz es al' al) (hn : nbs 0 al) (hr : nb 0 r0) : ACalls E g al' [some (.row true sz es)] fun r H' => r = r0 ∧ H' = [none] := by
  refine ⟨h.1, fun w M vs hG hv => ?_⟩
  have hG2 : Gam E.gl (M.ice 0) w [] := by
    refine ⟨fun q => ?_, fun b hb => ?_, fun r B hr => by simp at hr, fun r B b hr => by simp at hr, fun r r' B B' b hr => by simp at hr⟩
    · exact VR.mono (M := M) (M' := M.ice 0) (n := 0) (w := w) (fun _ h => Or.inl h) (fun _ _ => rfl) (Nat.le_refl _) (fun _ _ => ⟨rfl, rfl⟩) (hG.glob q)
    · rcases hb with hb | hb
      · exact hG.inG b hb
      · exact (hG.blks 0 _ rfl).lt hb
  have hv2 : VRt (M.ice 0) 0 w al vs := VRt.down hn (VRt.sac hG ha hv)
  refine (h.2 w (M.ice 0) vs hG2 hv2).mono ?_
  rintro e w' ⟨r, H', v, M', rfl, ⟨rfl, rfl⟩, hG', hv', hE⟩
  let M2 : Mem := ⟨fun q => if q = 0 then M.blk 0 else M'.blk q, fun q => if q = 0 then M.bsz 0 else M'.bsz q, M'.G⟩
  have same : ∀ {a : AV} {u : Value}, VR M' 0 w' a u → VR M2 0 w' a u := fun h => VR.mono (M := M') (M' := M2) (n := 0) (w := w') (fun _ h => h) (fun _ _ => rfl) (Nat.le_refl _) (fun q hq => absurd hq (Nat.not_lt_zero q)) h
  refine ⟨_, _, v, M2, rfl, ⟨rfl, rfl⟩, ⟨fun q => same (hG'.glob q), hG'.inG, fun q B hq => ?_, fun q B b hq => ?_, fun q q' B B' b hq => ?_⟩, ?_, ⟨hE.os, hE.tape, hE.output, hE.size, fun b hb => hE.G b (.inl hb), fun b hb => ?_, fun b hb hh => ?_, Nat.le_refl _, fun q hq => ?_, fun q hq => ?_, fun b hb => ?_⟩⟩
  · rcases q with _ | q <;> simp at hq
  · rcases q with _ | q <;> simp at hq
  · rcases q with _ | q <;> simp at hq
  · exact VR.mono (M := M2) (M' := M2) (n := 0) (n' := 1) (w := w') (fun _ h => h) (fun _ _ => rfl) (Nat.zero_le _) (fun _ _ => ⟨rfl, rfl⟩) (same hv')
  · rcases hE.gnew b hb with h1 | ⟨q, B, h1, _, _⟩ | h1
    · rcases h1 with h1 | h1
      · exact .inl h1
      · exact .inr (.inl ⟨0, _, rfl, rfl, h1⟩)
    · simp at h1
    · exact .inr (.inr h1)
  · exact hE.block b hb (fun ⟨q, B, h1, _, _⟩ => by simp at h1)
  · have : q = 0 := by simpa using hq
    subst this
    rfl
  · have : q = 0 := by simpa using hq
    subst this
    rfl
  · obtain ⟨q, B, h1, _, _⟩ := hb
    rcases q with _ | q <;> simp at h1
end
end Go.Am
namespace Go.Am
open Go.RowKit Go.Cx
/-- Arguments with rows of one's own (all of the heap L), and what they read as. -/
def sacF (d : Nat) (L : Heap) : List AV → List AV → Prop
  | [], [] => True
  | a :: l, a' :: l' => Wk (frz d L 0 a) a' ∧ sacF d L l l'
  | _, _ => False
section
variable {E : Env} {M : Mem} {w : World} {L : Heap}
theorem VRt.sacF (hG : Gam E.gl M w ([] ++ L)) (d : Nat) : ∀ {l l' : List AV} {us : List Value}, sacF d L l l' → VRt M L.length w l us → VRt (M.shut [] L) L.length w l' us
  | [], [], us, _, h => by unfold VRt at h ⊢; exact h
  | a :: l, a' :: l', us, k, h => by
    unfold VRt at h ⊢
    obtain ⟨x, r, h1, h3, h4⟩ := h
    exact ⟨x, r, h1, k.1 _ _ _ _ (VR.frz (H1 := []) hG d h3), VRt.sacF hG d k.2 h4⟩
  | [], _ :: _, _, k, _ => k.elim
  | _ :: _, [], _, k, _ => k.elim
/-- The rows are handed over. -/
theorem ACalls.sacF {g : FuncId} {al al' : List AV} {r0 : AV} (d : Nat) (h : ACalls E g al [] fun r H' => r = r0 ∧ H' = []) (ha : sacF d L al' al) (hn : nbs 0 al) (hr : nb 0 r0) : ACalls E g al' L fun r H' => r = r0 ∧ H' = L.map fun _ => none := by
  refine ⟨h.1, fun w M vs hG hv => ?_⟩
  have hG2 : Gam E.gl (M.shut [] L) w [] := Gam.shut (H1 := []) (d := d) hG trivial
  have hv2 : VRt (M.shut [] L) 0 w al vs := VRt.down hn (VRt.sacF hG d ha hv)
  refine (h.2 w (M.shut [] L) vs hG2 hv2).mono ?_
  rintro e w' ⟨r, H', v, M', rfl, ⟨rfl, rfl⟩, hG', hv', hE⟩
  let M2 : Mem := ⟨fun q => if q < L.length then M.blk q else M'.blk q, fun q => if q < L.length then M.bsz q else M'.bsz q, M'.G⟩
  have same : ∀ {a : AV} {u : Value}, VR M' 0 w' a u → VR M2 0 w' a u := fun h => VR.mono (M := M') (M' := M2) (n := 0) (w := w') (fun _ h => h) (fun _ _ => rfl) (Nat.le_refl _) (fun q hq => absurd hq (Nat.not_lt_zero q)) h
  have none_ : ∀ (q : Nat) (B : Blk), (L.map fun _ => (none : Option Blk))[q]? ≠ some (some B) := fun q B hq => by
    rw [List.getElem?_map] at hq
    cases hL : L[q]? with
    | none => rw [hL] at hq; cases hq
    | some x => rw [hL] at hq; cases hq
  refine ⟨_, _, v, M2, rfl, ⟨rfl, rfl⟩, ⟨fun q => same (hG'.glob q), hG'.inG, fun q B hq => absurd hq (none_ q B), fun q B b hq => absurd hq (none_ q B), fun q q' B B' b hq => absurd hq (none_ q B)⟩, ?_, ⟨hE.os, hE.tape, hE.output, hE.size, fun b hb => hE.G b (.inl hb), fun b hb => ?_, fun b hb hh => ?_, by simp, fun q hq => ?_, fun q hq => ?_, fun b hb => ?_⟩⟩
  · exact VR.mono (M := M2) (M' := M2) (n := 0) (w := w') (fun _ h => h) (fun _ _ => rfl) (Nat.zero_le _) (fun _ _ => ⟨rfl, rfl⟩) (same hv')
  · rcases hE.gnew b hb with h1 | ⟨q, B, h1, _, _⟩ | h1
    · rcases h1 with h1 | ⟨q, B, q1, q2, q3⟩
      · exact .inl h1
      · exact shut_hot (H := L) (H' := L) hG (Ext.refl M w L) q2 q3
    · simp at h1
    · exact .inr (.inr h1)
  · exact hE.block b hb (fun ⟨q, B, h1, _, _⟩ => by simp at h1)
  · show (if q < L.length then M.blk q else M'.blk q) = M.blk q
    rw [if_pos hq]
  · show (if q < L.length then M.bsz q else M'.bsz q) = M.bsz q
    rw [if_pos hq]
  · obtain ⟨q, B, h1, _, _⟩ := hb
    exact absurd h1 (none_ q B)
end
end Go.Am
