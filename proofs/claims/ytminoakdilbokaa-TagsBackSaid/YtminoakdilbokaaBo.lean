/- The example at the head of each law, by the walk, told to the abstract machine. No condition. -/
import Derived.Test.YtminoakdilbokaaBn
import Derived.Test.YtminoakdilbokaaRf
import Derived.Test.YtminoakdilbokaaTagsL
set_option linter.unusedSectionVars false
set_option linter.unusedVariables false
set_option linter.unusedSimpArgs false
set_option linter.deprecated false
namespace Go.Proofs.Ytminoakdilbokaa
open Go.RowKit Go.Cx Go.Am
theorem awake5_am : ACalls E0 12 [] [] fun r H' => r = .v (.bool true) ∧ H' = [] := by
  refine acalls_raw Try.func12 rfl rfl fun w M vs hG hv => ?_
  unfold VRt at hv
  subst hv
  refine (Raw.awake_any w).mono ?_
  rintro e w' ⟨rfl, hb⟩
  have hw : ∀ b, M.G b → w'.heap[b]? = w.heap[b]? := fun b h => hb.block b (hG.inG b h)
  refine ⟨_, [], _, M, rfl, ⟨rfl, rfl⟩, ⟨fun g => VR.mono (M := M) (M' := M) (n := 0) (w := w) (fun _ h => h) hw (Nat.le_refl _) (fun _ _ => ⟨rfl, rfl⟩) (hG.glob g), fun b h => Nat.lt_of_lt_of_le (hG.inG b h) hb.size, fun r B hr => by simp at hr, fun r B b hr => by simp at hr, fun r r' B B' b hr => by simp at hr⟩, by unfold VR; rfl,
    ⟨hb.os, hb.tape, hb.output, hb.size, fun b h => h, fun b h => .inl h, fun b h _ => hb.block b h, Nat.le_refl _, fun _ _ => rfl, fun _ _ => rfl, fun b h => .inl h⟩⟩
end Go.Proofs.Ytminoakdilbokaa
