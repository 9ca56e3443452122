/- Timers: All leaves what was there as it was. No condition. -/
import Derived.Test.YtmafdnbdaaedgaaYQv
import Derived.Test.YtmafdnbdaaedgaaYb1
set_option linter.unusedSectionVars false
set_option linter.unusedVariables false
set_option linter.unusedSimpArgs false
set_option linter.deprecated false
namespace Go.Proofs.Ytmafdnbdaaedgaa
open Go.RowKit Go.Cx Go.Am Go.Sort
theorem gr_app {H H' : Heap} (g : Gr H H') : ∃ L, H' = H ++ L := by
  refine ⟨H'.drop H.length, ?_⟩
  apply List.ext_getElem?
  intro k
  by_cases hk : k < H.length
  · rw [List.getElem?_append_left hk]
    exact g.2 k hk
  · rw [List.getElem?_append_right (by omega), List.getElem?_drop]
    congr 1
    omega
theorem acalls_back {E : Env} {f : FuncId} {al : List AV} {H : Heap} {sz : Nat} {es : List (List AV)} (h : ACalls E f al H fun r H' => r = .sl sz es ∧ Gr H H') (hes : ∀ n, nbss n es) : ACalls E f al H fun r H' => r = .sl sz es ∧ H' = H := by
  refine calls_q ⟨h.1, fun w M vs hG hv => (h.2 w M vs hG hv).mono ?_⟩
  rintro e w' ⟨r, H', v, M', rfl, ⟨rfl, g⟩, q⟩
  obtain ⟨L, rfl⟩ := gr_app g
  exact ⟨_, _, v, M', rfl, ⟨ofl [(0, .sl sz es)], H, cq_drop (H1 := H) (L := L) 0 (Nat.le_refl _) (fun k B hk => (hG.blks k B hk).nbOf) ⟨⟨hes _, by show Wk (frz 0 L H.length (.sl sz es)) (.sl sz es); unfold frz; exact Wk.refl _⟩, trivial⟩, rfl, rfl⟩, q⟩
theorem all_e {H : Heap} {b c q : Nat} {p : List It} {l : List (Int × Int)} (V : Tv H b c q p l) (hl : l.length ≤ 100000) : ACalls E0 18 [.ptr b 0] H fun r H' => r = .sl 2 (cels l) ∧ H' = H :=
  acalls_back (all_v V hl) fun n => of_eq_true (cels_nbss _)
end Go.Proofs.Ytmafdnbdaaedgaa
