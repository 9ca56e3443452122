/- The table of sha as the program's text lays it, told to the abstract machine. No condition. -/
import Derived.Test.YtbiikekemaggaaaDoorOt
import Derived.Test.YtbiikekemaggaaaDoorTopa
import Derived.Test.YtbiikekemaggaaaDoorRows
import Derived.ProofKit
import Derived.LaidMore
import Derived.OpenShut
import Derived.Stop.Joined
set_option linter.unusedSectionVars false
set_option linter.unusedVariables false
set_option linter.unusedSimpArgs false
set_option linter.deprecated false
namespace Go.Proofs.YtbiikekemaggaaaDoor
open Go.ChangeShapes Go.WideShapes Go.ChangeAt Go.WideMaps Go.WideElems Go.RowKit Go.Cx Go.Am
abbrev laidL : List (String × DataW Unit) := [("concierge/sha.rounds", Rows.laid_concierge_sha_rounds)]
theorem gRounds : Tryd.prog.globalNamed "concierge/sha.rounds" = some 0 := by kernel_rfl
theorem tRounds : (Tryd.prog.globals[0]?).map (·.type) = some 83 := by kernel_rfl
theorem door_met (os : Os) (args : Array Value) : laidMetH Tryd.prog laidL ((World.doorLaid Tryd.prog 400 os).forCall (fun _ _ => 0) ⟨#[], args, []⟩).memory :=
  laidMetH_of_parts3 (fuel := 8) (laidMet_of_run' 8 (by kernel_rfl) (by kernel_rfl)) (by kernel_rfl) (by kernel_rfl)
theorem of_laid {W : World} (h : laidMetH Tryd.prog laidL W) : ∀ i, i < 64 → W.cell? ⟨0, i, none⟩ = some (.int .u32 ((Go.Sha.K256.getD i 0).toNat : Int)) := by
  rw [MakeChecks.laidMetH_plain _ _ _ (by kernel_rfl)] at h
  obtain ⟨ps, ⟨g0, t0, cs0, f0, p0, q0, hg0, ht0, hv0, hd0, _⟩, _⟩ := h
  obtain rfl := Option.some.inj (gRounds.symm.trans hg0)
  obtain rfl := Option.some.inj (tRounds.symm.trans ht0)
  obtain ⟨xs, m1, rfl, hx1, hlen, hn3, hel⟩ := DataW.trod_array Tryd.underlying83 hd0
  have c3 : Tryd.prog.cellsOf 76 = 1 := by kernel_rfl
  simp only [Prod.mk.injEq] at hx1
  have hxs : xs.map (fun x => x.1) = Go.Sha.K256.map fun x => DataW.lit (.int .u32 (x.toNat : Int)) := by
    have h1 := hx1.1
    unfold Rows.laid_concierge_sha_rounds at h1
    rw [DataW.agg.injEq] at h1
    rw [← h1]
    rfl
  intro i hi
  have h0 := hel i hi
  rw [c3, Nat.mul_one] at h0
  have hxi : (xs.map (fun x => x.1))[i]? = some (DataW.lit (.int .u32 ((Go.Sha.K256.getD i 0).toNat : Int))) := by
    rw [hxs, List.getElem?_map, List.getElem?_eq_getElem (show i < Go.Sha.K256.length from hi), List.getD_eq_getElem?_getD, List.getElem?_eq_getElem (show i < Go.Sha.K256.length from hi)]
    rfl
  rw [List.getElem?_map] at hxi
  obtain ⟨x, hx, hx2⟩ := Option.map_eq_some_iff.1 hxi
  rw [hx] at h0
  obtain ⟨k, e1, e2, _⟩ := DataW.trod_int Tryd.underlying76 h0
  have hk : k = ((Go.Sha.K256.getD i 0).toNat : Int) := by
    rw [e2] at hx2
    simpa using hx2
  subst hk
  have := World.var?_cell hg0 hv0 i
  rw [this]
  have e3 : cs0.toList[i]? = some (.int .u32 ((Go.Sha.K256.getD i 0).toNat : Int)) := by
    have e4 : ((cs0.toList.drop i).take 1)[0]? = some (.int .u32 ((Go.Sha.K256.getD i 0).toNat : Int)) := by rw [e1]; rfl
    simpa using e4
  simpa using e3
theorem gl_of {W : World} (h : laidMetH Tryd.prog laidL W) : ∀ g, VR (M0 W) 0 W (E0.gl g) (.pointer (some ⟨g, 0, none⟩)) := fun g => by
  have hc := of_laid h
  show VR (M0 W) 0 W (if g = 0 then .cptr (uvs Go.Sha.K256) else .any) _
  split
  · next hg =>
    subst hg
    unfold VR
    refine ⟨0, 0, Go.Sha.K256.map fun x => Value.int .u32 (x.toNat : Int), rfl, block_lt_of_cell (hc 0 (by decide)), vrs_map (fun _ => rfl) _, fun j x hj => ?_⟩
    rw [List.getElem?_map] at hj
    obtain ⟨y, hy, rfl⟩ := Option.map_eq_some_iff.1 hj
    have hlt : j < 64 := (List.getElem?_eq_some_iff.1 hy).1
    rw [Nat.zero_add, hc j hlt, List.getD_eq_getElem?_getD, hy]
    rfl
  · unfold VR; trivial
end Go.Proofs.YtbiikekemaggaaaDoor
