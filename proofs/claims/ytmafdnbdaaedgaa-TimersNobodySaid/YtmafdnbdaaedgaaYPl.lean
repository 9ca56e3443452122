/- Arguments of plain cells, told to the abstract machine. No condition. -/
import Derived.Test.YtmafdnbdaaedgaaYb1
import Derived.Test.YtmafdnbdaaedgaaYGn
set_option linter.unusedSectionVars false
set_option linter.unusedVariables false
set_option linter.unusedSimpArgs false
set_option linter.deprecated false
namespace Go.Am
open Go.RowKit Go.Cx Go.ChangeShapes Go.WideShapes Go.ChangeAt Go.Deep
theorem vrs_vals {M : Mem} {n : Nat} {w : World} : ∀ {us : List Value}, (∀ u ∈ us, u.oneCell' = true) → VRs M n w (us.map .v) us
  | [], _ => by unfold VRs; rfl
  | u :: us, h => by
    simp only [List.map_cons]
    unfold VRs
    exact ⟨u, us, rfl, h u (by simp), vr_v, vrs_vals fun x hx => h x (by simp [hx])⟩
section
variable {α : Type} [Rep α] [Cel α] (hrd : ∀ {G w} {cs : List Value} {a : α}, Rep.rd G w cs a → cs = Cel.cel a)
include hrd
end
/-- A number of 64 bits. -/
def i64? (n : Int) : Prop := -9223372036854775808 ≤ n ∧ n ≤ 9223372036854775807
instance : Rep (Int × Int × Int) where
  sz := 3
  rd _ _ cs o := cs = [.int .i64 o.1, .int .i64 o.2.1, .int .i64 o.2.2] ∧ i64? o.1 ∧ i64? o.2.1 ∧ i64? o.2.2
  len := by rintro _ _ _ _ ⟨rfl, _⟩; rfl
  one := by
    rintro _ _ _ _ ⟨rfl, _⟩
    simp [Value.oneCell']
  mono _ _ h := h
theorem rd_iii {G : Nat → Prop} {w : World} {cs : List Value} {a : Int × Int × Int} (h : Rep.rd G w cs a) : cs = Cel.cel a := h.1
theorem open_agg {α : Type} [Rep α] {P : Program} {t : TypeId} (ho : Opens α P t) {H : Type} {enc : TypeId × Value → H} {w : World} {spare : Nat → Bool} {held : Bool} {v : Value} {d : DataW H} {p : List MemPlace} {cs : Array Value} (hv : v = .agg cs) (h : DataW.Trod enc P w 0 spare held t v d p) : ∃ a : α, Rep.rd (fun b => b < w.heap.size) w cs.toList a := by
  subst hv
  obtain ⟨fuel, h⟩ := h
  exact ho enc w spare held fuel _ _ h
theorem top_agg {α : Type} [Rep α] [Cel α] (hrd : ∀ {G w} {cs : List Value} {a : α}, Rep.rd G w cs a → cs = Cel.cel a) {M : Mem} {n : Nat} {w : World} {cs : Array Value} {a : α} (h : Rep.rd M.G w cs.toList a) : VR M n w (.agg (cl1 a)) (.agg cs) := by
  unfold VR
  refine ⟨cs.toList, by simp, ?_⟩
  have h1 := Rep.one h
  have h2 := hrd h
  rw [h2] at h1 ⊢
  exact vrs_vals h1
end Go.Am
