/- Arguments of plain cells, told to the abstract machine. No condition. -/
import Derived.Test.YtmafdnbdaaedgaaYb1
import Derived.Test.YtmafdnbdaaedgaaYGn
set_option linter.unusedSectionVars false
set_option linter.unusedVariables false
set_option linter.unusedSimpArgs false
set_option linter.deprecated false
namespace Go.Am
open Go.RowKit Go.Cx Go.ChangeShapes Go.WideShapes Go.ChangeAt Go.Deep
theorem vrs_vals {M : Mem} {n : Nat} {w : World} : ∀ {us : List Value}, (∀ u ∈ us, u.oneCell' = true) → VRs M n w (us.map .v) us
  | [], _ => by unfold VRs; rfl
  | u :: us, h => by
    simp only [List.map_cons]
    unfold VRs
    exact ⟨u, us, rfl, h u (by simp), vr_v, vrs_vals fun x hx => h x (by simp [hx])⟩
section
variable {α : Type} [Rep α] [Cel α] (hrd : ∀ {G w} {cs : List Value} {a : α}, Rep.rd G w cs a → cs = Cel.cel a)
include hrd
theorem rall_cels {M : Mem} {n : Nat} {w : World} : ∀ {l : List α} {us : List Value}, RAll M.G w us l → VRss M n w (Rep.sz α) (cels l) us
  | [], us, h => h
  | b :: l, us, h => by
    obtain ⟨c, r, rfl, hc, h2⟩ := h
    show VRss M n w _ (cl1 b :: cels l) (c ++ r)
    unfold VRss
    refine ⟨c, r, rfl, Rep.len hc, ?_, rall_cels h2⟩
    have h1 := Rep.one hc
    have := hrd hc
    subst this
    exact vrs_vals h1
theorem top_cels {M : Mem} {n : Nat} {w : World} {xs : List α} {v : Value} (h : RSl M.G w v xs) : VR M n w (.sl (Rep.sz α) (cels xs)) v := by
  obtain ⟨ao, cap, us, h1, h2, h3⟩ := h
  unfold VR
  rw [cels_len]
  exact ⟨ao, cap, us, h1, rall_cels hrd h3, h2⟩
end
/-- A number of 64 bits. -/
def i64? (n : Int) : Prop := -9223372036854775808 ≤ n ∧ n ≤ 9223372036854775807
instance : Rep (Int × Int × Int) where
  sz := 3
  rd _ _ cs o := cs = [.int .i64 o.1, .int .i64 o.2.1, .int .i64 o.2.2] ∧ i64? o.1 ∧ i64? o.2.1 ∧ i64? o.2.2
  len := by rintro _ _ _ _ ⟨rfl, _⟩; rfl
  one := by
    rintro _ _ _ _ ⟨rfl, _⟩
    simp [Value.oneCell']
  mono _ _ h := h
theorem rd_iii {G : Nat → Prop} {w : World} {cs : List Value} {a : Int × Int × Int} (h : Rep.rd G w cs a) : cs = Cel.cel a := h.1
end Go.Am
