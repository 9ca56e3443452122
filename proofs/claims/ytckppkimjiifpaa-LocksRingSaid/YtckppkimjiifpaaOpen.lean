/- What the arguments of a call read as: from the claim's own reading to the readings that the walks use. No condition. -/
import Derived.Test.YtckppkimjiifpaaLib
import Derived.ProofKit
import Derived.Deep.Slices
import Derived.OpenShut
set_option linter.unusedSectionVars false
set_option linter.unusedVariables false
set_option linter.unusedSimpArgs false
set_option linter.deprecated false
namespace Go.Cx
open Go.RowKit Go.ChangeShapes Go.WideShapes Go.ChangeAt Go.Deep

/-- Values of type t read as data of type α. -/
def Opens (α : Type) [Rep α] (P : Program) (t : TypeId) : Prop :=
  ∀ {H : Type} (enc : TypeId × Value → H) (w : World) (spare : Nat → Bool) (held : Bool) (fuel : Nat) (cs : List Value) (x : DataW H × List MemPlace),
    DataW.trod enc P w 0 spare held fuel t cs = some x → ∃ a : α, Rep.rd (fun b => b < w.heap.size) w cs a

theorem opens_u8 {P : Program} {t : TypeId} (ht : P.underlying t = some (.int .u8)) : Opens UInt8 P t := by
  intro H enc w spare held fuel cs x h
  obtain ⟨a, e0, _, wa⟩ := DataW.trod_int ht h
  have hb : 0 ≤ a ∧ a ≤ 255 := by simpa [Lit.wf, IntKind.min, IntKind.max, IntKind.signed, IntKind.bits] using wa
  refine ⟨UInt8.ofNat a.toNat, ?_⟩
  show cs = [.int .u8 ((UInt8.ofNat a.toNat).toNat : Int)]
  have h2 : (UInt8.ofNat a.toNat).toNat = a.toNat := by simp; omega
  rw [e0, h2]
  congr 2
  omega

theorem opens_int {P : Program} {t : TypeId} (ht : P.underlying t = some (.int .i64)) : Opens Int P t := by
  intro H enc w spare held fuel cs x h
  obtain ⟨a, e0, _, wa⟩ := DataW.trod_int ht h
  have hb : -9223372036854775808 ≤ a ∧ a ≤ 9223372036854775807 := by simpa [Lit.wf, IntKind.min, IntKind.max, IntKind.signed, IntKind.bits] using wa
  exact ⟨a, e0, hb⟩

theorem opens_slice {α : Type} [Rep α] {P : Program} {t e : TypeId} (ht : P.underlying t = some (.slice e)) (he : P.cellsOf e = Rep.sz α) (hs : 0 < Rep.sz α) (ho : Opens α P e) : Opens (List α) P t := by
  intro H enc w spare held fuel cs x h
  rcases open_slice ht h with ⟨rfl, _⟩ | ⟨a, len, cap, m, n, D, Pl, rfl, _, hl, hM, hm, _, hx⟩
  · exact ⟨[], _, rfl, RSl.nil _ _⟩
  rw [he] at hx
  have hlm : len ≤ m := by rw [hm]; split <;> omega
  have key : ∀ k, k ≤ len → ∃ (cells : List Value) (xs : List α), xs.length = k ∧ RAll (fun b => b < w.heap.size) w cells xs ∧ ∀ j u, cells[j]? = some u → w.cell? (a.add j) = some u := by
    intro k
    induction k with
    | zero => exact fun _ => ⟨[], [], rfl, rfl, fun j u hj => by simp at hj⟩
    | succ k ih =>
      intro hk
      obtain ⟨cells, xs, h1, h2, h3⟩ := ih (by omega)
      obtain ⟨cs', g1, g2⟩ := hx k (by omega)
      obtain ⟨_, g3, g4⟩ := World.cells?_some g1
      obtain ⟨y, hy⟩ := ho enc w spare held n cs' _ g2
      have hcl := h2.len
      rw [h1] at hcl
      refine ⟨cells ++ cs', xs ++ [y], by simp [h1], h2.append (RAll.single hy), fun j u hj => ?_⟩
      rw [List.getElem?_append] at hj
      split at hj
      · exact h3 j u hj
      · have hj2 : j - cells.length < Rep.sz α := by
          have := (List.getElem?_eq_some_iff.1 hj).1
          omega
        have := g4 _ hj2
        rw [hj, add_add] at this
        rw [← this]
        congr 2
        omega
  obtain ⟨cells, xs, h1, h2, h3⟩ := key len (Nat.le_refl _)
  refine ⟨xs, .slice (some a) len cap, rfl, some a, cap, cells, by rw [h1], ?_, h2⟩
  have hcl := h2.len
  refine ⟨hcl, by omega, hM, h2.one, ?_⟩
  by_cases h0 : xs.length = 0
  · exact .inl ⟨h0, fun hno => by cases hno⟩
  · right
    have hpos : 0 < cells.length := by rw [hcl]; exact Nat.mul_pos (by omega) hs
    have hc0 := h3 0 cells[0] (by simp [hpos])
    have ha0 : a.add 0 = a := by simp [Addr.add]
    rw [ha0] at hc0
    obtain ⟨b, off, spot⟩ := a
    have hsp : spot = none := by
      cases spot with
      | none => rfl
      | some q =>
        exfalso
        unfold World.cell? at hc0
        split at hc0 <;> simp at hc0
    subst hsp
    refine ⟨b, off, rfl, block_lt_of_cell hc0, fun j u hj => ?_⟩
    have := h3 j u hj
    rwa [addr_add] at this

/-- A struct of two fields of one cell each. -/
theorem opens_pair {P : Program} {t : TypeId} {f0 f1 : Field} (ht : P.underlying t = some (.struct #[f0, f1])) (o0 : f0.offset = 0) (o1 : f1.offset = 1) (c0 : P.cellsOf f0.type = 1) (c1 : P.cellsOf f1.type = 1) (ct : P.cellsOf t = 2)
    {H : Type} {enc : TypeId × Value → H} {w : World} {spare : Nat → Bool} {held : Bool} {fuel : Nat} {cs : List Value} {x : DataW H × List MemPlace} (h : DataW.trod enc P w 0 spare held fuel t cs = some x) :
    ∃ v0 v1 y0 y1 n, cs = [v0, v1] ∧ DataW.trod enc P w 0 spare held n f0.type [v0] = some y0 ∧ DataW.trod enc P w 0 spare held n f1.type [v1] = some y1 := by
  obtain ⟨y0, y1, n, _, hl, h0, h1⟩ := trod_struct2 ht h
  rw [ct] at hl
  match cs, hl with
  | [v0, v1], _ =>
    rw [o0, c0] at h0
    rw [o1, c1] at h1
    exact ⟨v0, v1, y0, y1, n, rfl, h0, h1⟩

/-- An argument that is one value of one cell. -/
theorem Opens.arg {α : Type} [Rep α] {P : Program} {t : TypeId} (ho : Opens (List α) P t) {H : Type} {enc : TypeId × Value → H} {w : World} {spare : Nat → Bool} {held : Bool} {v : Value} {d : DataW H} {p : List MemPlace}
    (hv : v.cells.toList = [v]) (h : DataW.Trod enc P w 0 spare held t v d p) : ∃ xs : List α, RSl (fun b => b < w.heap.size) w v xs := by
  obtain ⟨fuel, h⟩ := h
  rw [hv] at h
  obtain ⟨xs, v', e, hx⟩ := ho enc w spare held fuel _ _ h
  simp at e
  subst e
  exact ⟨xs, hx⟩
end Go.Cx
