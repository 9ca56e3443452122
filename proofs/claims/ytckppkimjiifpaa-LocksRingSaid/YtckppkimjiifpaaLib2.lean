/- What '==' says of two arrays of numbers. No condition. -/
import Derived.Test.YtckppkimjiifpaaLib
import Derived.DeepKeys
set_option linter.unusedSectionVars false
set_option linter.unusedVariables false
set_option linter.unusedSimpArgs false
set_option linter.deprecated false
namespace Go.Cx
open Go.RowKit

theorem eqItems_ints {P : Program} {e : TypeId} {k : IntKind} (he : P.underlying e = some (.int k)) (d : Nat) (l m : List Int) (w : World) :
    ∀ is : List Nat, (∀ i ∈ is, i < l.length ∧ i < m.length) →
      (Op.eqItems (d + 1) e 1 (l.map (Value.int k)).toArray (m.map (Value.int k)).toArray is).run P w = .ok (is.all fun i => l[i]? == m[i]?) w
  | [], _ => by simp [Op.eqItems]
  | i :: is, h => by
    have hi := h i (by simp)
    have hp : P.plainKey e = true := by simp [Program.plainKey, he]
    have h1 : (l.map (Value.int k)).toArray[i * 1]? = some (.int k l[i]) := by simp [hi.1]
    have h2 : (m.map (Value.int k)).toArray[i * 1]? = some (.int k m[i]) := by simp [hi.2]
    simp only [Op.eqItems, Sem.run_bind, run_part_plain w hp h1, run_part_plain w hp h2, Result.andThen_ok, run_equalIn_int w d e k k _ _ he, List.all_cons]
    have e1 : (l[i]? == m[i]?) = (l[i] == m[i]) := by simp [hi.1, hi.2]
    rw [e1]
    by_cases hx : l[i] = m[i]
    · simp only [hx, beq_self_eq_true, Bool.not_true, Bool.false_eq_true, if_false, Bool.true_and]
      exact eqItems_ints he d l m w is (fun j hj => h j (by simp [hj]))
    · simp [hx]

theorem eq_ints {P : Program} {t e : TypeId} {n : Nat} {k : IntKind} {z : Option Value} {b : Nat} (ht : P.underlying t = some (.array n e)) (he : P.underlying e = some (.int k)) (hi : (P.info? e).map (fun i => (i.zero, i.size, i.bytes)) = some (z, 1, b))
    (l m : List Int) (hl : l.length = n) (hm : m.length = n) (w : World) :
    (Op.equalIn 10000 t (.agg (l.map (Value.int k)).toArray) (.agg (m.map (Value.int k)).toArray)).run P w = .ok (decide (l = m)) w := by
  obtain ⟨i, hi1, hi2⟩ := Option.map_eq_some_iff.1 hi
  simp only [Prod.mk.injEq] at hi2
  obtain ⟨_, hs, _⟩ := hi2
  rw [show (10000 : Nat) = 9999 + 1 from rfl, run_equalIn_array w 9999 _ _ ht hi1]
  rw [show P.cellsOf e = 1 by simp [Program.cellsOf, hi1, hs], eqItems_ints he 9998 l m w _ (fun i hi => by have := List.mem_range.1 hi; omega)]
  congr 1
  rw [Bool.eq_iff_iff]
  simp only [List.all_eq_true, List.mem_range, beq_iff_eq, decide_eq_true_eq]
  constructor
  · intro h
    apply List.ext_getElem?
    intro i
    by_cases hi : i < n
    · exact h i hi
    · rw [List.getElem?_eq_none (by omega), List.getElem?_eq_none (by omega)]
  · rintro rfl i _
    rfl
end Go.Cx
