/- Rows of rows of bytes. No condition. -/
import Derived.Test.YtelenadhhjeoeaaDoorUv
set_option linter.unusedSectionVars false
set_option linter.unusedVariables false
set_option linter.unusedSimpArgs false
set_option linter.deprecated false
namespace Go.Am
open Go.Cx
theorem rows_get (xss : List (List UInt8)) (i : Nat) (h : i < xss.length) : (xss.map fun l => [byts l]).getD i [] = [byts (xss.getD i [])] := by
  simp [List.getD_eq_getElem?_getD, List.getElem?_eq_getElem h]
theorem nbss_rows {n : Nat} (xss : List (List UInt8)) : nbss n (xss.map fun l => [.sl 1 (l.map bcl)]) = True :=
  eq_true (nbss_map (fun l => nbs_iff.2 fun a ha => by
    simp at ha
    subst ha
    exact of_eq_true (nb_byts l)) xss)
theorem amapss_rows {f : Nat → Nat} (xss : List (List UInt8)) : amapss f (xss.map fun l => [.sl 1 (l.map bcl)]) = xss.map fun l => [.sl 1 (l.map bcl)] :=
  amapss_id (n := 0) (fun r hr => absurd hr (Nat.not_lt_zero r)) (of_eq_true (nbss_rows xss))
theorem take_more {α : Type} (d : α) (xss : List α) (i : Nat) (h : i < xss.length) : xss.take (i + 1) = xss.take i ++ [xss.getD i d] := by
  rw [List.take_add_one, List.getElem?_eq_getElem h]
  simp [List.getD_eq_getElem?_getD, List.getElem?_eq_getElem h]
end Go.Am
