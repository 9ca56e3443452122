/- Timers: the order of the sort, plain. No condition. -/
import Derived.Test.YtmafdnbdaaedgaaYQn
import Derived.Test.YtmafdnbdaaedgaaYb1
set_option linter.unusedSectionVars false
set_option linter.unusedVariables false
set_option linter.unusedSimpArgs false
set_option linter.deprecated false
namespace Go.Proofs.Ytmafdnbdaaedgaa
open Go.RowKit Go.Cx Go.Am Go.Sort
/-- The comparison of two of a row's timers. -/
def cfS (p : List It) (x y : {a : It // a ∈ p}) : Int := cmp3 x.1 y.1
def srtT (p : List It) : List It := p.mergeSort fun x y => !(ltOf cmp3 y x)
theorem ltT (x y : It) : ltOf cmp3 x y = decide (lt3 x y) := by
  unfold ltOf
  by_cases h : lt3 x y
  · rw [decide_eq_true h, decide_eq_true ((cmp3_lt x y).2 h)]
  · rw [decide_eq_false h, decide_eq_false (fun hh => h ((cmp3_lt x y).1 hh))]
theorem ltS (p : List It) (x y : {a : It // a ∈ p}) : ltOf (cfS p) x y = decide (lt3 x.1 y.1) := ltT x.1 y.1
theorem swoT (p : List It) : SWO (ltOf (cfS p)) where
  irrefl x := by rw [ltS]; unfold lt3; simp
  trans x y z h1 h2 := by
    rw [ltS] at *
    have a := of_decide_eq_true h1
    have b := of_decide_eq_true h2
    apply decide_eq_true
    unfold lt3 at *
    omega
  ntrans x y z h1 h2 := by
    rw [ltS] at *
    have a := of_decide_eq_false h1
    have b := of_decide_eq_false h2
    apply decide_eq_false
    unfold lt3 at *
    omega
theorem totT {p : List It} (nd : (p.map (·.2.1)).Nodup) (x y : {a : It // a ∈ p}) (h1 : ltOf (cfS p) x y = false) (h2 : ltOf (cfS p) y x = false) : x = y := by
  rw [ltS] at *
  have a := of_decide_eq_false h1
  have b := of_decide_eq_false h2
  unfold lt3 at a b
  obtain ⟨x, hx⟩ := x
  obtain ⟨y, hy⟩ := y
  have e : x.2.1 = y.2.1 := by simp only at a b; omega
  have : x = y := by
    obtain ⟨i, hi, rfl⟩ := List.getElem_of_mem hx
    obtain ⟨j, hj, rfl⟩ := List.getElem_of_mem hy
    have h := List.pairwise_iff_getElem.1 nd
    rcases Nat.lt_trichotomy i j with g | g | g
    · exact absurd (by rw [List.getElem_map, List.getElem_map]; exact e) (h i j (by simpa using hi) (by simpa using hj) g)
    · subst g; rfl
    · exact absurd (by rw [List.getElem_map, List.getElem_map]; exact e.symm) (h j i (by simpa using hj) (by simpa using hi) g)
  subst this
  rfl
theorem srt_attach (p : List It) : (p.attach.mergeSort fun x y => !(ltOf (cfS p) y x)).map (·.1) = srtT p := by
  unfold srtT
  have h := List.map_mergeSort (r := fun x y => !(ltOf (cfS p) y x)) (s := fun x y => !(ltOf cmp3 y x)) (f := fun x : {a : It // a ∈ p} => x.1) (l := p.attach) (fun a _ b _ => rfl)
  rw [h, List.attach_map_subtype_val]
end Go.Proofs.Ytmafdnbdaaedgaa
