/- What names among conciergelaw06's arguments read as. No condition. -/
import Derived.Test.YtoeheoihdoaplaaTz
import Derived.Test.YtoeheoihdoaplaaTr
set_option linter.unusedSectionVars false
set_option linter.unusedVariables false
set_option linter.unusedSimpArgs false
set_option linter.deprecated false
namespace Go.Am
open Go.RowKit Go.Cx
/-- A text. -/
structure Txt where
  dat : List UInt8
instance : Rep Txt where
  sz := 1
  rd _ _ cs s := cs = [.string (str s.dat)]
  len := by rintro _ _ _ _ rfl; rfl
  one := by
    rintro _ _ _ _ rfl
    simp [Value.oneCell']
  mono _ _ h := h
instance : Cel Txt := ⟨fun s => [.string (str s.dat)], ⟨[]⟩⟩
theorem rd_txt {G : Nat → Prop} {w : World} {cs : List Value} {a : Txt} (h : Rep.rd G w cs a) : cs = Cel.cel a := h
theorem cels_txt (l : List Txt) : cels l = cels (l.map Txt.dat) := by
  simp only [cels, List.map_map]
  rfl
end Go.Am
namespace Go.Proofs.Ytoeheoihdoaplaa
open Go.RowKit Go.Cx Go.ChangeShapes Go.WideShapes Go.ChangeAt Go.Deep Go.Lib Go.Am
theorem opensTxt : Opens Txt Try.prog 9 := by
  intro H enc w spare held fuel cs x h
  obtain ⟨l, hl⟩ := opens_str Try.underlying9 h
  exact ⟨⟨l⟩, hl⟩
theorem opensStrs : Opens (List Txt) Try.prog 40 := opens_slice Try.underlying40 (by kernel_rfl) (by decide) opensTxt
theorem top_strs {M : Mem} {n : Nat} {w : World} {l : List Txt} {v : Value} (h : RSl M.G w v l) : VR M n w (.sl 1 (cels (l.map Txt.dat))) v := by
  have := top_cels (n := n) rd_txt h
  rw [cels_txt] at this
  exact this
end Go.Proofs.Ytoeheoihdoaplaa
