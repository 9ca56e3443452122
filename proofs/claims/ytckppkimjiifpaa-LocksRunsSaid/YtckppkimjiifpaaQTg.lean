/- Rows of tags, told to the abstract machine. No condition. -/
import Derived.Test.YtckppkimjiifpaaQb1
import Derived.Test.YtckppkimjiifpaaQGn
import Derived.Test.YtckppkimjiifpaaQFx
set_option linter.unusedSectionVars false
set_option linter.unusedVariables false
set_option linter.unusedSimpArgs false
set_option linter.deprecated false
namespace Go.Am
open Go.Cx
theorem VRt.wks {M : Mem} {n : Nat} {w : World} : ∀ {cs cs' : List AV} {us : List Value}, wks cs cs' → VRt M n w cs us → VRt M n w cs' us
  | [], [], us, _, h => h
  | a :: l, b :: m, us, k, h => by
    unfold VRt at h ⊢
    obtain ⟨x, r, h0, k2, k3⟩ := h
    exact ⟨x, r, h0, k.1 _ _ _ _ k2, VRt.wks k.2 k3⟩
  | [], _ :: _, _, k, _ => k.elim
  | _ :: _, [], _, k, _ => k.elim
theorem Wk.tups {xs ys : List AV} (h : wks xs ys) : Wk (.tup xs) (.tup ys) := fun M n w u k => by
  unfold VR at k ⊢
  obtain ⟨us, k1, k2⟩ := k
  exact ⟨us, k1, VRt.wks h k2⟩
end Go.Am
namespace Go.Proofs.Ytckppkimjiifpaa
open Go.RowKit Go.Cx Go.Am
def tagC (t : Tag) : List AV := [.v (.int .i64 t.typ), byts t.val]
def tgs (l : List Tag) : List (List AV) := l.map tagC
theorem tagC_eq (t : Tag) : tagC t = [.v (.int .i64 t.typ), .sl 1 (t.val.map bcl)] := rfl
section
variable {l m : List Tag} {t : Tag} {i k : Nat}
theorem tgs_nil : tgs [] = [] := rfl
theorem tgs_snoc {y : Int} {v : List UInt8} : tgs l ++ [[.v (.int .i64 y), .sl 1 (v.map bcl)]] = tgs (l ++ [⟨y, v⟩]) := by simp [tgs]; rfl
end
/-- Rows of bytes, as All tells them. -/
def rwb (xss : List (List UInt8)) : List (List AV) := xss.map fun l => [byts l]
section
variable {xss : List (List UInt8)} {i k : Nat}
theorem rwb_nil : rwb [] = [] := rfl
end
end Go.Proofs.Ytckppkimjiifpaa
