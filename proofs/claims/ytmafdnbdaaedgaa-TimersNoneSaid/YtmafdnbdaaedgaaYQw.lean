/- Timers: the reference, by the machine. No condition but bounds of lengths. -/
import Derived.Test.YtmafdnbdaaedgaaYGn
import Derived.Test.YtmafdnbdaaedgaaYFx
import Derived.Test.YtmafdnbdaaedgaaYb1
import Derived.Test.YtmafdnbdaaedgaaYgs
set_option linter.unusedSectionVars false
set_option linter.unusedVariables false
set_option linter.unusedSimpArgs false
set_option linter.deprecated false
namespace Go.Am
open Go.Cx
theorem VRt.wks {M : Mem} {n : Nat} {w : World} : ∀ {cs cs' : List AV} {us : List Value}, wks cs cs' → VRt M n w cs us → VRt M n w cs' us
  | [], [], us, _, h => h
  | a :: l, b :: m, us, k, h => by
    unfold VRt at h ⊢
    obtain ⟨x, r, h0, k2, k3⟩ := h
    exact ⟨x, r, h0, k.1 _ _ _ _ k2, VRt.wks k.2 k3⟩
  | [], _ :: _, _, k, _ => k.elim
  | _ :: _, [], _, k, _ => k.elim
end Go.Am
namespace Go.Proofs.Ytmafdnbdaaedgaa
open Go.RowKit Go.Cx Go.Am
set_option maxRecDepth 8000
set_option maxHeartbeats 2000000
attribute [local irreducible] ACalls jcall jsame jex jexg jexh jguard jconv jload jpart jstore jbin jslice jidxA jidx jfield jfieldA jbuild jbuildS jmake jappend jlen jpick jres jcnd jcopy jcap jborn jdraw jops jop jstr jstrc jlive jend jlenM
attribute [local go_sem] reduceIte Nat.reduceEqDiff Nat.reduceAdd Nat.reduceMul Nat.reduceLT Nat.reduceLeDiff Nat.reduceSub Int.reduceLT Int.reduceLE Int.reduceToNat Int.reduceNeg Int.reduceAdd Int.reduceSub UInt8.reduceToNat Int.reduceEq reduceCtorEq Int.reducePow Int.reduceMul Nat.reducePow E0
attribute [local go_sem ↓] reduceIte
attribute [local go_sem high] chunks_bvs
attribute [local go_sem] bmap nbB gfB
attribute [local go_sem ←] List.map_take List.map_drop

def wtoF (l : List (Int × Int)) (key : Int) : List (Int × Int) := l.filter fun d => decide (d.1 ≠ key)
def ahF (key tick : Int) (d : Int × Int) : Bool := decide (d.2 < tick ∨ d.2 = tick ∧ d.1 < key)
def bdF (key tick : Int) : Prop := key < 0 ∨ 1099511627776 < key ∨ tick < 1 ∨ 1099511627776 < tick
instance (key tick : Int) : Decidable (bdF key tick) := by unfold bdF; infer_instance
def setF (l : List (Int × Int)) (key tick : Int) : List (Int × Int) := if bdF key tick then l else (wtoF l key).takeWhile (ahF key tick) ++ [(key, tick)] ++ (wtoF l key).dropWhile (ahF key tick)
def errF (key tick : Int) : Int := if bdF key tick then 130 else 0
def dueF (l : List (Int × Int)) (tick : Int) : List (Int × Int) := l.takeWhile fun d => decide (d.2 ≤ tick)
def resF (l : List (Int × Int)) (tick : Int) : List (Int × Int) := l.dropWhile fun d => decide (d.2 ≤ tick)
theorem wtoF_len (l : List (Int × Int)) (k : Int) : (wtoF l k).length ≤ l.length := List.length_filter_le ..
end Go.Proofs.Ytmafdnbdaaedgaa
