/- Timers: all, in order, by the machine. No condition. -/
import Derived.Shelf.SlSortCmp.NoneTotal
import Derived.WalkKit
import Derived.Test.YtmafdnbdaaedgaaYQk
import Derived.Test.YtmafdnbdaaedgaaYQr
import Derived.Test.YtmafdnbdaaedgaaYb1
import Derived.Test.YtmafdnbdaaedgaaYgs
set_option linter.unusedSectionVars false
set_option linter.unusedVariables false
set_option linter.unusedSimpArgs false
set_option linter.deprecated false
namespace Go.Proofs.Ytmafdnbdaaedgaa
open Go.RowKit Go.Cx Go.Am Go.Sort
set_option maxRecDepth 8000
set_option maxHeartbeats 2000000
attribute [local irreducible] ACalls jcall jsame jex jexg jexh jguard jconv jload jpart jstore jbin jslice jidxA jidx jfield jfieldA jbuild jbuildS jmake jappend jlen jpick jres jcnd jcopy jcap jborn jdraw jops jop jstr jstrc jlive jend jlenM jmmake jlook jmput jmdel jrange jnext jentry jlk jmp2 jmd2 jlm jrg jnx jny jen jeo jinvoke jmkI jtyA
attribute [local go_sem] reduceIte Nat.reduceEqDiff Nat.reduceAdd Nat.reduceMul Nat.reduceLT Nat.reduceLeDiff Nat.reduceSub Int.reduceLT Int.reduceLE Int.reduceToNat Int.reduceNeg Int.reduceAdd Int.reduceSub UInt8.reduceToNat Int.reduceEq reduceCtorEq Int.reducePow Int.reduceMul Nat.reducePow E0
attribute [local go_sem ↓] reduceIte
attribute [local go_sem high] chunks_bvs
attribute [local go_sem] jop_makeMap jop_lookup jop_mapUpdate jop_delete jop_range jop_next jop_entry jmmake_m jlook_m jlk_mI jmput_m jmdel_m jmd2_mB jlm_mB jrange_m jnext_m jnx_m jentry_m jen_m jeo_mS bmap_mI bmap_mSI mB_nil vI nbB_o nbB_r nbB_i bmap_o bmap_r bmap_i gfB_o gfB_r gfB_i jop_invoke jop_makeInterface jop_typeAssert jinvoke_m jmkI_m jtyA_m ifp_nb
attribute [local go_sem ←] List.map_take List.map_drop

/-- More is laid behind. -/
def Gr (H H' : Heap) : Prop := H.length ≤ H'.length ∧ ∀ k, k < H.length → H'[k]? = H[k]?
theorem Gr.app (H L : Heap) : Gr H (H ++ L) := ⟨by simp, fun k hk => at_app' hk L⟩
theorem Gr.trans {A B C : Heap} (h : Gr A B) (g : Gr B C) : Gr A C := ⟨Nat.le_trans h.1 g.1, fun k hk => (g.2 k (Nat.lt_of_lt_of_le hk h.1)).trans (h.2 k hk)⟩
theorem Gr.set {A B : Heap} (h : Gr A B) {o : Nat} (ho : A.length ≤ o) (x : Option Blk) : Gr A (B.set o x) := ⟨by rw [List.length_set]; exact h.1, fun k hk => (List.getElem?_set_ne (by omega)).trans (h.2 k hk)⟩
section
variable {H : Heap} {b c q : Nat} {m : List (Int × Nat)} {p : List It} {Z : List (List AV)}
end
end Go.Proofs.Ytmafdnbdaaedgaa
