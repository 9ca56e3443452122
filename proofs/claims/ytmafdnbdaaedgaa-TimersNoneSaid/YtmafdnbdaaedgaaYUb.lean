/- Law 13, any calls, by the machine. No condition but the arguments' own ranges. -/
import Derived.Test.YtmafdnbdaaedgaaYQv
import Derived.Test.YtmafdnbdaaedgaaYQx
import Derived.Test.YtmafdnbdaaedgaaYPl
import Derived.Test.YtmafdnbdaaedgaaYb1
import Derived.Test.YtmafdnbdaaedgaaYgs
set_option linter.unusedSectionVars false
set_option linter.unusedVariables false
set_option linter.unusedSimpArgs false
set_option linter.deprecated false
namespace Go.Proofs.Ytmafdnbdaaedgaa
open Go.RowKit Go.Cx Go.Am Go.Sort
set_option maxRecDepth 8000
set_option maxHeartbeats 2000000
attribute [local irreducible] ACalls jcall jsame jex jexg jexh jguard jconv jload jpart jstore jbin jslice jidxA jidx jfield jfieldA jbuild jbuildS jmake jappend jlen jpick jres jcnd jcopy jcap jborn jdraw jops jop jstr jstrc jlive jend jlenM jmmake jlook jmput jmdel jrange jnext jentry jlk jmp2 jmd2 jlm jrg jnx jny jen jeo jinvoke jmkI jtyA
attribute [local go_sem] reduceIte Nat.reduceEqDiff Nat.reduceAdd Nat.reduceMul Nat.reduceLT Nat.reduceLeDiff Nat.reduceSub Int.reduceLT Int.reduceLE Int.reduceToNat Int.reduceNeg Int.reduceAdd Int.reduceSub UInt8.reduceToNat Int.reduceEq reduceCtorEq Int.reducePow Int.reduceMul Nat.reducePow E0
attribute [local go_sem ↓] reduceIte
attribute [local go_sem high] chunks_bvs
attribute [local go_sem] jop_makeMap jop_lookup jop_mapUpdate jop_delete jop_range jop_next jop_entry jmmake_m jlook_m jlk_mI jmput_m jmdel_m jmd2_mB jlm_mB jrange_m jnext_m jnx_m jentry_m jen_m jeo_mS bmap_mI bmap_mSI mB_nil vI nbB_o nbB_r nbB_i bmap_o bmap_r bmap_i gfB_o gfB_r gfB_i jop_invoke jop_makeInterface jop_typeAssert jinvoke_m jmkI_m jtyA_m ifp_nb
attribute [local go_sem ←] List.map_take List.map_drop

structure RnS where
  G : Heap
  b : Nat
  c : Nat
  q : Nat
  p : List It
  l : List (Int × Int)
  i : Nat
structure RnP (o : List (Int × Int × Int)) (s : RnS) : Prop where
  V : Tv s.G s.b s.c s.q s.p s.l
  hl : s.l.length ≤ s.i
  hi : s.i ≤ o.length
  h8 : s.i ≤ 80
theorem setF_len (l : List (Int × Int)) (key tick : Int) : (setF l key tick).length ≤ l.length + 1 := by
  by_cases hb : bdF key tick
  · unfold setF
    rw [if_pos hb]
    omega
  · have := (set_pm l key tick hb).length_eq
    have := wtoF_len l key
    simp only [List.length_cons] at *
    omega
theorem resF_len (l : List (Int × Int)) (tick : Int) : (resF l tick).length ≤ l.length := (List.dropWhile_sublist _).length_le
theorem dueF_len (l : List (Int × Int)) (tick : Int) : (dueF l tick).length ≤ l.length := (List.takeWhile_sublist _).length_le
end Go.Proofs.Ytmafdnbdaaedgaa
