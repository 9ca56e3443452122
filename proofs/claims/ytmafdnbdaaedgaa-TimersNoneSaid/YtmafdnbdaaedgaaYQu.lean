/- Timers: another one with the same timers, by the machine. No condition. -/
import Derived.Test.YtmafdnbdaaedgaaYQt
import Derived.Test.YtmafdnbdaaedgaaYb1
import Derived.Test.YtmafdnbdaaedgaaYgs
set_option linter.unusedSectionVars false
set_option linter.unusedVariables false
set_option linter.unusedSimpArgs false
set_option linter.deprecated false
namespace Go.Proofs.Ytmafdnbdaaedgaa
open Go.RowKit Go.Cx Go.Am Go.Sort
set_option maxRecDepth 8000
set_option maxHeartbeats 2000000
attribute [local irreducible] ACalls jcall jsame jex jexg jexh jguard jconv jload jpart jstore jbin jslice jidxA jidx jfield jfieldA jbuild jbuildS jmake jappend jlen jpick jres jcnd jcopy jcap jborn jdraw jops jop jstr jstrc jlive jend jlenM jmmake jlook jmput jmdel jrange jnext jentry jlk jmp2 jmd2 jlm jrg jnx jny jen jeo jinvoke jmkI jtyA
attribute [local go_sem] reduceIte Nat.reduceEqDiff Nat.reduceAdd Nat.reduceMul Nat.reduceLT Nat.reduceLeDiff Nat.reduceSub Int.reduceLT Int.reduceLE Int.reduceToNat Int.reduceNeg Int.reduceAdd Int.reduceSub UInt8.reduceToNat Int.reduceEq reduceCtorEq Int.reducePow Int.reduceMul Nat.reducePow E0
attribute [local go_sem ↓] reduceIte
attribute [local go_sem high] chunks_bvs
attribute [local go_sem] jop_makeMap jop_lookup jop_mapUpdate jop_delete jop_range jop_next jop_entry jmmake_m jlook_m jlk_mI jmput_m jmdel_m jmd2_mB jlm_mB jrange_m jnext_m jnx_m jentry_m jen_m jeo_mS bmap_mI bmap_mSI mB_nil vI nbB_o nbB_r nbB_i bmap_o bmap_r bmap_i gfB_o gfB_r gfB_i jop_invoke jop_makeInterface jop_typeAssert jinvoke_m jmkI_m jtyA_m ifp_nb
attribute [local go_sem ←] List.map_take List.map_drop

structure FkS where
  G : Heap
  q : Nat
  m : List (Int × Nat)
  p : List It
  Z : List (List AV)
  i : Nat
structure FkP (H : Heap) (l : List (Int × Int)) (s : FkS) : Prop where
  gr : Gr H s.G
  tz : Tz s.G (H.length + 1) H.length s.q s.m s.p s.Z
  own : ∀ k, Ow (H.length + 1) H.length s.q s.p k → H.length ≤ k
  hi : s.i ≤ l.length
  pm : (l.take s.i).Perm (kt s.p)
/-- Keys and ticks that Set takes. -/
def rgT (l : List (Int × Int)) : Prop := ∀ d ∈ l, (0 ≤ d.1 ∧ d.1 ≤ 1099511627776) ∧ 1 ≤ d.2 ∧ d.2 ≤ 1099511627776
section
variable {H : Heap} {b c q : Nat} {m : List (Int × Nat)} {p : List It} {Z : List (List AV)}
/-- One that has just been made. -/
theorem new_tz {H1 : Heap} (h0 : H1[H.length]? = some (some (mB pv []))) (h1 : H1[H.length + 1]? = some (some (.obj [.v (.slice none 0 0), .mp H.length]))) : Tz H1 (H.length + 1) H.length (H.length + 1) [] [] [] :=
  ⟨.inr ⟨rfl, rfl, h1⟩, fun k _ hk => by simp at hk, h0, ⟨.refl _, by simp⟩⟩
end
end Go.Proofs.Ytmafdnbdaaedgaa
