/- SHA-256 over lists of words; how it is reckoned at once. No condition. -/
import Derived.Test.YtckppkimjiifpaaAi
set_option linter.unusedSectionVars false
set_option linter.unusedVariables false
set_option linter.unusedSimpArgs false
set_option linter.deprecated false
namespace Go.Sha
def rr (x : UInt32) (j : Nat) : UInt32 := (x >>> UInt32.ofNat j) ||| (x <<< UInt32.ofNat (32 - j))
def K256 : List UInt32 := [
  1116352408, 1899447441, 3049323471, 3921009573, 961987163, 1508970993, 2453635748, 2870763221,
  3624381080, 310598401, 607225278, 1426881987, 1925078388, 2162078206, 2614888103, 3248222580,
  3835390401, 4022224774, 264347078, 604807628, 770255983, 1249150122, 1555081692, 1996064986,
  2554220882, 2821834349, 2952996808, 3210313671, 3336571891, 3584528711, 113926993, 338241895,
  666307205, 773529912, 1294757372, 1396182291, 1695183700, 1986661051, 2177026350, 2456956037,
  2730485921, 2820302411, 3259730800, 3345764771, 3516065817, 3600352804, 4094571909, 275423344,
  430227734, 506948616, 659060556, 883997877, 958139571, 1322822218, 1537002063, 1747873779,
  1955562222, 2024104815, 2227730452, 2361852424, 2428436474, 2756734187, 3204031479, 3329325298]
/-- A word out of four bytes. -/
def wd (b : List UInt8) (i : Nat) : UInt32 := UInt32.ofNat ((b.getD (4 * i) 0).toNat * 16777216 + (b.getD (4 * i + 1) 0).toNat * 65536 + (b.getD (4 * i + 2) 0).toNat * 256 + (b.getD (4 * i + 3) 0).toNat)
def lowS (x : UInt32) : UInt32 := rr x 7 ^^^ rr x 18 ^^^ x >>> 3
def highS (y : UInt32) : UInt32 := rr y 17 ^^^ rr y 19 ^^^ y >>> 10
/-- The next word. -/
def nextW (b : List UInt8) (l : List UInt32) (t : Nat) : UInt32 := if t < 16 then wd b t else l.getD (t - 16) 0 + lowS (l.getD (t - 15) 0) + l.getD (t - 7) 0 + highS (l.getD (t - 2) 0)
/-- The first t words of a block. -/
def sch (b : List UInt8) : Nat → List UInt32
  | 0 => []
  | t + 1 => sch b t ++ [nextW b (sch b t) t]
structure St where
  (a c d e f g h k : UInt32)
  deriving DecidableEq
def big1 (f : UInt32) : UInt32 := rr f 6 ^^^ rr f 11 ^^^ rr f 25
def big0 (a : UInt32) : UInt32 := rr a 2 ^^^ rr a 13 ^^^ rr a 22
def ch (f g h : UInt32) : UInt32 := f &&& g ^^^ ~~~f &&& h
def maj (a c d : UInt32) : UInt32 := a &&& c ^^^ a &&& d ^^^ c &&& d
def rnd (s : St) (k w : UInt32) : St :=
  let one := s.k + big1 s.f + ch s.f s.g s.h + k + w
  ⟨one + big0 s.a + maj s.a s.c s.d, s.a, s.c, s.d, s.e + one, s.f, s.g, s.h⟩
/-- i rounds. -/
def rndsK (w q : List UInt32) (s : St) : Nat → St
  | 0 => s
  | i + 1 => rnd (rndsK w q s i) (q.getD i 0) (w.getD i 0)
abbrev rnds (w : List UInt32) (s : St) (i : Nat) : St := rndsK w K256 s i
def addS (s v : St) : St := ⟨s.a + v.a, s.c + v.c, s.d + v.d, s.e + v.e, s.f + v.f, s.g + v.g, s.h + v.h, s.k + v.k⟩
def stp (s : St) (b : List UInt8) : St := addS s (rnds (sch b 64) s 64)
def beg : St := ⟨1779033703, 3144134277, 1013904242, 2773480762, 1359893119, 2600822924, 528734635, 1541459225⟩
/-- A word's bytes. -/
def wb (x : UInt32) : List UInt8 := [UInt8.ofNat (x.toNat / 16777216), UInt8.ofNat (x.toNat / 65536), UInt8.ofNat (x.toNat / 256), UInt8.ofNat x.toNat]
def St.l (s : St) : List UInt32 := [s.a, s.c, s.d, s.e, s.f, s.g, s.h, s.k]
def be8 (n : Nat) : List UInt8 := (List.range 8).map fun p => UInt8.ofNat (n / 256 ^ (7 - p))
/-- What stands behind a text of n bytes. -/
def beh (n : Nat) : List UInt8 := 128 :: List.replicate ((119 - n % 64) % 64) 0 ++ be8 (8 * n)
def blocks (s : St) (all : List UInt8) : Nat → St
  | 0 => s
  | n + 1 => blocks (stp s (all.take 64)) (all.drop 64) n
def sum (b : List UInt8) : List UInt8 := ((blocks beg (b ++ beh b.length) ((b ++ beh b.length).length / 64)).l.map wb).flatten
/-! the same, reckoned at once -/
def force {α : Type} (n : Nat) (f : Nat → α) : α := match n with
  | 0 => f 0
  | m + 1 => f (m + 1)
theorem force_eq {α : Type} (n : Nat) (f : Nat → α) : force n f = f n := by cases n <;> rfl
def forceU {α : Type} (x : UInt32) (f : UInt32 → α) : α := force x.toNat fun n => f (UInt32.ofNat n)
theorem forceU_eq {α : Type} (x : UInt32) (f : UInt32 → α) : forceU x f = f x := by
  unfold forceU
  rw [force_eq, UInt32.ofNat_toNat]
/-- n words more, the last ones ahead. -/
def schR (b : List UInt8) : Nat → Nat → List UInt32 → List UInt32
  | 0, _, r => r
  | n + 1, t, r => forceU (if t < 16 then wd b t else r.getD 15 0 + lowS (r.getD 14 0) + r.getD 6 0 + highS (r.getD 1 0)) fun x => schR b n (t + 1) (x :: r)
def rndR : List UInt32 → List UInt32 → UInt32 → UInt32 → UInt32 → UInt32 → UInt32 → UInt32 → UInt32 → UInt32 → St
  | w :: ws, q :: qs, a, c, d, e, f, g, h, k => forceU (k + big1 f + ch f g h + q + w) fun one => forceU (one + big0 a + maj a c d) fun x => forceU (e + one) fun y => rndR ws qs x a c d y f g h
  | _, _, a, c, d, e, f, g, h, k => ⟨a, c, d, e, f, g, h, k⟩
def addR (s v : St) : St := forceU (s.a + v.a) fun a => forceU (s.c + v.c) fun c => forceU (s.d + v.d) fun d => forceU (s.e + v.e) fun e => forceU (s.f + v.f) fun f => forceU (s.g + v.g) fun g => forceU (s.h + v.h) fun h => forceU (s.k + v.k) fun k => ⟨a, c, d, e, f, g, h, k⟩
theorem addR_eq (s v : St) : addR s v = addS s v := by unfold addR addS; simp only [forceU_eq]
def stpR (s : St) (b : List UInt8) : St := addR s (rndR (schR b 64 0 []).reverse K256 s.a s.c s.d s.e s.f s.g s.h s.k)
def blocksR : Nat → St → List UInt8 → St
  | 0, s, _ => s
  | n + 1, s, all => blocksR n (stpR s (all.take 64)) (all.drop 64)
def sumR (b : List UInt8) : List UInt8 := ((blocksR ((b ++ beh b.length).length / 64) beg (b ++ beh b.length)).l.map wb).flatten
theorem sch_len (b : List UInt8) : ∀ t, (sch b t).length = t
  | 0 => rfl
  | t + 1 => by unfold sch; simp [sch_len b t]
theorem getD_rev {l : List UInt32} {i : Nat} (h : i < l.length) : l.reverse.getD i 0 = l.getD (l.length - 1 - i) 0 := by
  rw [List.getD_eq_getElem?_getD, List.getD_eq_getElem?_getD, List.getElem?_reverse h]
theorem schR_eq (b : List UInt8) : ∀ n t, schR b n t (sch b t).reverse = (sch b (t + n)).reverse
  | 0, t => rfl
  | n + 1, t => by
    unfold schR
    rw [forceU_eq]
    have h := sch_len b t
    have e : (if t < 16 then wd b t else (sch b t).reverse.getD 15 0 + lowS ((sch b t).reverse.getD 14 0) + (sch b t).reverse.getD 6 0 + highS ((sch b t).reverse.getD 1 0)) = nextW b (sch b t) t := by
      unfold nextW
      split
      · rfl
      · rw [getD_rev (by omega), getD_rev (by omega), getD_rev (by omega), getD_rev (by omega), h]
        rw [show t - 1 - 15 = t - 16 by omega, show t - 1 - 14 = t - 15 by omega, show t - 1 - 6 = t - 7 by omega, show t - 1 - 1 = t - 2 by omega]
    rw [e]
    have e2 : nextW b (sch b t) t :: (sch b t).reverse = (sch b (t + 1)).reverse := by
      show _ = (sch b t ++ [nextW b (sch b t) t]).reverse
      simp
    rw [e2, schR_eq b n (t + 1), show t + 1 + n = t + (n + 1) by omega]
theorem rndR_eq (w q : List UInt32) (s : St) : ∀ n i, n + i = w.length → n + i = q.length →
    rndR (w.drop i) (q.drop i) (rndsK w q s i).a (rndsK w q s i).c (rndsK w q s i).d (rndsK w q s i).e (rndsK w q s i).f (rndsK w q s i).g (rndsK w q s i).h (rndsK w q s i).k = rndsK w q s (n + i)
  | 0, i, h1, h2 => by
    rw [List.drop_eq_nil_of_le (by omega), Nat.zero_add]
    unfold rndR
    rfl
  | n + 1, i, h1, h2 => by
    rw [List.drop_eq_getElem_cons (i := i) (by omega), List.drop_eq_getElem_cons (l := q) (i := i) (by omega)]
    unfold rndR
    simp only [forceU_eq]
    have ih := rndR_eq w q s n (i + 1) (by omega) (by omega)
    rw [show n + 1 + i = n + (i + 1) by omega, ← ih]
    have e1 : w.getD i 0 = w[i] := by simp [List.getD_eq_getElem?_getD, List.getElem?_eq_getElem (show i < w.length by omega)]
    have e2 : q.getD i 0 = q[i] := by simp [List.getD_eq_getElem?_getD, List.getElem?_eq_getElem (show i < q.length by omega)]
    have e3 : rndsK w q s (i + 1) = rnd (rndsK w q s i) q[i] w[i] := by rw [← e1, ← e2]; rfl
    rw [e3]
    rfl
theorem stpR_eq (s : St) (b : List UInt8) : stpR s b = stp s b := by
  have h1 : ∀ n, schR b n 0 [] = (sch b n).reverse := fun n => by
    have := schR_eq b n 0
    rw [Nat.zero_add] at this
    exact this
  have h2 : ∀ (w q : List UInt32) n, n = w.length → n = q.length → rndR w q s.a s.c s.d s.e s.f s.g s.h s.k = rndsK w q s n := fun w q n h1 h2 => by
    have := rndR_eq w q s n 0 h1 h2
    rw [List.drop_zero, List.drop_zero, Nat.add_zero] at this
    exact this
  have h3 : rndR (schR b 64 0 []).reverse K256 s.a s.c s.d s.e s.f s.g s.h s.k = rnds (sch b 64) s 64 := by
    rw [h1, List.reverse_reverse]
    exact h2 (sch b 64) K256 64 (by rw [sch_len]) rfl
  show addR s _ = addS s _
  rw [h3, addR_eq]
theorem blocksR_eq : ∀ n s all, blocksR n s all = blocks s all n
  | 0, _, _ => rfl
  | n + 1, s, all => by unfold blocksR blocks; rw [blocksR_eq n, stpR_eq]
theorem sumR_eq (b : List UInt8) : sum b = sumR b := by unfold sumR sum; rw [blocksR_eq]
/-! two ways to say it -/
theorem u32_ext {x y : UInt32} (h : ∀ i, x.toBitVec.getLsbD i = y.toBitVec.getLsbD i) : x = y := UInt32.eq_of_toBitVec_eq (BitVec.eq_of_getLsbD_eq fun i _ => h i)
theorem ch_or (f g h : UInt32) : f &&& g ||| ~~~f &&& h = ch f g h := by
  unfold ch
  apply u32_ext
  intro i
  simp only [UInt32.toBitVec_or, UInt32.toBitVec_and, UInt32.toBitVec_not, UInt32.toBitVec_xor, BitVec.getLsbD_or, BitVec.getLsbD_and, BitVec.getLsbD_xor, BitVec.getLsbD_not]
  cases f.toBitVec.getLsbD i <;> cases g.toBitVec.getLsbD i <;> cases h.toBitVec.getLsbD i <;> simp
theorem maj_or (a c d : UInt32) : a &&& c ||| a &&& d ||| c &&& d = maj a c d := by
  unfold maj
  apply u32_ext
  intro i
  simp only [UInt32.toBitVec_or, UInt32.toBitVec_and, UInt32.toBitVec_xor, BitVec.getLsbD_or, BitVec.getLsbD_and, BitVec.getLsbD_xor]
  cases a.toBitVec.getLsbD i <;> cases c.toBitVec.getLsbD i <;> cases d.toBitVec.getLsbD i <;> rfl
theorem or_comm32 (x y : UInt32) : x ||| y = y ||| x := UInt32.or_comm x y
end Go.Sha
