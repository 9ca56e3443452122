/- An abstract machine: what Go's values, memory and code do, told over plain lists; and that the model does no other. No condition. -/
import Derived.Test.YtckppkimjiifpaaLib
import Derived.Lib.FrozenHead
import Derived.Laws.CopyRow
import Derived.Maps.Range
set_option linter.unusedSectionVars false
set_option linter.unusedVariables false
set_option linter.unusedSimpArgs false
set_option linter.deprecated false
namespace Go.Am
open Go.RowKit Go.Cx

/-- A value, as the proofs see it. -/
inductive AV where
  | any
  | v (x : Value)
  | sl (sz : Nat) (es : List (List AV))
  | mt
  | hs (r sz off n : Nat)
  | os (r sz off n : Nat)
  | ptr (r off : Nat)
  | rp (r sz i off : Nat)
  | cptr (cs : List AV)
  | agg (cs : List AV)
  | tup (vs : List AV)
  | fn (f : FuncId) (first caps : List AV)
  | mp (r : Nat)
  | ifp (t : TypeId) (r off : Nat)
  deriving Inhabited

/-- A block of memory that the call made. A map: keys, values, and where they are told the entries' stamps and the clock. A walk over a map: the map, its stamps and clock, which entries have been met. -/
inductive Blk where
  | obj (cs : List AV)
  | row (hot : Bool) (sz : Nat) (es : List (List AV))
  | map (ks : List Int) (vs : List AV) (st : Option (List Nat × Nat))
  | iter (m : Nat) (bs : List Nat) (c : Nat) (seen : List Nat)

abbrev Heap := List (Option Blk)

def Blk.isHot : Blk → Bool
  | .row h _ _ => h
  | _ => true

/-- Where the blocks lie; which blocks nobody writes any more. -/
structure Mem where
  blk : Nat → Option Nat
  bsz : Nat → Nat
  G : Nat → Prop

mutual
/-- The value u is what a says; n: so many names there are. -/
def VR (M : Mem) (n : Nat) (w : World) : AV → Value → Prop
  | .any, _ => True
  | .v x, u => u = x
  | .sl sz es, u => ∃ ao cap us, u = .slice ao es.length cap ∧ VRss M n w sz es us ∧ RowAt M.G w ao es.length cap sz us
  | .mt, u => ∃ ao, u = .slice ao 0 0
  | .hs r sz off k, u => r < n ∧ ∃ ao cap, u = .slice ao k cap ∧ k ≤ cap ∧ cap ≤ maxLen ∧ (ao = none → cap = 0) ∧
      ((k = 0 ∧ off ≠ 0) ∨ (k = 0 ∧ cap = 0) ∨ ∃ b, M.blk r = some b ∧ ao = some ⟨b, off * sz, none⟩ ∧ (off + cap) * sz ≤ M.bsz r)
  | .os r _ off k, u => r < n ∧ ∃ ao cap, u = .slice ao k cap ∧ k ≤ cap ∧ cap ≤ maxLen ∧ (ao = none → cap = 0) ∧
      (k = 0 ∨ ∃ b, M.blk r = some b ∧ ao = some ⟨b, off, none⟩)
  | .ptr r off, u => r < n ∧ ∃ b, M.blk r = some b ∧ u = .pointer (some ⟨b, off, none⟩)
  | .rp r sz i off, u => r < n ∧ ∃ b, M.blk r = some b ∧ u = .pointer (some ⟨b, i * sz + off, none⟩)
  | .cptr cs, u => ∃ b off us, u = .pointer (some ⟨b, off, none⟩) ∧ M.G b ∧ VRs M n w cs us ∧ ∀ j x, us[j]? = some x → w.cell? ⟨b, off + j, none⟩ = some x
  | .agg cs, u => ∃ us, u = .agg us.toArray ∧ VRs M n w cs us
  | .tup vs, u => ∃ us, u = .tuple us.toArray ∧ VRt M n w vs us
  | .fn f first caps, u => ∃ us ks, u = .func (.func f) us.toArray ks.toArray ∧ VRt M n w first us ∧ VRt M n w caps ks
  | .mp r, u => r < n ∧ ∃ b, M.blk r = some b ∧ u = .map (some b)
  | .ifp t r off, u => r < n ∧ ∃ b, M.blk r = some b ∧ u = .iface t (.pointer (some ⟨b, off, none⟩))
/-- Cells. -/
def VRs (M : Mem) (n : Nat) (w : World) : List AV → List Value → Prop
  | [], us => us = []
  | a :: as, us => ∃ u r, us = u :: r ∧ u.oneCell' = true ∧ VR M n w a u ∧ VRs M n w as r
/-- Values. -/
def VRt (M : Mem) (n : Nat) (w : World) : List AV → List Value → Prop
  | [], us => us = []
  | a :: as, us => ∃ u r, us = u :: r ∧ VR M n w a u ∧ VRt M n w as r
/-- Elements of sz cells each. -/
def VRss (M : Mem) (n : Nat) (w : World) (sz : Nat) : List (List AV) → List Value → Prop
  | [], us => us = []
  | e :: es, us => ∃ c r, us = c ++ r ∧ c.length = sz ∧ VRs M n w e c ∧ VRss M n w sz es r
end

/-- What holds of a block. -/
def BR (M : Mem) (n : Nat) (w : World) (r : Nat) : Blk → Prop
  | .obj cs => ∃ b cur t fr, M.blk r = some b ∧ w.heap[b]? = some (.cells cur t fr) ∧ (fr = (0, 0) ∨ cur.size ≤ fr.1) ∧ cur.size = M.bsz r ∧ VRs M n w cs cur.toList
  | .row hot sz es => (M.blk r = none ∧ es = []) ∨
      ∃ b cur e fr us, M.blk r = some b ∧ w.heap[b]? = some (.cells cur e fr) ∧ (fr = (0, 0) ∨ cur.size ≤ fr.1) ∧ cur.size = M.bsz r ∧ VRss M n w sz es us ∧ cur.toList.take us.length = us ∧ (hot = false → M.G b)
  | .map ks vs st => ∃ b es c l, M.blk r = some b ∧ w.heap[b]? = some (.map es c) ∧ MapKept.Stamped es c ∧ List.Perm l es.toList ∧ l.map (·.key) = ks.map (.int .i64) ∧ VRt M n w vs (l.map (·.val)) ∧
      ∀ bs c', st = some (bs, c') → l.map (·.born) = bs ∧ c' = c
  | .iter m bs c seen => m < n ∧ ∃ b bm, M.blk r = some b ∧ M.blk m = some bm ∧ (∀ i ∈ seen, i < bs.length) ∧ w.heap[b]? = some (.mapIter (some bm) c (seen.map fun i => bs.getD i 0).toArray c)

/-- The machine's memory is what the heap says. -/
structure Gam (gl : Nat → AV) (M : Mem) (w : World) (H : Heap) : Prop where
  glob : ∀ g, VR M 0 w (gl g) (.pointer (some ⟨g, 0, none⟩))
  inG : ∀ b, M.G b → b < w.heap.size
  blks : ∀ r B, H[r]? = some (some B) → BR M H.length w r B
  sep : ∀ r B b, H[r]? = some (some B) → B.isHot = true → M.blk r = some b → ¬ M.G b
  far : ∀ r r' B B' b, H[r]? = some (some B) → H[r']? = some (some B') → B.isHot = true → r' ≠ r → M.blk r = some b → M.blk r' ≠ some b

/-- b is a block that the heap may write. -/
def Hot (M : Mem) (H : Heap) (b : Nat) : Prop := ∃ r B, H[r]? = some (some B) ∧ B.isHot = true ∧ M.blk r = some b

/-- From a world to a later one: nothing but the heap's hot blocks has been written. -/
structure Ext (M : Mem) (w : World) (H : Heap) (M' : Mem) (w' : World) (H' : Heap) : Prop where
  os : w'.os = w.os
  tape : w'.tape = w.tape
  output : w'.output = w.output
  size : w.heap.size ≤ w'.heap.size
  G : ∀ b, M.G b → M'.G b
  gnew : ∀ b, M'.G b → M.G b ∨ Hot M H b ∨ w.heap.size ≤ b
  block : ∀ b, b < w.heap.size → ¬ Hot M H b → w'.heap[b]? = w.heap[b]?
  len : H.length ≤ H'.length
  blk : ∀ r, r < H.length → M'.blk r = M.blk r
  bsz : ∀ r, r < H.length → M'.bsz r = M.bsz r
  hot : ∀ b, Hot M' H' b → Hot M H b ∨ w.heap.size ≤ b

theorem Ext.refl (M : Mem) (w : World) (H : Heap) : Ext M w H M w H :=
  ⟨rfl, rfl, rfl, Nat.le_refl _, fun _ h => h, fun _ h => .inl h, fun _ _ _ => rfl, Nat.le_refl _, fun _ _ => rfl, fun _ _ => rfl, fun _ h => .inl h⟩

theorem Ext.trans {M M' M'' : Mem} {w w' w'' : World} {H H' H'' : Heap} (h : Ext M w H M' w' H') (k : Ext M' w' H' M'' w'' H'') : Ext M w H M'' w'' H'' where
  os := k.os.trans h.os
  tape := k.tape.trans h.tape
  output := k.output.trans h.output
  size := Nat.le_trans h.size k.size
  G b hb := k.G b (h.G b hb)
  gnew b hb := by
    rcases k.gnew b hb with h1 | h1 | h1
    · exact h.gnew b h1
    · rcases h.hot b h1 with h2 | h2
      · exact .inr (.inl h2)
      · exact .inr (.inr h2)
    · exact .inr (.inr (Nat.le_trans h.size h1))
  block b hb hn := by
    rw [k.block b (Nat.lt_of_lt_of_le hb h.size) (fun hh => ?_), h.block b hb hn]
    rcases h.hot b hh with h1 | h1
    · exact hn h1
    · omega
  len := Nat.le_trans h.len k.len
  blk r hr := (k.blk r (Nat.lt_of_lt_of_le hr h.len)).trans (h.blk r hr)
  bsz r hr := (k.bsz r (Nat.lt_of_lt_of_le hr h.len)).trans (h.bsz r hr)
  hot b hb := by
    rcases k.hot b hb with h1 | h1
    · exact h.hot b h1
    · exact .inr (Nat.le_trans h.size h1)

section
variable {M M' : Mem} {n n' : Nat} {w w' : World}

mutual
theorem VR.mono (hG : ∀ b, M.G b → M'.G b) (hw : ∀ b, M.G b → w'.heap[b]? = w.heap[b]?) (hn : n ≤ n') (hb : ∀ r, r < n → M'.blk r = M.blk r ∧ M'.bsz r = M.bsz r) :
    ∀ {a : AV} {u : Value}, VR M n w a u → VR M' n' w' a u
  | .any, _, _ => trivial
  | .v _, _, h => h
  | .sl sz es, u, h => by
    unfold VR at h ⊢
    obtain ⟨ao, cap, us, h1, h2, h3⟩ := h
    exact ⟨ao, cap, us, h1, VRss.mono hG hw hn hb h2, h3.mono hG hw⟩
  | .mt, _, h => by unfold VR at h ⊢; exact h
  | .hs r sz off k, u, h => by
    unfold VR at h ⊢
    obtain ⟨h0, ao, cap, h1, h2, h3, h4⟩ := h
    obtain ⟨e1, e2⟩ := hb r h0
    refine ⟨Nat.lt_of_lt_of_le h0 hn, ao, cap, h1, h2, h3, ?_⟩
    rw [e1, e2]
    exact h4
  | .os r sz off k, u, h => by
    unfold VR at h ⊢
    obtain ⟨h0, ao, cap, h1, h2, h3, h4⟩ := h
    obtain ⟨e1, e2⟩ := hb r h0
    refine ⟨Nat.lt_of_lt_of_le h0 hn, ao, cap, h1, h2, h3, ?_⟩
    rw [e1]
    exact h4
  | .ptr r off, u, h => by
    unfold VR at h ⊢
    rw [(hb r h.1).1]
    exact ⟨Nat.lt_of_lt_of_le h.1 hn, h.2⟩
  | .rp r sz i off, u, h => by
    unfold VR at h ⊢
    rw [(hb r h.1).1]
    exact ⟨Nat.lt_of_lt_of_le h.1 hn, h.2⟩
  | .cptr cs, u, h => by
    unfold VR at h ⊢
    obtain ⟨b, off, us, h1, h2, h3, h4⟩ := h
    refine ⟨b, off, us, h1, hG b h2, VRs.mono hG hw hn hb h3, fun j x hj => ?_⟩
    rw [World.cell?_of_block (w := w) (hw b h2)]
    exact h4 j x hj
  | .agg cs, u, h => by
    unfold VR at h ⊢
    obtain ⟨us, h1, h2⟩ := h
    exact ⟨us, h1, VRs.mono hG hw hn hb h2⟩
  | .tup vs, u, h => by
    unfold VR at h ⊢
    obtain ⟨us, h1, h2⟩ := h
    exact ⟨us, h1, VRt.mono hG hw hn hb h2⟩
  | .fn f first caps, u, h => by
    unfold VR at h ⊢
    obtain ⟨us, ks, h1, h2, h3⟩ := h
    exact ⟨us, ks, h1, VRt.mono hG hw hn hb h2, VRt.mono hG hw hn hb h3⟩
  | .mp r, u, h => by
    unfold VR at h ⊢
    rw [(hb r h.1).1]
    exact ⟨Nat.lt_of_lt_of_le h.1 hn, h.2⟩
  | .ifp t r off, u, h => by
    unfold VR at h ⊢
    rw [(hb r h.1).1]
    exact ⟨Nat.lt_of_lt_of_le h.1 hn, h.2⟩
theorem VRs.mono (hG : ∀ b, M.G b → M'.G b) (hw : ∀ b, M.G b → w'.heap[b]? = w.heap[b]?) (hn : n ≤ n') (hb : ∀ r, r < n → M'.blk r = M.blk r ∧ M'.bsz r = M.bsz r) :
    ∀ {as : List AV} {us : List Value}, VRs M n w as us → VRs M' n' w' as us
  | [], _, h => by unfold VRs at h ⊢; exact h
  | a :: as, us, h => by
    unfold VRs at h ⊢
    obtain ⟨u, r, h1, h2, h3, h4⟩ := h
    exact ⟨u, r, h1, h2, VR.mono hG hw hn hb h3, VRs.mono hG hw hn hb h4⟩
theorem VRt.mono (hG : ∀ b, M.G b → M'.G b) (hw : ∀ b, M.G b → w'.heap[b]? = w.heap[b]?) (hn : n ≤ n') (hb : ∀ r, r < n → M'.blk r = M.blk r ∧ M'.bsz r = M.bsz r) :
    ∀ {as : List AV} {us : List Value}, VRt M n w as us → VRt M' n' w' as us
  | [], _, h => by unfold VRt at h ⊢; exact h
  | a :: as, us, h => by
    unfold VRt at h ⊢
    obtain ⟨u, r, h1, h3, h4⟩ := h
    exact ⟨u, r, h1, VR.mono hG hw hn hb h3, VRt.mono hG hw hn hb h4⟩
theorem VRss.mono (hG : ∀ b, M.G b → M'.G b) (hw : ∀ b, M.G b → w'.heap[b]? = w.heap[b]?) (hn : n ≤ n') (hb : ∀ r, r < n → M'.blk r = M.blk r ∧ M'.bsz r = M.bsz r) {sz : Nat} :
    ∀ {es : List (List AV)} {us : List Value}, VRss M n w sz es us → VRss M' n' w' sz es us
  | [], _, h => by unfold VRss at h ⊢; exact h
  | e :: es, us, h => by
    unfold VRss at h ⊢
    obtain ⟨c, r, h1, h2, h3, h4⟩ := h
    exact ⟨c, r, h1, h2, VRs.mono hG hw hn hb h3, VRss.mono hG hw hn hb h4⟩
end
end

section
variable {M : Mem} {n : Nat} {w : World}
theorem VRs.len : ∀ {as : List AV} {us : List Value}, VRs M n w as us → us.length = as.length
  | [], _, h => by unfold VRs at h; subst h; rfl
  | a :: as, us, h => by
    unfold VRs at h
    obtain ⟨u, r, rfl, _, _, h4⟩ := h
    simp [VRs.len h4]
theorem VRs.one : ∀ {as : List AV} {us : List Value}, VRs M n w as us → ∀ u ∈ us, u.oneCell' = true
  | [], _, h => by unfold VRs at h; subst h; simp
  | a :: as, us, h => by
    unfold VRs at h
    obtain ⟨u, r, rfl, h2, _, h4⟩ := h
    intro x hx
    rcases List.mem_cons.1 hx with rfl | hx
    · exact h2
    · exact VRs.one h4 x hx
theorem VRs.append : ∀ {as bs : List AV} {us vs : List Value}, VRs M n w as us → VRs M n w bs vs → VRs M n w (as ++ bs) (us ++ vs)
  | [], bs, us, vs, h, k => by unfold VRs at h; subst h; exact k
  | a :: as, bs, us, vs, h, k => by
    unfold VRs at h
    obtain ⟨u, r, rfl, h2, h3, h4⟩ := h
    simp only [List.cons_append]
    unfold VRs
    exact ⟨u, r ++ vs, rfl, h2, h3, VRs.append h4 k⟩
theorem VRs.drop : ∀ (k : Nat) {as : List AV} {us : List Value}, VRs M n w as us → VRs M n w (as.drop k) (us.drop k)
  | 0, _, _, h => h
  | k + 1, [], us, h => by unfold VRs at h; subst h; simp [VRs]
  | k + 1, a :: as, us, h => by
    unfold VRs at h
    obtain ⟨u, r, rfl, h2, h3, h4⟩ := h
    exact VRs.drop k h4
theorem VRs.take : ∀ (k : Nat) {as : List AV} {us : List Value}, VRs M n w as us → VRs M n w (as.take k) (us.take k)
  | 0, _, _, h => by simp [VRs]
  | k + 1, [], us, h => by unfold VRs at h; subst h; simp [VRs]
  | k + 1, a :: as, us, h => by
    unfold VRs at h
    obtain ⟨u, r, rfl, h2, h3, h4⟩ := h
    simp only [List.take_succ_cons]
    unfold VRs
    exact ⟨u, _, rfl, h2, h3, VRs.take k h4⟩
theorem VRs.get : ∀ {k : Nat} {as : List AV} {us : List Value} {a : AV}, VRs M n w as us → as[k]? = some a → ∃ u, us[k]? = some u ∧ u.oneCell' = true ∧ VR M n w a u
  | k, [], us, a, h, e => by simp at e
  | 0, b :: as, us, a, h, e => by
    unfold VRs at h
    obtain ⟨u, r, rfl, h2, h3, h4⟩ := h
    simp at e
    subst e
    exact ⟨u, rfl, h2, h3⟩
  | k + 1, b :: as, us, a, h, e => by
    unfold VRs at h
    obtain ⟨u, r, rfl, h2, h3, h4⟩ := h
    exact VRs.get (k := k) h4 (by simpa using e)
theorem VRt.get : ∀ {k : Nat} {as : List AV} {us : List Value} {a : AV}, VRt M n w as us → as[k]? = some a → ∃ u, us[k]? = some u ∧ VR M n w a u
  | k, [], us, a, h, e => by simp at e
  | 0, b :: as, us, a, h, e => by
    unfold VRt at h
    obtain ⟨u, r, rfl, h3, h4⟩ := h
    simp at e
    subst e
    exact ⟨u, rfl, h3⟩
  | k + 1, b :: as, us, a, h, e => by
    unfold VRt at h
    obtain ⟨u, r, rfl, h3, h4⟩ := h
    exact VRt.get (k := k) h4 (by simpa using e)
theorem VRt.len : ∀ {as : List AV} {us : List Value}, VRt M n w as us → us.length = as.length
  | [], _, h => by unfold VRt at h; subst h; rfl
  | a :: as, us, h => by
    unfold VRt at h
    obtain ⟨u, r, rfl, _, h4⟩ := h
    simp [VRt.len h4]
theorem VRt.append : ∀ {as bs : List AV} {us vs : List Value}, VRt M n w as us → VRt M n w bs vs → VRt M n w (as ++ bs) (us ++ vs)
  | [], bs, us, vs, h, k => by unfold VRt at h; subst h; exact k
  | a :: as, bs, us, vs, h, k => by
    unfold VRt at h
    obtain ⟨u, r, rfl, h3, h4⟩ := h
    simp only [List.cons_append]
    unfold VRt
    exact ⟨u, r ++ vs, rfl, h3, VRt.append h4 k⟩
theorem VRss.len {sz : Nat} : ∀ {es : List (List AV)} {us : List Value}, VRss M n w sz es us → us.length = es.length * sz
  | [], _, h => by unfold VRss at h; subst h; simp
  | a :: as, us, h => by
    unfold VRss at h
    obtain ⟨c, r, rfl, h2, _, h4⟩ := h
    rw [List.length_append, VRss.len h4, h2, List.length_cons, Nat.add_mul, Nat.one_mul, Nat.add_comm]
theorem VRss.one {sz : Nat} : ∀ {es : List (List AV)} {us : List Value}, VRss M n w sz es us → ∀ u ∈ us, u.oneCell' = true
  | [], _, h => by unfold VRss at h; subst h; simp
  | a :: as, us, h => by
    unfold VRss at h
    obtain ⟨c, r, rfl, h2, h3, h4⟩ := h
    intro x hx
    rcases List.mem_append.1 hx with hx | hx
    · exact VRs.one h3 x hx
    · exact VRss.one h4 x hx
theorem VRss.append {sz : Nat} : ∀ {as bs : List (List AV)} {us vs : List Value}, VRss M n w sz as us → VRss M n w sz bs vs → VRss M n w sz (as ++ bs) (us ++ vs)
  | [], bs, us, vs, h, k => by unfold VRss at h; subst h; exact k
  | a :: as, bs, us, vs, h, k => by
    unfold VRss at h
    obtain ⟨c, r, rfl, h2, h3, h4⟩ := h
    simp only [List.cons_append]
    unfold VRss
    exact ⟨c, r ++ vs, by simp, h2, h3, VRss.append h4 k⟩
theorem VRss.drop {sz : Nat} : ∀ (k : Nat) {as : List (List AV)} {us : List Value}, VRss M n w sz as us → VRss M n w sz (as.drop k) (us.drop (k * sz))
  | 0, _, _, h => by simpa using h
  | k + 1, [], us, h => by unfold VRss at h; subst h; simp [VRss]
  | k + 1, a :: as, us, h => by
    unfold VRss at h
    obtain ⟨c, r, rfl, h2, h3, h4⟩ := h
    rw [List.drop_succ_cons, Nat.add_mul, Nat.one_mul, Nat.add_comm, ← List.drop_drop, ← h2, List.drop_left, h2]
    exact VRss.drop k h4
theorem VRss.take {sz : Nat} : ∀ (k : Nat) {as : List (List AV)} {us : List Value}, VRss M n w sz as us → VRss M n w sz (as.take k) (us.take (k * sz))
  | 0, _, _, h => by simp [VRss]
  | k + 1, [], us, h => by unfold VRss at h; subst h; simp [VRss]
  | k + 1, a :: as, us, h => by
    unfold VRss at h
    obtain ⟨c, r, rfl, h2, h3, h4⟩ := h
    have e : (k + 1) * sz = c.length + k * sz := by rw [Nat.add_mul, Nat.one_mul, Nat.add_comm, h2]
    rw [List.take_succ_cons, e, List.take_append, List.take_of_length_le (i := c.length + k * sz) (by omega), Nat.add_sub_cancel_left]
    unfold VRss
    exact ⟨c, _, rfl, h2, h3, VRss.take k h4⟩
theorem VRss.get {sz : Nat} : ∀ {k : Nat} {as : List (List AV)} {us : List Value} {a : List AV}, VRss M n w sz as us → as[k]? = some a →
    ∃ c, c.length = sz ∧ VRs M n w a c ∧ ∀ j, j < sz → us[k * sz + j]? = c[j]?
  | k, [], us, a, h, e => by simp at e
  | 0, b :: as, us, a, h, e => by
    unfold VRss at h
    obtain ⟨c, r, rfl, h2, h3, h4⟩ := h
    simp at e
    subst e
    refine ⟨c, h2, h3, fun j hj => ?_⟩
    rw [Nat.zero_mul, Nat.zero_add, List.getElem?_append_left (by omega)]
  | k + 1, b :: as, us, a, h, e => by
    unfold VRss at h
    obtain ⟨c, r, rfl, h2, h3, h4⟩ := h
    obtain ⟨d, d1, d2, d3⟩ := VRss.get (k := k) h4 (by simpa using e)
    refine ⟨d, d1, d2, fun j hj => ?_⟩
    rw [Nat.add_mul, Nat.one_mul, List.getElem?_append_right (by omega), ← d3 j hj]
    congr 1
    omega
theorem VRss.set {sz : Nat} : ∀ {k : Nat} {as : List (List AV)} {us : List Value} {a : List AV} {c : List Value}, VRss M n w sz as us → k < as.length → VRs M n w a c → c.length = sz →
    VRss M n w sz (as.set k a) (us.take (k * sz) ++ c ++ us.drop (k * sz + sz))
  | k, [], us, a, c, h, hk, _, _ => by simp at hk
  | 0, b :: as, us, a, c, h, hk, h5, h6 => by
    unfold VRss at h
    obtain ⟨d, r, rfl, h2, h3, h4⟩ := h
    simp only [List.set_cons_zero, Nat.zero_mul, List.take_zero, List.nil_append, Nat.zero_add]
    unfold VRss
    refine ⟨c, r, ?_, h6, h5, h4⟩
    rw [← h2, List.drop_left]
  | k + 1, b :: as, us, a, c, h, hk, h5, h6 => by
    unfold VRss at h
    obtain ⟨d, r, rfl, h2, h3, h4⟩ := h
    simp only [List.set_cons_succ]
    unfold VRss
    refine ⟨d, _, ?_, h2, h3, VRss.set (k := k) h4 (by simpa using hk) h5 h6⟩
    have e : (k + 1) * sz = d.length + k * sz := by rw [Nat.add_mul, Nat.one_mul, Nat.add_comm, h2]
    rw [e, List.take_append, List.take_of_length_le (by omega), Nat.add_sub_cancel_left, List.drop_append, List.drop_eq_nil_of_le (by omega), List.nil_append]
    simp only [List.append_assoc]
    congr 4
    omega
end
end Go.Am
