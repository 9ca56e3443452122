/- The abstract machine and its soundness, part 0. No condition. -/
import Derived.WalkKit
import Derived.WalkSpells
import Derived.WalkLawsBesides
import Derived.Deep.AppendSrc
import Derived.Lib.Hide
import Derived.Lib.MinMax
import Derived.Deep.Draws
import Derived.WalkSmall
import Derived.Lib.FrozenHead
import Derived.Laws.CopyRow
import Derived.Maps.Range
import Derived.Laws.IdiomStrings
import Derived.Laws.MakeOwn
import Derived.Great.BuildSlice
import Derived.Orders
set_option linter.unusedSectionVars false
set_option linter.unusedVariables false
set_option linter.unusedSimpArgs false
set_option linter.deprecated false
namespace Go.Cx
open Go.RowKit

/-- n elements of sz cells each lie behind the address ao; the block is one of G. -/
structure RowAt (G : Nat → Prop) (w : World) (ao : Option Addr) (n cap sz : Nat) (cells : List Value) : Prop where
  len : cells.length = n * sz
  cle : n ≤ cap
  max : cap ≤ maxLen
  one : ∀ u ∈ cells, u.oneCell' = true
  at_ : (n = 0 ∧ (ao = none → cap = 0)) ∨ ∃ b off, ao = some ⟨b, off, none⟩ ∧ G b ∧ ∀ j u, cells[j]? = some u → w.cell? ⟨b, off + j, none⟩ = some u
/-- A type of data, and how its values lie in cells. -/
class Rep (α : Type) where
  sz : Nat
  rd : (Nat → Prop) → World → List Value → α → Prop
  len : ∀ {G w cs x}, rd G w cs x → cs.length = sz
  one : ∀ {G w cs x}, rd G w cs x → ∀ u ∈ cs, u.oneCell' = true
  mono : ∀ {G G' : Nat → Prop} {w w' : World} {cs x}, (∀ b, G b → G' b) → (∀ b, G b → w'.heap[b]? = w.heap[b]?) → rd G w cs x → rd G' w' cs x
open Rep (sz rd)

def RAll {α : Type} [Rep α] (G : Nat → Prop) (w : World) : List Value → List α → Prop
  | cs, [] => cs = []
  | cs, x :: xs => ∃ c r, cs = c ++ r ∧ rd G w c x ∧ RAll G w r xs
/-- The slice value v reads as the list xs. -/
def RSl {α : Type} [Rep α] (G : Nat → Prop) (w : World) (v : Value) (xs : List α) : Prop :=
  ∃ ao cap cells, v = .slice ao xs.length cap ∧ RowAt G w ao xs.length cap (sz α) cells ∧ RAll G w cells xs
section
variable {α : Type} [Rep α] {G G' : Nat → Prop} {w w' : World}

theorem RowAt.mono {ao : Option Addr} {n cap s : Nat} {cells : List Value} (hG : ∀ b, G b → G' b) (hw : ∀ b, G b → w'.heap[b]? = w.heap[b]?)
    (h : RowAt G w ao n cap s cells) : RowAt G' w' ao n cap s cells := by
  refine ⟨h.len, h.cle, h.max, h.one, ?_⟩
  rcases h.at_ with h0 | ⟨b, off, rfl, hg, hc⟩
  · exact .inl h0
  · refine .inr ⟨b, off, rfl, hG b hg, fun j u hj => ?_⟩
    rw [World.cell?_of_block (w := w) (hw b hg)]
    exact hc j u hj
theorem RAll.mono (hG : ∀ b, G b → G' b) (hw : ∀ b, G b → w'.heap[b]? = w.heap[b]?) :
    ∀ {xs : List α} {cs : List Value}, RAll G w cs xs → RAll G' w' cs xs
  | [], _, h => h
  | _ :: _, _, ⟨c, r, e, h1, h2⟩ => ⟨c, r, e, Rep.mono hG hw h1, RAll.mono hG hw h2⟩
theorem RSl.mono {v : Value} {xs : List α} (hG : ∀ b, G b → G' b) (hw : ∀ b, G b → w'.heap[b]? = w.heap[b]?) (h : RSl G w v xs) : RSl G' w' v xs := by
  obtain ⟨ao, cap, cells, e, h1, h2⟩ := h
  exact ⟨ao, cap, cells, e, h1.mono hG hw, h2.mono hG hw⟩
theorem RAll.len : ∀ {xs : List α} {cs : List Value}, RAll G w cs xs → cs.length = xs.length * sz α
  | [], _, h => by simp [RAll] at h; subst h; simp
  | x :: xs, _, ⟨c, r, e, h1, h2⟩ => by
    subst e
    rw [List.length_append, Rep.len h1, RAll.len h2, List.length_cons, Nat.add_mul, Nat.one_mul, Nat.add_comm]
theorem RAll.one : ∀ {xs : List α} {cs : List Value}, RAll G w cs xs → ∀ u ∈ cs, u.oneCell' = true
  | [], _, h => by simp [RAll] at h; subst h; simp
  | x :: xs, _, ⟨c, r, e, h1, h2⟩ => by
    subst e
    intro u hu
    rcases List.mem_append.1 hu with hu | hu
    · exact Rep.one h1 u hu
    · exact RAll.one h2 u hu
theorem RAll.append : ∀ {xs ys : List α} {cs ds : List Value}, RAll G w cs xs → RAll G w ds ys → RAll G w (cs ++ ds) (xs ++ ys)
  | [], ys, cs, ds, h, k => by simp [RAll] at h; subst h; simpa using k
  | x :: xs, ys, _, ds, ⟨c, r, e, h1, h2⟩, k => by
    subst e
    exact ⟨c, r ++ ds, by simp, h1, RAll.append h2 k⟩
theorem RAll.single {x : α} {c : List Value} (h : rd G w c x) : RAll G w c [x] := ⟨c, [], by simp, h, rfl⟩
theorem RAll.drop : ∀ {xs : List α} {cs : List Value} (k : Nat), RAll G w cs xs → RAll G w (cs.drop (k * sz α)) (xs.drop k)
  | xs, cs, 0, h => by simpa using h
  | [], cs, k + 1, h => by simp [RAll] at h; subst h; simp [RAll]
  | x :: xs, _, k + 1, ⟨c, r, e, h1, h2⟩ => by
    subst e
    have hl := Rep.len h1
    rw [List.drop_succ_cons, Nat.add_mul, Nat.one_mul, Nat.add_comm, ← List.drop_drop, ← hl, List.drop_left, hl]
    exact RAll.drop k h2
theorem RAll.take : ∀ {xs : List α} {cs : List Value} (k : Nat), RAll G w cs xs → RAll G w (cs.take (k * sz α)) (xs.take k)
  | xs, cs, 0, h => by simp [RAll]
  | [], cs, k + 1, h => by simp [RAll] at h; subst h; simp [RAll]
  | x :: xs, _, k + 1, ⟨c, r, e, h1, h2⟩ => by
    subst e
    have hl := Rep.len h1
    refine ⟨c, r.take (k * sz α), ?_, h1, RAll.take k h2⟩
    rw [Nat.add_mul, Nat.one_mul, Nat.add_comm, ← hl, List.take_append, List.take_of_length_le (by omega)]
    congr 2
    omega
theorem RAll.get : ∀ {xs : List α} {cs : List Value} {i : Nat} {x : α}, RAll G w cs xs → xs[i]? = some x → rd G w ((cs.drop (i * sz α)).take (sz α)) x
  | [], cs, i, x, h, hi => by simp at hi
  | x :: xs, _, 0, y, ⟨c, r, e, h1, h2⟩, hi => by
    subst e
    simp at hi
    subst hi
    rw [Nat.zero_mul, List.drop_zero, ← Rep.len h1, List.take_left]
    exact h1
  | x :: xs, _, k + 1, y, ⟨c, r, e, h1, h2⟩, hi => by
    subst e
    have hl := Rep.len h1
    rw [Nat.add_mul, Nat.one_mul, Nat.add_comm, ← List.drop_drop, ← hl, List.drop_left, hl]
    exact RAll.get h2 (by simpa using hi)
end

/-! ### Types of one cell -/
instance : Rep UInt8 where
  sz := 1
  rd _ _ cs x := cs = [.int .u8 (x.toNat : Int)]
  len h := by subst h; rfl
  one h := by subst h; simp [Value.oneCell']
  mono _ _ h := h
instance : Rep UInt16 where
  sz := 1
  rd _ _ cs x := cs = [.int .u16 (x.toNat : Int)]
  len h := by subst h; rfl
  one h := by subst h; simp [Value.oneCell']
  mono _ _ h := h
instance : Rep UInt32 where
  sz := 1
  rd _ _ cs x := cs = [.int .u32 (x.toNat : Int)]
  len h := by subst h; rfl
  one h := by subst h; simp [Value.oneCell']
  mono _ _ h := h
instance : Rep UInt64 where
  sz := 1
  rd _ _ cs x := cs = [.int .u64 (x.toNat : Int)]
  len h := by subst h; rfl
  one h := by subst h; simp [Value.oneCell']
  mono _ _ h := h
instance : Rep Int where
  sz := 1
  rd _ _ cs x := cs = [.int .i64 x] ∧ -9223372036854775808 ≤ x ∧ x ≤ 9223372036854775807
  len h := by rw [h.1]; rfl
  one h := by rw [h.1]; simp [Value.oneCell']
  mono _ _ h := h
instance : Rep Bool where
  sz := 1
  rd _ _ cs x := cs = [.bool x]
  len h := by subst h; rfl
  one h := by subst h; simp [Value.oneCell']
  mono _ _ h := h
instance : Rep ByteArray where
  sz := 1
  rd _ _ cs x := cs = [.string x] ∧ x.size ≤ maxLen
  len h := by rw [h.1]; rfl
  one h := by rw [h.1]; simp [Value.oneCell']
  mono _ _ h := h
/-- Slices: one cell; what it leads to reads in G. -/
instance {α : Type} [Rep α] : Rep (List α) where
  sz := 1
  rd G w cs xs := ∃ v, cs = [v] ∧ RSl G w v xs
  len := by rintro _ _ _ _ ⟨v, rfl, _⟩; rfl
  one := by
    rintro _ _ _ _ ⟨v, rfl, ao, cap, cells, rfl, _⟩
    simp [Value.oneCell']
  mono hG hw := by
    rintro ⟨v, rfl, h⟩
    exact ⟨v, rfl, h.mono hG hw⟩
/-! ### Bytes -/
def bv (b : UInt8) : Value := .int .u8 (b.toNat : Int)
theorem RAll_bytes {G : Nat → Prop} {w : World} : ∀ {l : List UInt8} {cs : List Value}, RAll G w cs l ↔ cs = l.map bv
  | [], cs => by simp [RAll]
  | x :: xs, cs => by
    constructor
    · rintro ⟨c, r, rfl, h1, h2⟩
      have h1' : c = [.int .u8 (x.toNat : Int)] := h1
      subst h1'
      rw [RAll_bytes] at h2
      subst h2
      rfl
    · rintro rfl
      exact ⟨[bv x], xs.map bv, rfl, rfl, RAll_bytes.2 rfl⟩
/-- What a slice of bytes gives to a walk. -/
theorem RSl.bytes {G : Nat → Prop} {w : World} {v : Value} {l : List UInt8} (h : RSl G w v l) :
    ∃ ao cap, v = .slice ao l.length cap ∧ RowAt G w ao l.length cap 1 (l.map bv) := by
  obtain ⟨ao, cap, cells, rfl, h1, h2⟩ := h
  rw [RAll_bytes] at h2
  subst h2
  exact ⟨ao, cap, rfl, h1⟩
/-! ### append onto a row of the call's own -/
section
variable {P : Program} {w : World}

end

/-- v is a row of the call's own, from block base on, that may be appended to: it reads as xs; what its elements lead to lies in other blocks. -/
def Own {α : Type} [Rep α] (w : World) (base : Nat) (e : TypeId) (v : Value) (xs : List α) (lo : Nat := 0) : Prop :=
  ∃ cells, w.ownsRow base e (sz α) v xs.length cells ∧ RAll (fun b => b < w.heap.size ∧ some b ≠ v.ownBlock ∧ lo ≤ b) w cells xs
theorem Appended_ne {w w' : World} {v v' : Value} (h : v'.ownBlock = v.ownBlock ∨ v'.ownBlock = some w.heap.size ∧ w.heap.size < w'.heap.size) {b : Nat} (hb : b < w.heap.size) (hne : some b ≠ v.ownBlock) : some b ≠ v'.ownBlock := by
  rcases h with h | ⟨h, _⟩
  · rw [h]; exact hne
  · rw [h]; intro he; simp at he; omega
section
variable {P : Program} {w : World} {α : Type} [Rep α]

theorem Own.nil (w : World) (base : Nat) (e : TypeId) (lo : Nat := 0) : Own w base e (.slice none 0 0) ([] : List α) lo :=
  ⟨[], World.ownsRow_nil w base e (sz α), rfl⟩
theorem Own.empty {base g lo : Nat} {e : TypeId} (hg : w.heap[g]? = some (.cells #[] e (0, 0))) (hb : base ≤ g) : Own w base e (.slice (some ⟨g, 0, none⟩) 0 0) ([] : List α) lo :=
  ⟨[], ⟨by simp, .inr ⟨g, 0, #[], rfl, hb, hg, Nat.le_refl _, Nat.zero_le _, by simp, by simp⟩⟩, rfl⟩
theorem addr_add (b off j : Nat) : (⟨b, off, none⟩ : Addr).add j = ⟨b, off + j, none⟩ := by
  unfold Addr.add
  split <;> simp_all
theorem RowAt.src {G : Nat → Prop} {ao : Option Addr} {n cap s : Nat} {cells : List Value} {tx e' : TypeId} (hk : P.underlying tx = some (.slice e')) (h : RowAt G w ao n cap s cells) :
    Src P s tx (.slice ao n cap) n cells w := by
  rcases h.at_ with ⟨rfl, hz⟩ | ⟨b, off, rfl, _, hc⟩
  · have : cells = [] := List.eq_nil_of_length_eq_zero (by simpa using h.len)
    subst this
    cases ao with
    | none => exact Src.ofNil w hk cap
    | some a => exact Src.ofSlice w hk a 0 cap [] (by simp) (fun j u hj => by simp at hj) (by simp)
  · exact Src.ofSlice w hk _ n cap cells h.len (fun j u hj => by rw [addr_add]; exact hc j u hj) h.one
/-- Behind an append: the row, and which block it is. -/
structure Appended (w w' : World) (v v' : Value) (k : Nat) : Prop where
  by_ : w.grownBy w' v.ownBlock
  blk : v'.ownBlock = v.ownBlock ∨ v'.ownBlock = some w.heap.size ∧ w.heap.size < w'.heap.size
  few : w'.heap.size ≤ w.heap.size + 1
  old : ∀ g j, v.ownBlock = some g → j < k → w'.cell? ⟨g, j, none⟩ = w.cell? ⟨g, j, none⟩
theorem Appended.ne {w' : World} {v v' : Value} {k : Nat} (h : Appended w w' v v' k) {b : Nat} (hb : b < w.heap.size) (hne : some b ≠ v.ownBlock) : some b ≠ v'.ownBlock := Appended_ne h.blk hb hne
theorem Appended.keep {w' : World} {v v' : Value} {k : Nat} (h : Appended w w' v v' k) {b : Nat} {o : Obj} (hx : w.heap[b]? = some o) (hne : some b ≠ v.ownBlock) : w'.heap[b]? = some o :=
  (h.by_.block b (Array.getElem?_eq_some_iff.1 hx).1 hne).trans hx
end

theorem Own.grown {α : Type} [Rep α] {w w' : World} {base lo : Nat} {e : TypeId} {v : Value} {xs : List α} {row : Option Nat} (h : Own w base e v xs lo) (hg : w.grownBy w' row)
    (hne : v.ownBlock = none ∨ v.ownBlock ≠ row) (hr : ∀ b, b < w.heap.size → some b ≠ v.ownBlock → w'.heap[b]? = w.heap[b]?) : Own w' base e v xs lo := by
  obtain ⟨cells, ho, ha⟩ := h
  exact ⟨cells, ho.kept hg hne, ha.mono (fun b hb => ⟨Nat.lt_of_lt_of_le hb.1 hg.size, hb.2⟩) (fun b hb => hr b hb.1 hb.2.1)⟩
theorem Own.alloc {α : Type} [Rep α] {w : World} {base lo : Nat} {e : TypeId} {v : Value} {xs : List α} (h : Own w base e v xs lo) (o : Obj) : Own (w.alloc o) base e v xs lo :=
  h.grown (World.grownBy_alloc w o none) (by cases hv : v.ownBlock <;> simp) (fun b hb _ => heap_alloc_old w o hb)
theorem Own.drew {α : Type} [Rep α] {w : World} {base lo : Nat} {e : TypeId} {v : Value} {xs : List α} (h : Own w base e v xs lo) : Own w.drew base e v xs lo := by
  obtain ⟨cells, ho, ha⟩ := h
  exact ⟨cells, ho, RAll.mono (G := fun b => b < w.heap.size ∧ some b ≠ v.ownBlock ∧ lo ≤ b) (w := w) (w' := w.drew) (fun _ h => h) (fun _ _ => rfl) ha⟩
/-- behind a call that leaves all older blocks alone -/
theorem Own.below {α : Type} [Rep α] {w w' : World} {base lo : Nat} {e : TypeId} {v : Value} {xs : List α} (h : Own w base e v xs lo) (hb : Below w.heap.size w w') : Own w' base e v xs lo :=
  h.grown (row := none) ⟨hb.os, hb.tape, hb.output, hb.size, fun k hk _ => hb.block k hk⟩ (by cases hv : v.ownBlock <;> simp) (fun b h1 _ => hb.block b h1)
theorem Own.lt {α : Type} [Rep α] {w : World} {base lo : Nat} {e : TypeId} {v : Value} {xs : List α} (h : Own w base e v xs lo) : ∀ k, v.ownBlock = some k → base ≤ k ∧ k < w.heap.size := by
  obtain ⟨cells, ho, _⟩ := h
  exact ho.lt
/-- The value, written out. -/
theorem Own.val {α : Type} [Rep α] {w : World} {base lo : Nat} {e : TypeId} {v : Value} {xs : List α} (h : Own w base e v xs lo) : ∃ ao cap, v = .slice ao xs.length cap := by
  obtain ⟨cells, ⟨_, h⟩, _⟩ := h
  rcases h with ⟨rfl, hn⟩ | ⟨g, cap, cur, rfl, _⟩
  · exact ⟨none, 0, by rw [hn]⟩
  · exact ⟨_, cap, rfl⟩
/-- What was appended to still reads as it did, by its old value. -/
theorem Appended.stay {α : Type} [Rep α] {w w' : World} {base lo : Nat} {e : TypeId} {v v' : Value} {xs : List α} (h : Appended w w' v v' (xs.length * Rep.sz α)) (ho : Own w base e v xs lo) :
    RSl (fun b => b < w'.heap.size) w' v xs := by
  obtain ⟨cells, ⟨hl, ho⟩, ha⟩ := ho
  have ha' : RAll (fun b => b < w'.heap.size) w' cells xs := ha.mono (fun b hb => Nat.lt_of_lt_of_le hb.1 h.by_.size) (fun b hb => h.by_.block b hb.1 hb.2.1)
  rcases ho with ⟨rfl, hn⟩ | ⟨g, cap, cur, rfl, hb, hg, h1, h2, h3, h4⟩
  · have hx : xs = [] := List.eq_nil_of_length_eq_zero hn
    subst hx
    exact ⟨none, 0, cells, rfl, ⟨hl, Nat.le_refl _, Nat.zero_le _, ha.one, .inl ⟨rfl, fun _ => rfl⟩⟩, ha'⟩
  · refine ⟨_, _, cells, rfl, ⟨hl, h1, h2, ha.one, .inr ⟨g, 0, rfl, Nat.lt_of_lt_of_le (Array.getElem?_eq_some_iff.1 hg).1 h.by_.size, fun j u hj => ?_⟩⟩, ha'⟩
    have hjl : j < xs.length * Rep.sz α := by
      have := (List.getElem?_eq_some_iff.1 hj).1
      omega
    rw [Nat.zero_add, h.old g j rfl hjl, cell_of_row w g j cur e (0, 0) hg]
    rw [← h4, List.getElem?_take, if_pos hjl] at hj
    simpa using hj
theorem RowAt.front {G : Nat → Prop} {w : World} {ao : Option Addr} {n cap s : Nat} {cells : List Value} (h : RowAt G w ao n cap s cells) {m : Nat} (hm : m ≤ n) :
    RowAt G w ao m cap s (cells.take (m * s)) := by
  refine ⟨?_, Nat.le_trans hm h.cle, h.max, fun u hu => h.one u (List.mem_of_mem_take hu), ?_⟩
  · rw [List.length_take, h.len]
    exact Nat.min_eq_left (Nat.mul_le_mul_right _ hm)
  · rcases h.at_ with ⟨h1, h2⟩ | ⟨b, off, h1, h2, h3⟩
    · exact .inl ⟨by omega, h2⟩
    · refine .inr ⟨b, off, h1, h2, fun j u hj => ?_⟩
      rw [List.getElem?_take] at hj
      split at hj
      · exact h3 j u hj
      · cases hj
theorem RSl.nil {α : Type} [Rep α] (G : Nat → Prop) (w : World) : RSl G w (.slice none 0 0) ([] : List α) :=
  ⟨none, 0, [], rfl, ⟨by simp, Nat.le_refl _, Nat.zero_le _, by simp, .inl ⟨rfl, fun _ => rfl⟩⟩, rfl⟩
/-- The text of bytes. -/
def str (l : List UInt8) : ByteArray := ⟨l.toArray⟩
theorem str_toList (l : List UInt8) : (str l).toList = l := by simp [str]
theorem RowAt.conv {P : Program} {G : Nat → Prop} {w : World} {ao : Option Addr} {n cap : Nat} {l : List UInt8} {src dst e : TypeId} (hs : P.underlying src = some (.slice e)) (he : P.underlying e = some (.int .u8)) (hd : P.underlying dst = some .string)
    (hn : l.length = n) (h : RowAt G w ao n cap 1 (l.map bv)) : (convert src dst (.slice ao n cap)).run P w = .ok (.string (str l)) w := by
  subst hn
  rcases h.at_ with ⟨h0, _⟩ | ⟨b, off, rfl, _, hc⟩
  · have : l = [] := List.eq_nil_of_length_eq_zero h0
    subst this
    cases ao with
    | none => exact run_convert_bytes_nil w src e hs he _ cap dst hd
    | some a =>
      rw [run_convert_bytes_string w src dst e _ _ cap hs he hd]
      exact run_bytesToString w a 0 cap [] (by simp [loadCells, loadCellsFrom])
  · have hx := run_convert_bytes_arg (P := P) w src e hs he b off l.length cap (l.map fun b => (b.toNat : Int)) (by simp) (fun i hi => by
      have h1 := hc i (bv l[i]) (by simp [hi])
      rw [h1]
      simp [List.getD, hi, bv]) dst hd
    rw [hx]
    congr 2
    apply ByteArray.ext
    apply Array.ext'
    rw [strOfNums_data, List.map_map]
    simp only [str]
    rw [List.map_congr_left (g := id)]
    · simp
    · intro x _
      simp
theorem RSl.conv {P : Program} {G : Nat → Prop} {w : World} {v : Value} {l : List UInt8} {src dst e : TypeId} (hs : P.underlying src = some (.slice e)) (he : P.underlying e = some (.int .u8)) (hd : P.underlying dst = some .string)
    (h : RSl G w v l) : (convert src dst v).run P w = .ok (.string (str l)) w := by
  obtain ⟨ao, cap, rfl, hr⟩ := h.bytes
  exact hr.conv hs he hd rfl
/-- What was read is still there behind a call that leaves all older blocks alone. -/
theorem RSl.now {α : Type} [Rep α] {w w' : World} {v : Value} {xs : List α} (h : RSl (fun b => b < w.heap.size) w v xs) (hb : Below w.heap.size w w') : RSl (fun b => b < w'.heap.size) w' v xs :=
  h.mono (fun _ hg => Nat.lt_of_lt_of_le hg hb.size) (fun b hg => hb.block b hg)
/-- A result in new memory, without the word on where it lies. -/
theorem RSl.old {α : Type} [Rep α] {w : World} {B : Nat} {v : Value} {xs : List α} (h : RSl (fun b => B ≤ b ∧ b < w.heap.size) w v xs) : RSl (fun b => b < w.heap.size) w v xs :=
  h.mono (fun _ hg => hg.2) (fun _ _ => rfl)
/-- To a later world that leaves all older blocks alone. -/
theorem RSl.below {α : Type} [Rep α] {G : Nat → Prop} {w w' : World} {B : Nat} {v : Value} {xs : List α} (h : RSl G w v xs) (hb : Below B w w') (hG : ∀ b, G b → b < B) : RSl (fun _ => True) w' v xs :=
  h.mono (fun _ _ => trivial) (fun b hg => hb.block b (hG b hg))
/-- What 's[lo:hi]' reads as. -/
theorem RowAt.sub {G : Nat → Prop} {w : World} {b off n cap s : Nat} {cells : List Value} (h : RowAt G w (some ⟨b, off, none⟩) n cap s cells) {lo hi : Nat} (h1 : lo ≤ hi) (h2 : hi ≤ n) :
    RowAt G w (some (if cap = lo then ⟨b, off, none⟩ else ⟨b, off + lo * s, none⟩)) (hi - lo) (cap - lo) s ((cells.take (hi * s)).drop (lo * s)) := by
  have hl := h.len
  have hc := h.cle
  have hM := h.max
  have hmul : hi * s ≤ n * s := Nat.mul_le_mul_right _ h2
  refine ⟨?_, by omega, by omega, fun u hu => h.one u (List.mem_of_mem_take (List.mem_of_mem_drop hu)), ?_⟩
  · rw [List.length_drop, List.length_take, hl, Nat.min_eq_left hmul, Nat.sub_mul]
  · rcases h.at_ with ⟨h0, _⟩ | ⟨b', off', h0, hg, hx⟩
    · exact .inl ⟨by omega, fun hno => by cases hno⟩
    · simp only [Option.some.injEq, Addr.mk.injEq, and_true] at h0
      obtain ⟨rfl, rfl⟩ := h0
      by_cases he : cap = lo
      · rw [if_pos he]
        refine .inr ⟨b, off, rfl, hg, fun j u hj => ?_⟩
        have : ((cells.take (hi * s)).drop (lo * s)).length = 0 := by
          rw [List.length_drop, List.length_take, hl, Nat.min_eq_left hmul, ← Nat.sub_mul, show hi - lo = 0 from by omega, Nat.zero_mul]
        rw [List.eq_nil_of_length_eq_zero this] at hj
        simp at hj
      · rw [if_neg he]
        refine .inr ⟨b, off + lo * s, rfl, hg, fun j u hj => ?_⟩
        rw [List.getElem?_drop, List.getElem?_take] at hj
        split at hj
        · rw [Nat.add_assoc]; exact hx _ _ hj
        · cases hj
/-! ### numbers as bytes -/
/-- The k lowest bytes of n, the highest first. -/
def be (k n : Nat) : List UInt8 := (List.range k).map fun i => UInt8.ofNat (n / 256 ^ (k - 1 - i))
end Go.Cx

namespace Go.Am
open Go.RowKit Go.Cx

/-- A value, as the proofs see it. -/
inductive AV where
  | any
  | v (x : Value)
  | sl (sz : Nat) (es : List (List AV))
  | mt
  | hs (r sz off n : Nat)
  | os (r sz off n : Nat)
  | ptr (r off : Nat)
  | rp (r sz i off : Nat)
  | cptr (cs : List AV)
  | agg (cs : List AV)
  | tup (vs : List AV)
  | fn (f : FuncId) (first caps : List AV)
  | mp (r : Nat)
  | ifp (t : TypeId) (r off : Nat)
  deriving Inhabited
/-- A block of memory that the call made. A map: keys, values, and where they are told the entries' stamps and the clock. A walk over a map: the map, its stamps and clock, which entries have been met. -/
inductive Blk where
  | obj (cs : List AV)
  | row (hot : Bool) (sz : Nat) (es : List (List AV))
  | map (ks : List Int) (vs : List AV) (st : Option (List Nat × Nat))
  | iter (m : Nat) (bs : List Nat) (c : Nat) (seen : List Nat)
abbrev Heap := List (Option Blk)
def Blk.isHot : Blk → Bool
  | .row h _ _ => h
  | _ => true
/-- Where the blocks lie; which blocks nobody writes any more. -/
structure Mem where
  blk : Nat → Option Nat
  bsz : Nat → Nat
  G : Nat → Prop
mutual
/-- The value u is what a says; n: so many names there are. -/
def VR (M : Mem) (n : Nat) (w : World) : AV → Value → Prop
  | .any, _ => True
  | .v x, u => u = x
  | .sl sz es, u => ∃ ao cap us, u = .slice ao es.length cap ∧ VRss M n w sz es us ∧ RowAt M.G w ao es.length cap sz us
  | .mt, u => ∃ ao, u = .slice ao 0 0
  | .hs r sz off k, u => r < n ∧ ∃ ao cap, u = .slice ao k cap ∧ k ≤ cap ∧ cap ≤ maxLen ∧ (ao = none → cap = 0) ∧
      ((k = 0 ∧ off ≠ 0) ∨ (k = 0 ∧ cap = 0) ∨ ∃ b, M.blk r = some b ∧ ao = some ⟨b, off * sz, none⟩ ∧ (off + cap) * sz ≤ M.bsz r)
  | .os r _ off k, u => r < n ∧ ∃ ao cap, u = .slice ao k cap ∧ k ≤ cap ∧ cap ≤ maxLen ∧ (ao = none → cap = 0) ∧
      (k = 0 ∨ ∃ b, M.blk r = some b ∧ ao = some ⟨b, off, none⟩)
  | .ptr r off, u => r < n ∧ ∃ b, M.blk r = some b ∧ u = .pointer (some ⟨b, off, none⟩)
  | .rp r sz i off, u => r < n ∧ ∃ b, M.blk r = some b ∧ u = .pointer (some ⟨b, i * sz + off, none⟩)
  | .cptr cs, u => ∃ b off us, u = .pointer (some ⟨b, off, none⟩) ∧ M.G b ∧ VRs M n w cs us ∧ ∀ j x, us[j]? = some x → w.cell? ⟨b, off + j, none⟩ = some x
  | .agg cs, u => ∃ us, u = .agg us.toArray ∧ VRs M n w cs us
  | .tup vs, u => ∃ us, u = .tuple us.toArray ∧ VRt M n w vs us
  | .fn f first caps, u => ∃ us ks, u = .func (.func f) us.toArray ks.toArray ∧ VRt M n w first us ∧ VRt M n w caps ks
  | .mp r, u => r < n ∧ ∃ b, M.blk r = some b ∧ u = .map (some b)
  | .ifp t r off, u => r < n ∧ ∃ b, M.blk r = some b ∧ u = .iface t (.pointer (some ⟨b, off, none⟩))
/-- Cells. -/
def VRs (M : Mem) (n : Nat) (w : World) : List AV → List Value → Prop
  | [], us => us = []
  | a :: as, us => ∃ u r, us = u :: r ∧ u.oneCell' = true ∧ VR M n w a u ∧ VRs M n w as r
/-- Values. -/
def VRt (M : Mem) (n : Nat) (w : World) : List AV → List Value → Prop
  | [], us => us = []
  | a :: as, us => ∃ u r, us = u :: r ∧ VR M n w a u ∧ VRt M n w as r
/-- Elements of sz cells each. -/
def VRss (M : Mem) (n : Nat) (w : World) (sz : Nat) : List (List AV) → List Value → Prop
  | [], us => us = []
  | e :: es, us => ∃ c r, us = c ++ r ∧ c.length = sz ∧ VRs M n w e c ∧ VRss M n w sz es r
end

/-- What holds of a block. -/
def BR (M : Mem) (n : Nat) (w : World) (r : Nat) : Blk → Prop
  | .obj cs => ∃ b cur t fr, M.blk r = some b ∧ w.heap[b]? = some (.cells cur t fr) ∧ (fr = (0, 0) ∨ cur.size ≤ fr.1) ∧ cur.size = M.bsz r ∧ VRs M n w cs cur.toList
  | .row hot sz es => (M.blk r = none ∧ es = []) ∨
      ∃ b cur e fr us, M.blk r = some b ∧ w.heap[b]? = some (.cells cur e fr) ∧ (fr = (0, 0) ∨ cur.size ≤ fr.1) ∧ cur.size = M.bsz r ∧ VRss M n w sz es us ∧ cur.toList.take us.length = us ∧ (hot = false → M.G b)
  | .map ks vs st => ∃ b es c l, M.blk r = some b ∧ w.heap[b]? = some (.map es c) ∧ MapKept.Stamped es c ∧ List.Perm l es.toList ∧ l.map (·.key) = ks.map (.int .i64) ∧ VRt M n w vs (l.map (·.val)) ∧
      ∀ bs c', st = some (bs, c') → l.map (·.born) = bs ∧ c' = c
  | .iter m bs c seen => m < n ∧ ∃ b bm, M.blk r = some b ∧ M.blk m = some bm ∧ (∀ i ∈ seen, i < bs.length) ∧ w.heap[b]? = some (.mapIter (some bm) c (seen.map fun i => bs.getD i 0).toArray c)
/-- The machine's memory is what the heap says. -/
structure Gam (gl : Nat → AV) (M : Mem) (w : World) (H : Heap) : Prop where
  glob : ∀ g, VR M 0 w (gl g) (.pointer (some ⟨g, 0, none⟩))
  inG : ∀ b, M.G b → b < w.heap.size
  blks : ∀ r B, H[r]? = some (some B) → BR M H.length w r B
  sep : ∀ r B b, H[r]? = some (some B) → B.isHot = true → M.blk r = some b → ¬ M.G b
  far : ∀ r r' B B' b, H[r]? = some (some B) → H[r']? = some (some B') → B.isHot = true → r' ≠ r → M.blk r = some b → M.blk r' ≠ some b
/-- b is a block that the heap may write. -/
def Hot (M : Mem) (H : Heap) (b : Nat) : Prop := ∃ r B, H[r]? = some (some B) ∧ B.isHot = true ∧ M.blk r = some b
/-- From a world to a later one: nothing but the heap's hot blocks has been written. -/
structure Ext (M : Mem) (w : World) (H : Heap) (M' : Mem) (w' : World) (H' : Heap) : Prop where
  os : w'.os = w.os
  tape : w'.tape = w.tape ∧ w.drawn ≤ w'.drawn
  output : w'.output = w.output
  size : w.heap.size ≤ w'.heap.size
  G : ∀ b, M.G b → M'.G b
  gnew : ∀ b, M'.G b → M.G b ∨ Hot M H b ∨ w.heap.size ≤ b
  block : ∀ b, b < w.heap.size → ¬ Hot M H b → w'.heap[b]? = w.heap[b]?
  len : H.length ≤ H'.length
  blk : ∀ r, r < H.length → M'.blk r = M.blk r
  bsz : ∀ r, r < H.length → M'.bsz r = M.bsz r
  hot : ∀ b, Hot M' H' b → Hot M H b ∨ w.heap.size ≤ b
theorem Ext.refl (M : Mem) (w : World) (H : Heap) : Ext M w H M w H :=
  ⟨rfl, ⟨rfl, Nat.le_refl _⟩, rfl, Nat.le_refl _, fun _ h => h, fun _ h => .inl h, fun _ _ _ => rfl, Nat.le_refl _, fun _ _ => rfl, fun _ _ => rfl, fun _ h => .inl h⟩
theorem Ext.trans {M M' M'' : Mem} {w w' w'' : World} {H H' H'' : Heap} (h : Ext M w H M' w' H') (k : Ext M' w' H' M'' w'' H'') : Ext M w H M'' w'' H'' where
  os := k.os.trans h.os
  tape := ⟨k.tape.1.trans h.tape.1, Nat.le_trans h.tape.2 k.tape.2⟩
  output := k.output.trans h.output
  size := Nat.le_trans h.size k.size
  G b hb := k.G b (h.G b hb)
  gnew b hb := by
    rcases k.gnew b hb with h1 | h1 | h1
    · exact h.gnew b h1
    · rcases h.hot b h1 with h2 | h2
      · exact .inr (.inl h2)
      · exact .inr (.inr h2)
    · exact .inr (.inr (Nat.le_trans h.size h1))
  block b hb hn := by
    rw [k.block b (Nat.lt_of_lt_of_le hb h.size) (fun hh => ?_), h.block b hb hn]
    rcases h.hot b hh with h1 | h1
    · exact hn h1
    · omega
  len := Nat.le_trans h.len k.len
  blk r hr := (k.blk r (Nat.lt_of_lt_of_le hr h.len)).trans (h.blk r hr)
  bsz r hr := (k.bsz r (Nat.lt_of_lt_of_le hr h.len)).trans (h.bsz r hr)
  hot b hb := by
    rcases k.hot b hb with h1 | h1
    · exact h.hot b h1
    · exact .inr (Nat.le_trans h.size h1)
section
variable {M M' : Mem} {n n' : Nat} {w w' : World}

mutual
theorem VR.mono (hG : ∀ b, M.G b → M'.G b) (hw : ∀ b, M.G b → w'.heap[b]? = w.heap[b]?) (hn : n ≤ n') (hb : ∀ r, r < n → M'.blk r = M.blk r ∧ M'.bsz r = M.bsz r) :
    ∀ {a : AV} {u : Value}, VR M n w a u → VR M' n' w' a u
  | .any, _, _ => trivial
  | .v _, _, h => h
  | .sl sz es, u, h => by
    unfold VR at h ⊢
    obtain ⟨ao, cap, us, h1, h2, h3⟩ := h
    exact ⟨ao, cap, us, h1, VRss.mono hG hw hn hb h2, h3.mono hG hw⟩
  | .mt, _, h => by unfold VR at h ⊢; exact h
  | .hs r sz off k, u, h => by
    unfold VR at h ⊢
    obtain ⟨h0, ao, cap, h1, h2, h3, h4⟩ := h
    obtain ⟨e1, e2⟩ := hb r h0
    refine ⟨Nat.lt_of_lt_of_le h0 hn, ao, cap, h1, h2, h3, ?_⟩
    rw [e1, e2]
    exact h4
  | .os r sz off k, u, h => by
    unfold VR at h ⊢
    obtain ⟨h0, ao, cap, h1, h2, h3, h4⟩ := h
    obtain ⟨e1, e2⟩ := hb r h0
    refine ⟨Nat.lt_of_lt_of_le h0 hn, ao, cap, h1, h2, h3, ?_⟩
    rw [e1]
    exact h4
  | .ptr r off, u, h => by
    unfold VR at h ⊢
    rw [(hb r h.1).1]
    exact ⟨Nat.lt_of_lt_of_le h.1 hn, h.2⟩
  | .rp r sz i off, u, h => by
    unfold VR at h ⊢
    rw [(hb r h.1).1]
    exact ⟨Nat.lt_of_lt_of_le h.1 hn, h.2⟩
  | .cptr cs, u, h => by
    unfold VR at h ⊢
    obtain ⟨b, off, us, h1, h2, h3, h4⟩ := h
    refine ⟨b, off, us, h1, hG b h2, VRs.mono hG hw hn hb h3, fun j x hj => ?_⟩
    rw [World.cell?_of_block (w := w) (hw b h2)]
    exact h4 j x hj
  | .agg cs, u, h => by
    unfold VR at h ⊢
    obtain ⟨us, h1, h2⟩ := h
    exact ⟨us, h1, VRs.mono hG hw hn hb h2⟩
  | .tup vs, u, h => by
    unfold VR at h ⊢
    obtain ⟨us, h1, h2⟩ := h
    exact ⟨us, h1, VRt.mono hG hw hn hb h2⟩
  | .fn f first caps, u, h => by
    unfold VR at h ⊢
    obtain ⟨us, ks, h1, h2, h3⟩ := h
    exact ⟨us, ks, h1, VRt.mono hG hw hn hb h2, VRt.mono hG hw hn hb h3⟩
  | .mp r, u, h => by
    unfold VR at h ⊢
    rw [(hb r h.1).1]
    exact ⟨Nat.lt_of_lt_of_le h.1 hn, h.2⟩
  | .ifp t r off, u, h => by
    unfold VR at h ⊢
    rw [(hb r h.1).1]
    exact ⟨Nat.lt_of_lt_of_le h.1 hn, h.2⟩
theorem VRs.mono (hG : ∀ b, M.G b → M'.G b) (hw : ∀ b, M.G b → w'.heap[b]? = w.heap[b]?) (hn : n ≤ n') (hb : ∀ r, r < n → M'.blk r = M.blk r ∧ M'.bsz r = M.bsz r) :
    ∀ {as : List AV} {us : List Value}, VRs M n w as us → VRs M' n' w' as us
  | [], _, h => by unfold VRs at h ⊢; exact h
  | a :: as, us, h => by
    unfold VRs at h ⊢
    obtain ⟨u, r, h1, h2, h3, h4⟩ := h
    exact ⟨u, r, h1, h2, VR.mono hG hw hn hb h3, VRs.mono hG hw hn hb h4⟩
theorem VRt.mono (hG : ∀ b, M.G b → M'.G b) (hw : ∀ b, M.G b → w'.heap[b]? = w.heap[b]?) (hn : n ≤ n') (hb : ∀ r, r < n → M'.blk r = M.blk r ∧ M'.bsz r = M.bsz r) :
    ∀ {as : List AV} {us : List Value}, VRt M n w as us → VRt M' n' w' as us
  | [], _, h => by unfold VRt at h ⊢; exact h
  | a :: as, us, h => by
    unfold VRt at h ⊢
    obtain ⟨u, r, h1, h3, h4⟩ := h
    exact ⟨u, r, h1, VR.mono hG hw hn hb h3, VRt.mono hG hw hn hb h4⟩
theorem VRss.mono (hG : ∀ b, M.G b → M'.G b) (hw : ∀ b, M.G b → w'.heap[b]? = w.heap[b]?) (hn : n ≤ n') (hb : ∀ r, r < n → M'.blk r = M.blk r ∧ M'.bsz r = M.bsz r) {sz : Nat} :
    ∀ {es : List (List AV)} {us : List Value}, VRss M n w sz es us → VRss M' n' w' sz es us
  | [], _, h => by unfold VRss at h ⊢; exact h
  | e :: es, us, h => by
    unfold VRss at h ⊢
    obtain ⟨c, r, h1, h2, h3, h4⟩ := h
    exact ⟨c, r, h1, h2, VRs.mono hG hw hn hb h3, VRss.mono hG hw hn hb h4⟩
end
end

section
variable {M : Mem} {n : Nat} {w : World}
theorem VRs.len : ∀ {as : List AV} {us : List Value}, VRs M n w as us → us.length = as.length
  | [], _, h => by unfold VRs at h; subst h; rfl
  | a :: as, us, h => by
    unfold VRs at h
    obtain ⟨u, r, rfl, _, _, h4⟩ := h
    simp [VRs.len h4]
theorem VRs.one : ∀ {as : List AV} {us : List Value}, VRs M n w as us → ∀ u ∈ us, u.oneCell' = true
  | [], _, h => by unfold VRs at h; subst h; simp
  | a :: as, us, h => by
    unfold VRs at h
    obtain ⟨u, r, rfl, h2, _, h4⟩ := h
    intro x hx
    rcases List.mem_cons.1 hx with rfl | hx
    · exact h2
    · exact VRs.one h4 x hx
theorem VRs.append : ∀ {as bs : List AV} {us vs : List Value}, VRs M n w as us → VRs M n w bs vs → VRs M n w (as ++ bs) (us ++ vs)
  | [], bs, us, vs, h, k => by unfold VRs at h; subst h; exact k
  | a :: as, bs, us, vs, h, k => by
    unfold VRs at h
    obtain ⟨u, r, rfl, h2, h3, h4⟩ := h
    simp only [List.cons_append]
    unfold VRs
    exact ⟨u, r ++ vs, rfl, h2, h3, VRs.append h4 k⟩
theorem VRs.drop : ∀ (k : Nat) {as : List AV} {us : List Value}, VRs M n w as us → VRs M n w (as.drop k) (us.drop k)
  | 0, _, _, h => h
  | k + 1, [], us, h => by unfold VRs at h; subst h; simp [VRs]
  | k + 1, a :: as, us, h => by
    unfold VRs at h
    obtain ⟨u, r, rfl, h2, h3, h4⟩ := h
    exact VRs.drop k h4
theorem VRs.take : ∀ (k : Nat) {as : List AV} {us : List Value}, VRs M n w as us → VRs M n w (as.take k) (us.take k)
  | 0, _, _, h => by simp [VRs]
  | k + 1, [], us, h => by unfold VRs at h; subst h; simp [VRs]
  | k + 1, a :: as, us, h => by
    unfold VRs at h
    obtain ⟨u, r, rfl, h2, h3, h4⟩ := h
    simp only [List.take_succ_cons]
    unfold VRs
    exact ⟨u, _, rfl, h2, h3, VRs.take k h4⟩
theorem VRs.get : ∀ {k : Nat} {as : List AV} {us : List Value} {a : AV}, VRs M n w as us → as[k]? = some a → ∃ u, us[k]? = some u ∧ u.oneCell' = true ∧ VR M n w a u
  | k, [], us, a, h, e => by simp at e
  | 0, b :: as, us, a, h, e => by
    unfold VRs at h
    obtain ⟨u, r, rfl, h2, h3, h4⟩ := h
    simp at e
    subst e
    exact ⟨u, rfl, h2, h3⟩
  | k + 1, b :: as, us, a, h, e => by
    unfold VRs at h
    obtain ⟨u, r, rfl, h2, h3, h4⟩ := h
    exact VRs.get (k := k) h4 (by simpa using e)
theorem VRt.get : ∀ {k : Nat} {as : List AV} {us : List Value} {a : AV}, VRt M n w as us → as[k]? = some a → ∃ u, us[k]? = some u ∧ VR M n w a u
  | k, [], us, a, h, e => by simp at e
  | 0, b :: as, us, a, h, e => by
    unfold VRt at h
    obtain ⟨u, r, rfl, h3, h4⟩ := h
    simp at e
    subst e
    exact ⟨u, rfl, h3⟩
  | k + 1, b :: as, us, a, h, e => by
    unfold VRt at h
    obtain ⟨u, r, rfl, h3, h4⟩ := h
    exact VRt.get (k := k) h4 (by simpa using e)
theorem VRt.len : ∀ {as : List AV} {us : List Value}, VRt M n w as us → us.length = as.length
  | [], _, h => by unfold VRt at h; subst h; rfl
  | a :: as, us, h => by
    unfold VRt at h
    obtain ⟨u, r, rfl, _, h4⟩ := h
    simp [VRt.len h4]
theorem VRt.append : ∀ {as bs : List AV} {us vs : List Value}, VRt M n w as us → VRt M n w bs vs → VRt M n w (as ++ bs) (us ++ vs)
  | [], bs, us, vs, h, k => by unfold VRt at h; subst h; exact k
  | a :: as, bs, us, vs, h, k => by
    unfold VRt at h
    obtain ⟨u, r, rfl, h3, h4⟩ := h
    simp only [List.cons_append]
    unfold VRt
    exact ⟨u, r ++ vs, rfl, h3, VRt.append h4 k⟩
theorem VRss.len {sz : Nat} : ∀ {es : List (List AV)} {us : List Value}, VRss M n w sz es us → us.length = es.length * sz
  | [], _, h => by unfold VRss at h; subst h; simp
  | a :: as, us, h => by
    unfold VRss at h
    obtain ⟨c, r, rfl, h2, _, h4⟩ := h
    rw [List.length_append, VRss.len h4, h2, List.length_cons, Nat.add_mul, Nat.one_mul, Nat.add_comm]
theorem VRss.one {sz : Nat} : ∀ {es : List (List AV)} {us : List Value}, VRss M n w sz es us → ∀ u ∈ us, u.oneCell' = true
  | [], _, h => by unfold VRss at h; subst h; simp
  | a :: as, us, h => by
    unfold VRss at h
    obtain ⟨c, r, rfl, h2, h3, h4⟩ := h
    intro x hx
    rcases List.mem_append.1 hx with hx | hx
    · exact VRs.one h3 x hx
    · exact VRss.one h4 x hx
theorem VRss.append {sz : Nat} : ∀ {as bs : List (List AV)} {us vs : List Value}, VRss M n w sz as us → VRss M n w sz bs vs → VRss M n w sz (as ++ bs) (us ++ vs)
  | [], bs, us, vs, h, k => by unfold VRss at h; subst h; exact k
  | a :: as, bs, us, vs, h, k => by
    unfold VRss at h
    obtain ⟨c, r, rfl, h2, h3, h4⟩ := h
    simp only [List.cons_append]
    unfold VRss
    exact ⟨c, r ++ vs, by simp, h2, h3, VRss.append h4 k⟩
theorem VRss.drop {sz : Nat} : ∀ (k : Nat) {as : List (List AV)} {us : List Value}, VRss M n w sz as us → VRss M n w sz (as.drop k) (us.drop (k * sz))
  | 0, _, _, h => by simpa using h
  | k + 1, [], us, h => by unfold VRss at h; subst h; simp [VRss]
  | k + 1, a :: as, us, h => by
    unfold VRss at h
    obtain ⟨c, r, rfl, h2, h3, h4⟩ := h
    rw [List.drop_succ_cons, Nat.add_mul, Nat.one_mul, Nat.add_comm, ← List.drop_drop, ← h2, List.drop_left, h2]
    exact VRss.drop k h4
theorem VRss.take {sz : Nat} : ∀ (k : Nat) {as : List (List AV)} {us : List Value}, VRss M n w sz as us → VRss M n w sz (as.take k) (us.take (k * sz))
  | 0, _, _, h => by simp [VRss]
  | k + 1, [], us, h => by unfold VRss at h; subst h; simp [VRss]
  | k + 1, a :: as, us, h => by
    unfold VRss at h
    obtain ⟨c, r, rfl, h2, h3, h4⟩ := h
    have e : (k + 1) * sz = c.length + k * sz := by rw [Nat.add_mul, Nat.one_mul, Nat.add_comm, h2]
    rw [List.take_succ_cons, e, List.take_append, List.take_of_length_le (i := c.length + k * sz) (by omega), Nat.add_sub_cancel_left]
    unfold VRss
    exact ⟨c, _, rfl, h2, h3, VRss.take k h4⟩
theorem VRss.get {sz : Nat} : ∀ {k : Nat} {as : List (List AV)} {us : List Value} {a : List AV}, VRss M n w sz as us → as[k]? = some a →
    ∃ c, c.length = sz ∧ VRs M n w a c ∧ ∀ j, j < sz → us[k * sz + j]? = c[j]?
  | k, [], us, a, h, e => by simp at e
  | 0, b :: as, us, a, h, e => by
    unfold VRss at h
    obtain ⟨c, r, rfl, h2, h3, h4⟩ := h
    simp at e
    subst e
    refine ⟨c, h2, h3, fun j hj => ?_⟩
    rw [Nat.zero_mul, Nat.zero_add, List.getElem?_append_left (by omega)]
  | k + 1, b :: as, us, a, h, e => by
    unfold VRss at h
    obtain ⟨c, r, rfl, h2, h3, h4⟩ := h
    obtain ⟨d, d1, d2, d3⟩ := VRss.get (k := k) h4 (by simpa using e)
    refine ⟨d, d1, d2, fun j hj => ?_⟩
    rw [Nat.add_mul, Nat.one_mul, List.getElem?_append_right (by omega), ← d3 j hj]
    congr 1
    omega
theorem VRss.set {sz : Nat} : ∀ {k : Nat} {as : List (List AV)} {us : List Value} {a : List AV} {c : List Value}, VRss M n w sz as us → k < as.length → VRs M n w a c → c.length = sz →
    VRss M n w sz (as.set k a) (us.take (k * sz) ++ c ++ us.drop (k * sz + sz))
  | k, [], us, a, c, h, hk, _, _ => by simp at hk
  | 0, b :: as, us, a, c, h, hk, h5, h6 => by
    unfold VRss at h
    obtain ⟨d, r, rfl, h2, h3, h4⟩ := h
    simp only [List.set_cons_zero, Nat.zero_mul, List.take_zero, List.nil_append, Nat.zero_add]
    unfold VRss
    refine ⟨c, r, ?_, h6, h5, h4⟩
    rw [← h2, List.drop_left]
  | k + 1, b :: as, us, a, c, h, hk, h5, h6 => by
    unfold VRss at h
    obtain ⟨d, r, rfl, h2, h3, h4⟩ := h
    simp only [List.set_cons_succ]
    unfold VRss
    refine ⟨d, _, ?_, h2, h3, VRss.set (k := k) h4 (by simpa using hk) h5 h6⟩
    have e : (k + 1) * sz = d.length + k * sz := by rw [Nat.add_mul, Nat.one_mul, Nat.add_comm, h2]
    rw [e, List.take_append, List.take_of_length_le (by omega), Nat.add_sub_cancel_left, List.drop_append, List.drop_eq_nil_of_le (by omega), List.nil_append]
    simp only [List.append_assoc]
    congr 4
    omega
end
end Go.Am

namespace Go.Am
open Go.RowKit Go.Cx

structure Env where
  P : Program
  gl : Nat → AV
/-- m gives a, whatever the world, and leaves it. -/
def Ret {α : Type} (P : Program) (m : Sem α) (a : α) : Prop := ∀ w, m.run P w = .ok a w
def isAggD : TypeDesc → Bool
  | .struct _ | .array _ _ => true
  | _ => false
/-- A type: how many cells, whether a struct or an array, the zero value's cells. -/
def tyI (P : Program) (t : TypeId) : Option (Nat × Bool × List AV) :=
  match P.info? t, P.underlying t with
  | some i, some d => match i.zero with
    | some z => if z.cells.size = i.size ∧ z.cells.all (·.oneCell') = true then some (i.size, isAggD d, z.cells.toList.map .v) else none
    | none => none
  | _, _ => none
/-- A slice's element type and how many cells it has. -/
def slI (P : Program) (t : TypeId) : Option (TypeId × Nat) :=
  match P.underlying t with
  | some (.slice e) => match P.info? e with
    | some i => match i.zero with
      | some z => if z.cells.size = i.size ∧ i.bytes ≤ 1024 then some (e, i.size) else none
      | none => none
    | none => none
  | _ => none
def fieldI (P : Program) (f : Field) : Option (Nat × Nat × Bool) :=
  match P.info? f.type, P.underlying f.type with
  | some i, some d => some (f.offset, i.size, isAggD d)
  | _, _ => none
def fieldsI (P : Program) : List Field → Option (List (Nat × Nat × Bool))
  | [] => some []
  | f :: fs => match fieldI P f, fieldsI P fs with
    | some x, some r => some (x :: r)
    | _, _ => none
/-- A struct's fields: offset, cells, whether struct or array. -/
def stI (P : Program) (t : TypeId) : Option (List (Nat × Nat × Bool)) :=
  match P.underlying t with
  | some (.struct fs) => fieldsI P fs.toList
  | _ => none
/-- An array's length, its elements' cells, whether these are structs or arrays. -/
def arI (P : Program) (t : TypeId) : Option (Nat × Nat × Bool) :=
  match P.underlying t with
  | some (.array n e) => match P.info? e, P.underlying e with
    | some i, some d => some (n, i.size, isAggD d)
    | _, _ => none
  | _ => none
def cv : Value → AV
  | .agg cs => if cs.all (·.oneCell') then .agg (cs.toList.map .v) else .any
  | x => .v x
def concs : List AV → Option (List Value)
  | [] => some []
  | .v x :: r => (concs r).map (x :: ·)
  | _ :: _ => none
def conc : AV → Option Value
  | .v x => some x
  | .agg cs => (concs cs).map fun l => .agg l.toArray
  | _ => none
def cells1 : AV → Option (List AV)
  | .agg cs => some cs
  | .v x => if x.oneCell' then some [.v x] else none
  | .any => none
  | .tup _ => none
  | a => some [a]
def ev (gl : Nat → AV) (T : Nat → AV) : Operand → AV
  | .tmp t => T t
  | .const v => cv v
  | .global g => gl g
  | .func f => .fn f [] []
/-- What the function f does, called with as in the memory H. -/
def ACalls (E : Env) (f : FuncId) (as : List AV) (H : Heap) (R : AV → Heap → Prop) : Prop :=
  (∃ fn, E.P.funcs[f]? = some fn ∧ (fn.name == "runtime.NumGoroutine") = false ∧ fn.body.isNone = false) ∧
  ∀ (w : World) (M : Mem) (vs : List Value), Gam E.gl M w H → VRt M H.length w as vs →
    Calls E.P f vs.toArray w fun e w' => ∃ r H' v M', e = .returned v ∧ R r H' ∧ Gam E.gl M' w' H' ∧ VR M' H'.length w' r v ∧ Ext M w H M' w' H'
/-- The cells from an address on. -/
def place (H : Heap) : AV → Option (List AV)
  | .ptr r off => match H[r]? with
    | some (some (.obj cs)) => some (cs.drop off)
    | _ => none
  | .rp r sz i off => match H[r]? with
    | some (some (.row _ sz' es)) => if sz' = sz then (es[i]?).map (·.drop off) else none
    | _ => none
  | .cptr cs => some cs
  | _ => none
/-- A value out of cells. -/
def apart (g : Bool) (s : Nat) (cs : List AV) (K : AV → Prop) : Prop :=
  match g with
  | true => s ≤ cs.length ∧ K (.agg (cs.take s))
  | false => ∃ c r, cs = c :: r ∧ K c
def aload (P : Program) (t : TypeId) (a : AV) (H : Heap) (K : AV → Prop) : Prop :=
  ∃ s g z, tyI P t = some (s, g, z) ∧ ∃ cs, place H a = some cs ∧ apart g s cs K
def splice (off : Nat) (new old : List AV) : List AV := old.take off ++ new ++ old.drop (off + new.length)
def astore (P : Program) (t : TypeId) (a v : AV) (H : Heap) (K : Heap → Prop) : Prop :=
  ∃ s g z, tyI P t = some (s, g, z) ∧ ∃ cs, cells1 v = some cs ∧ cs.length = s ∧ match a with
    | .ptr r off => ∃ old, H[r]? = some (some (.obj old)) ∧ off + s ≤ old.length ∧ K (H.set r (some (.obj (splice off cs old))))
    | .rp r sz i off => ∃ es old, H[r]? = some (some (.row true sz es)) ∧ es[i]? = some old ∧ off + s ≤ old.length ∧
        K (H.set r (some (.row true sz (es.set i (splice off cs old)))))
    | _ => False
def nilS : AV → Bool
  | .v (.slice none _ _) => true
  | _ => false
def nilP : AV → Bool
  | .v (.pointer none) => true
  | _ => false
def nilF : AV → Bool
  | .v .nilFunc => true
  | _ => false
/-- A slice against nil. -/
def aeqS (a : AV) (k : Bool → Prop) : Prop :=
  match a with
  | .sl _ es => ∀ t, (t = true → es = []) → k t
  | .mt => ∀ t, k t
  | .hs _ _ _ n => ∀ t, (t = true → n = 0) → k t
  | _ => False
def surePtr : AV → Bool
  | .ptr _ _ | .rp _ _ _ _ | .cptr _ => true
  | _ => false
def nilM : AV → Bool
  | .v (.map none) => true
  | _ => false
def sureMp : AV → Bool
  | .mp _ => true
  | _ => false
def sureFn : AV → Bool
  | .fn _ _ _ => true
  | _ => false
def aeq (d : TypeDesc) (a b : AV) (k : Bool → Prop) : Prop :=
  match d with
  | .slice _ => nilS b = true ∧ aeqS a k
  | .pointer _ => ((surePtr a = true ∧ nilP b = true) ∨ (surePtr b = true ∧ nilP a = true)) ∧ k false
  | .func _ _ _ => sureFn a = true ∧ nilF b = true ∧ k false
  | .map _ _ => sureMp a = true ∧ nilM b = true ∧ k false
  | _ => False
def abin (P : Program) (op : BinOp) (t : TypeId) (x y : Operand) (a b : AV) (K : AV → Prop) : Prop :=
  match conc a, conc b with
  | some u, some v => ∃ r, Ret P (do eqGuard op t x y u v; binOp op t u v) r ∧ K (cv r)
  | _, _ => ∃ d, P.underlying t = some d ∧ match op with
    | .eql => aeq d a b fun s => K (.v (.bool s))
    | .neq => aeq d a b fun s => K (.v (.bool (!s)))
    | _ => False
/-- The cells of a byte. -/
def bcl (b : UInt8) : List AV := [.v (.int .u8 (b.toNat : Int))]
def chunks (sz : Nat) : Nat → List AV → List (List AV)
  | 0, _ => []
  | n + 1, cs => cs.take sz :: chunks sz n (cs.drop sz)
/-- What a slice (or a string) reads as. -/
def elems (H : Heap) (sz : Nat) : AV → Option (List (List AV))
  | .sl sz' es => if sz' = sz then some es else none
  | .hs r sz' off n => match H[r]? with
    | some (some (.row _ sz2 es)) => if sz' = sz ∧ sz2 = sz ∧ off + n ≤ es.length then some ((es.drop off).take n) else none
    | _ => none
  | .os r sz' off n => match H[r]? with
    | some (some (.obj cs)) => if sz' = sz ∧ off + n * sz ≤ cs.length then some (chunks sz n (cs.drop off)) else none
    | _ => none
  | .mt => some []
  | .v (.slice none 0 0) => some []
  | _ => none
/-- .. an operand of append or copy. -/
def source (P : Program) (H : Heap) (sz : Nat) (t : TypeId) : AV → Option (List (List AV))
  | .v (.string s) => match P.underlying t with
    | some .string => if sz = 1 then some (s.toList.map bcl) else none
    | _ => none
  | a => match P.underlying t with
    | some (.slice _) => elems H sz a
    | _ => none
def alen : AV → Option Nat
  | .sl _ es => some es.length
  | .hs _ _ _ n => some n
  | .os _ _ _ n => some n
  | .mt => some 0
  | .v (.slice none 0 0) => some 0
  | _ => none
def aconv (P : Program) (src dst : TypeId) (a : AV) (H : Heap) (K : AV → Heap → Prop) : Prop :=
  match P.underlying src, P.underlying dst with
  | some .string, some (.slice e) => match a with
    | .v (.string s) => P.underlying e = some (.int .u8) ∧ s.size ≤ 68719476736 ∧ K (.hs H.length 1 0 s.size) (H ++ [some (.row true 1 (s.toList.map bcl))])
    | _ => False
  | some (.slice e), some (.slice _) => src = dst ∧ P.underlying e = some (.int .u8) ∧ match a with
    | .hs r sz 0 n => (∃ es, H[r]? = some (some (.row true sz es))) ∧ 0 < n ∧ K (.hs r sz 0 n) H
    | _ => False
  | some (.slice e), some .string => P.underlying e = some (.int .u8) ∧ ∃ l, elems H 1 a = some (l.map bcl) ∧ K (.v (.string (str l))) H
  | some (.int _), some (.int k2) => match a with
    | .v (.int _ n) => K (.v (.int k2 (k2.wrap n))) H
    | _ => False
  | _, _ => ∃ u, conc a = some u ∧ ∃ r, Ret P (convert src dst u) r ∧ K (cv r) H
/-- The bounds of a slice expression. -/
def abound : Option AV → Int → Option Int
  | none, d => some d
  | some (.v (.int _ i)), _ => some i
  | _, _ => none
def aslice (P : Program) (t : TypeId) (a : AV) (lo hi mx : Option AV) (K : AV → Prop) : Prop :=
  match a with
  | .v (.string s) => P.underlying t = some .string ∧ mx = none ∧ ∃ l h, abound lo 0 = some l ∧ abound hi s.size = some h ∧ (0 ≤ l ∧ l ≤ h ∧ h ≤ s.size) ∧ K (.v (.string (s.extract l.toNat h.toNat)))
  | .ptr r off => ∃ n sz g, arI P t = some (n, sz, g) ∧ n ≤ 1099511627776 ∧ mx = none ∧ ∃ l h, abound lo 0 = some l ∧ abound hi n = some h ∧ (0 ≤ l ∧ l ≤ h ∧ h ≤ n) ∧ K (.os r sz (off + l.toNat * sz) (h - l).toNat)
  | a => ∃ e sz, slI P t = some (e, sz) ∧ ∃ n, alen a = some n ∧ ∃ l h m, abound lo 0 = some l ∧ abound hi n = some h ∧ abound mx n = some m ∧ (0 ≤ l ∧ l ≤ h ∧ h ≤ m ∧ m ≤ n) ∧ (mx.isSome = true → hi.isSome = true) ∧
      ((mx.isSome = true ∧ m = l → K .mt) ∧ (¬ (mx.isSome = true ∧ m = l) → match a with
        | .sl sz' es => sz' = sz ∧ K (.sl sz ((es.take h.toNat).drop l.toNat))
        | .hs r sz' off _ => sz' = sz ∧ K (.hs r sz (off + l.toNat) (h - l).toNat)
        | .os r sz' off _ => sz' = sz ∧ K (.os r sz (off + l.toNat * sz) (h - l).toNat)
        | .mt => K .mt
        | .v (.slice none 0 0) => K (.v (.slice none 0 0))
        | _ => False))
/-- The address of an element. -/
def aindexAddr (P : Program) (t : TypeId) (x i : AV) (K : AV → Prop) : Prop :=
  match i with
  | .v (.int _ i) => match x with
    | .sl sz es => (∃ e, slI P t = some (e, sz)) ∧ (0 ≤ i ∧ i < es.length) ∧ K (.cptr (es.getD i.toNat []))
    | .hs r sz off n => (∃ e, slI P t = some (e, sz)) ∧ (0 ≤ i ∧ i < n) ∧ K (.rp r sz (off + i.toNat) 0)
    | .os r sz off n => (∃ e, slI P t = some (e, sz)) ∧ (0 ≤ i ∧ i < n) ∧ K (.ptr r (off + i.toNat * sz))
    | .ptr r off => ∃ n sz g, arI P t = some (n, sz, g) ∧ (0 ≤ i ∧ i < n) ∧ K (.ptr r (off + i.toNat * sz))
    | .rp r s j off => ∃ n sz g, arI P t = some (n, sz, g) ∧ (0 ≤ i ∧ i < n) ∧ K (.rp r s j (off + i.toNat * sz))
    | .cptr cs => ∃ n sz g, arI P t = some (n, sz, g) ∧ (0 ≤ i ∧ i < n) ∧ K (.cptr (cs.drop (i.toNat * sz)))
    | _ => False
  | _ => False
def aindex (P : Program) (t : TypeId) (x i : AV) (K : AV → Prop) : Prop :=
  match i with
  | .v (.int _ i) => match x with
    | .v (.string s) => P.underlying t = some .string ∧ (0 ≤ i ∧ i < s.size) ∧ K (.v (.int .u8 ((s.data.getD i.toNat 0).toNat : Int)))
    | .agg cs => ∃ n sz g, arI P t = some (n, sz, g) ∧ (0 ≤ i ∧ i < n) ∧ apart g sz (cs.drop (i.toNat * sz)) K
    | _ => False
  | _ => False
def afield (P : Program) (t : TypeId) (x : AV) (f : Nat) (K : AV → Prop) : Prop :=
  ∃ fs off s g, stI P t = some fs ∧ fs[f]? = some (off, s, g) ∧ ∃ cs, x = .agg cs ∧ apart g s (cs.drop off) K
def afieldAddr (P : Program) (t : TypeId) (x : AV) (f : Nat) (K : AV → Prop) : Prop :=
  ∃ fs off s g, stI P t = some fs ∧ fs[f]? = some (off, s, g) ∧ s ≠ 0 ∧ match x with
    | .ptr r o => K (.ptr r (o + off))
    | .rp r sz i o => K (.rp r sz i (o + off))
    | .cptr cs => K (.cptr (cs.drop off))
    | _ => False
def afill (pl : Nat → Option (Nat × Nat)) (cells : List AV) : List (Nat × AV) → Option (List AV)
  | [] => some cells
  | (i, v) :: rest => match pl i, cells1 v with
    | some (off, size), some cs => if cs.length = size ∧ off + cs.length ≤ cells.length then afill pl (splice off cs cells) rest else none
    | _, _ => none
def abuild (P : Program) (t : TypeId) (parts : List (Nat × AV)) (K : AV → Prop) : Prop :=
  ∃ s g z, tyI P t = some (s, g, z) ∧ ((∃ fs, stI P t = some fs ∧ ∃ cs, afill (fun i => (fs[i]?).map fun x => (x.1, x.2.1)) z parts = some cs ∧ K (.agg cs)) ∨
    (∃ n sz g, arI P t = some (n, sz, g) ∧ ∃ cs, afill (fun i => some (i * sz, sz)) z parts = some cs ∧ K (.agg cs)))
def bfill (sz : Nat) (es : List (List AV)) : List (Nat × AV) → Option (List (List AV))
  | [] => some es
  | (i, v) :: rest => match cells1 v with
    | some cs => if cs.length = sz ∧ i < es.length then bfill sz (es.set i cs) rest else none
    | none => none
def abuildSlice (P : Program) (t : TypeId) (len : Nat) (parts : List (Nat × AV)) (H : Heap) (K : AV → Heap → Prop) : Prop :=
  ∃ e sz, slI P t = some (e, sz) ∧ ∃ g z, tyI P e = some (sz, g, z) ∧ 0 < sz ∧ len * sz ≤ 16777216 ∧ ∃ es, bfill sz (List.replicate len z) parts = some es ∧
    K (.hs H.length sz 0 len) (H ++ [some (.row true sz es)])
def amakeSlice (P : Program) (t : TypeId) (l c : AV) (H : Heap) (K : AV → Heap → Prop) : Prop :=
  ∃ e sz, slI P t = some (e, sz) ∧ ∃ g z, tyI P e = some (sz, g, z) ∧ ∃ k k' ln cp, l = .v (.int k ln) ∧ c = .v (.int k' cp) ∧ (0 ≤ ln ∧ ln ≤ cp ∧ cp ≤ 68719476736) ∧
    K (.hs H.length sz 0 ln.toNat) (H ++ [some (.row true sz (List.replicate ln.toNat z))])
/-- What is appended to: the row that goes, and what there was. -/
def dest (H : Heap) (sz : Nat) : AV → Option (Heap × List (List AV))
  | .v (.slice none 0 0) => some (H, [])
  | .mt => some (H, [])
  | .hs r sz' off n => match H[r]? with
    | some (some (.row true sz2 es)) => if sz' = sz ∧ sz2 = sz ∧ off = 0 ∧ n ≤ es.length then some (H.set r none, es.take n) else none
    | _ => none
  | _ => none
def aappend (P : Program) (ts : List TypeId) (as : List AV) (H : Heap) (K : AV → Heap → Prop) : Prop :=
  match ts, as with
  | [t, tx], [s, x] => ∃ e sz, slI P t = some (e, sz) ∧ ∃ H1 old, dest H sz s = some (H1, old) ∧ ∃ new, source P H sz tx x = some new ∧ old.length + new.length ≤ 68719476736 ∧
      K (.hs H.length sz 0 (old.length + new.length)) (H1 ++ [some (.row true sz (old ++ new))])
  | _, _ => False
def acopy (P : Program) (ts : List TypeId) (as : List AV) (H : Heap) (K : AV → Heap → Prop) : Prop :=
  match ts, as with
  | [t, tx], [d, x] => ∃ e sz, slI P t = some (e, sz) ∧ (∃ e', P.underlying tx = some (.slice e')) ∧ ∃ new, elems H sz x = some new ∧ match d with
    | .hs r sz' off n => ∃ es, H[r]? = some (some (.row true sz es)) ∧ sz' = sz ∧ off + n ≤ es.length ∧
        K (.v (.int .i64 (min new.length n : Nat))) (H.set r (some (.row true sz (es.take off ++ new.take (min new.length n) ++ es.drop (off + min new.length n)))))
    | .os r sz' off n => ∃ cs, H[r]? = some (some (.obj cs)) ∧ sz' = sz ∧ off + n * sz ≤ cs.length ∧
        K (.v (.int .i64 (min new.length n : Nat))) (H.set r (some (.obj (splice off (new.take (min new.length n)).flatten cs))))
    | _ => False
  | _, _ => False
def alenB (P : Program) (ts : List TypeId) (as : List AV) (K : AV → Prop) : Prop :=
  match ts, as with
  | [t], [.v (.string s)] => P.underlying t = some .string ∧ K (.v (.int .i64 s.size))
  | [t], [a] => (∃ e sz, slI P t = some (e, sz)) ∧ ∃ n, alen a = some n ∧ K (.v (.int .i64 n))
  | _, _ => False
def concl : List AV → Option (List Value)
  | [] => some []
  | a :: r => match conc a, concl r with
    | some x, some l => some (x :: l)
    | _, _ => none
/-! ### maps: keys are numbers of 64 bits -/
/-- A map's key and element types. -/
def mpI (P : Program) (t : TypeId) : Option (TypeId × TypeId) :=
  match P.underlying t with
  | some (.map k e) => (match P.underlying k with
    | some (.int .i64) => some (k, e)
    | _ => none)
  | _ => none
/-- The zero of a type. -/
def zvI (P : Program) (t : TypeId) : Option AV := (P.info? t).bind fun i => i.zero.map cv
/-- Where a key stands. -/
def kAt (ks : List Int) (k : Int) : Option Nat := if k ∈ ks then some (ks.idxOf k) else none
def kPut (ks : List Int) (vs : List AV) (k : Int) (a : AV) : Blk :=
  match kAt ks k with
  | some i => .map ks (vs.set i a) none
  | none => .map (ks ++ [k]) (vs ++ [a]) none
def kDel (ks : List Int) (vs : List AV) (k : Int) : Blk :=
  match kAt ks k with
  | some i => .map (ks.eraseIdx i) (vs.eraseIdx i) none
  | none => .map ks vs none
def amakeMap (P : Program) (t : TypeId) (r : Option AV) (H : Heap) (K : AV → Heap → Prop) : Prop :=
  ∃ ke, mpI P t = some ke ∧ r = none ∧ K (.mp H.length) (H ++ [some (.map [] [] none)])
def alookup (P : Program) (t : TypeId) (m k : AV) (ok : Bool) (H : Heap) (K : AV → Prop) : Prop :=
  ∃ kt e z, mpI P t = some (kt, e) ∧ zvI P e = some z ∧ ∃ x, k = .v (.int .i64 x) ∧ ∃ r, m = .mp r ∧ ∃ ks vs st, H[r]? = some (some (.map ks vs st)) ∧
    match kAt ks x with
    | some i => K (if ok then .tup [vs.getD i .any, .v (.bool true)] else vs.getD i .any)
    | none => K (if ok then .tup [z, .v (.bool false)] else z)
def amapUpdate (P : Program) (t : TypeId) (m k a : AV) (H : Heap) (K : Heap → Prop) : Prop :=
  ∃ ke, mpI P t = some ke ∧ ∃ x, k = .v (.int .i64 x) ∧ ∃ r, m = .mp r ∧ ∃ ks vs st, H[r]? = some (some (.map ks vs st)) ∧ K (H.set r (some (kPut ks vs x a)))
def adelete (P : Program) (ts : List TypeId) (as : List AV) (H : Heap) (K : AV → Heap → Prop) : Prop :=
  match ts, as with
  | [t, _], [m, k] => ∃ ke, mpI P t = some ke ∧ ∃ x, k = .v (.int .i64 x) ∧ ∃ r, m = .mp r ∧ ∃ ks vs st, H[r]? = some (some (.map ks vs st)) ∧ K (.tup []) (H.set r (some (kDel ks vs x)))
  | _, _ => False
def alenM (P : Program) (ts : List TypeId) (as : List AV) (H : Heap) (K : AV → Prop) : Prop :=
  match ts, as with
  | [t], [.mp r] => (∃ ke, mpI P t = some ke) ∧ ∃ ks vs st, H[r]? = some (some (.map ks vs st)) ∧ K (.v (.int .i64 ks.length))
  | ts, as => alenB P ts as K
/-- A walk over a map begins: the stamps are told. -/
def arange (P : Program) (t : TypeId) (m : AV) (H : Heap) (K : AV → Heap → Prop) : Prop :=
  ∃ ke, mpI P t = some ke ∧ ∃ r, m = .mp r ∧ ∃ ks vs st, H[r]? = some (some (.map ks vs st)) ∧
    ∀ bs c, K (.ptr H.length 0) (H.set r (some (.map ks vs (some (bs, c)))) ++ [some (.iter r bs c [])])
/-- .. goes on: any entry that has not been met, or the end. -/
def anext (x : AV) (str : Bool) (H : Heap) (K : AV → Heap → Prop) : Prop :=
  str = false ∧ ∃ q, x = .ptr q 0 ∧ ∃ r bs c seen, H[q]? = some (some (.iter r bs c seen)) ∧ ∃ ks vs, H[r]? = some (some (.map ks vs (some (bs, c)))) ∧
    ((∀ i, i < ks.length → i ∈ seen) → K (.tup [.v (.bool false)]) H) ∧
    ∀ i, i < ks.length → i ∉ seen → K (.tup [.v (.bool true), .v (.int .i64 (ks.getD i 0)), vs.getD i .any]) (H.set q (some (.iter r bs c (seen ++ [i]))))
def aentry (x : AV) (H : Heap) (K : AV → Prop) : Prop :=
  ∃ q, x = .ptr q 0 ∧ ∃ r bs c seen, H[q]? = some (some (.iter r bs c seen)) ∧ ∃ ks vs, H[r]? = some (some (.map ks vs (some (bs, c)))) ∧
    ∃ i, seen.getLast? = some i ∧ i < ks.length ∧ K (.tup [.v (.int .i64 (ks.getD i 0)), vs.getD i .any])
def abuiltin (P : Program) (b : Builtin) (ts : List TypeId) (ty : TypeId) (as : List AV) (H : Heap) (K : AV → Heap → Prop) : Prop :=
  match b with
  | .len => alenM P ts as H fun v => K v H
  | .delete => adelete P ts as H K
  | .append => aappend P ts as H K
  | .copy => acopy P ts as H K
  | .cap => match ts, as with
    | [t], [.mt] => (∃ e sz, slI P t = some (e, sz)) ∧ K (.v (.int .i64 0)) H
    | [t], [.v (.slice none 0 0)] => (∃ e sz, slI P t = some (e, sz)) ∧ K (.v (.int .i64 0)) H
    | _, _ => False
  | .min => ∃ us, concl as = some us ∧ ∃ r, Ret P (Builtin.min_ ts.toArray ty us.toArray) r ∧ K (cv r) H
  | .max => ∃ us, concl as = some us ∧ ∃ r, Ret P (Builtin.max_ ts.toArray ty us.toArray) r ∧ K (cv r) H
  | _ => False
/-- A call of a function of the program. -/
def acallF (E : Env) (g : FuncId) (as : List AV) (H : Heap) (K : AV → Heap → Prop) : Prop := ∃ R, ACalls E g as H R ∧ ∀ r H', R r H' → K r H'
/-- What a pointer type's values point to. -/
def ptI (P : Program) (t : TypeId) : Option TypeId := match P.underlying t with
  | some (.pointer e) => some e
  | _ => none
/-- A method of pointers of type t: the function, and whether it is handed what lies at the pointer (and of which type). -/
def methI (P : Program) (t : TypeId) (m : String) : Option (FuncId × Option TypeId) :=
  match P.info? t with
  | some i => match i.methods.find? (fun x => x.name == m) with
    | some ms => match ms.path.toList, ms.func, P.underlying t with
      | [], some (f, true), some (.pointer _) => some (f, none)
      | [], some (f, false), some (.pointer e) => some (f, some e)
      | _, _, _ => none
    | none => none
  | none => none
/-- A method called through an interface. -/
def ainvoke (E : Env) (x : AV) (m : String) (as : List AV) (H : Heap) (K : AV → Heap → Prop) : Prop :=
  match x with
  | .ifp t r off => match methI E.P t m with
    | some (g, none) => acallF E g (.ptr r off :: as) H K
    | some (g, some e) => aload E.P e (.ptr r off) H fun v => acallF E g (v :: as) H K
    | none => False
  | _ => False
def amkI (P : Program) (t : TypeId) (x : AV) (K : AV → Prop) : Prop :=
  match ptI P t, x with
  | some _, .ptr r off => K (.ifp t r off)
  | _, _ => False
def atyA (P : Program) (x : AV) (t : TypeId) (ok : Bool) (K : AV → Prop) : Prop :=
  match x, ok, ptI P t with
  | .ifp t' r off, true, some _ => t' = t ∧ K (.tup [.ptr r off, .v (.bool true)])
  | _, _, _ => False
def acall (E : Env) (ρ : Operand → AV) (c : Call) (ty : TypeId) (H : Heap) (K : AV → Heap → Prop) : Prop :=
  match c.callee with
  | .builtin b => abuiltin E.P b c.argTypes.toList ty (c.args.toList.map ρ) H K
  | .value f => match ρ f with
    | .fn g first caps => acallF E g (first ++ c.args.toList.map ρ ++ caps) H K
    | _ => False
  | .invoke x m => ainvoke E (ρ x) m (c.args.toList.map ρ) H K
def sure : AV → Bool
  | .ptr _ _ | .rp _ _ _ _ | .cptr _ | .fn _ _ _ => true
  | _ => false
/-- One of two. -/
def apick (t : Bool) (a b : AV) (K : AV → Prop) : Prop := (t = true → K a) ∧ (t = false → K b)
def aop (E : Env) (o : Op) (ty : TypeId) (ρ : Operand → AV) (H : Heap) (K : AV → Heap → Prop) : Prop :=
  match o with
  | .move x | .assign x => K (ρ x) H
  | .pick c a b => match ρ c with
    | .v (.bool t) => apick t (ρ a) (ρ b) fun v => K v H
    | _ => False
  | .alloc t => match tyI E.P t with
    | some (_, _, z) => K (.ptr H.length 0) (H ++ [some (.obj z)])
    | none => False
  | .box _ x => match cells1 (ρ x) with
    | some cs => K (.ptr H.length 0) (H ++ [some (.obj cs)])
    | none => False
  | .build t parts => abuild E.P t (parts.toList.map fun p => (p.1, ρ p.2)) fun v => K v H
  | .buildSlice t len parts => abuildSlice E.P t len (parts.toList.map fun p => (p.1, ρ p.2)) H K
  | .load t a => aload E.P t (ρ a) H fun v => K v H
  | .store t a x => astore E.P t (ρ a) (ρ x) H fun H' => K (.v undef) H'
  | .nilCheck x => sure (ρ x) = true ∧ K (ρ x) H
  | .binOp op t x y _ => abin E.P op t x y (ρ x) (ρ y) fun v => K v H
  | .unOp op _ x => ∃ u, conc (ρ x) = some u ∧ ∃ r, Ret E.P (Op.unary op u) r ∧ K (cv r) H
  | .convert src dst x => aconv E.P src dst (ρ x) H K
  | .makeFunc f first caps => match f with
    | .func f => K (.fn f (first.toList.map ρ) (caps.toList.map ρ)) H
    | _ => False
  | .makeSlice t l c => amakeSlice E.P t (ρ l) (ρ c) H K
  | .slice t x lo hi mx => aslice E.P t (ρ x) (lo.map ρ) (hi.map ρ) (mx.map ρ) fun v => K v H
  | .fieldAddr t x f => afieldAddr E.P t (ρ x) f fun v => K v H
  | .field t x f => afield E.P t (ρ x) f fun v => K v H
  | .indexAddr t x i => aindexAddr E.P t (ρ x) (ρ i) fun v => K v H
  | .index t x i => aindex E.P t (ρ x) (ρ i) fun v => K v H
  | .extract x i => match ρ x with
    | .tup vs => (match vs[i]? with
      | some a => K a H
      | none => False)
    | _ => False
  | .call c => acall E ρ c ty H K
  | .makeMap t r => amakeMap E.P t (r.map ρ) H K
  | .lookup t m k ok => alookup E.P t (ρ m) (ρ k) ok H fun v => K v H
  | .mapUpdate t m k x => amapUpdate E.P t (ρ m) (ρ k) (ρ x) H fun H' => K (.v undef) H'
  | .range t m => arange E.P t (ρ m) H K
  | .next x s => anext (ρ x) s H K
  | .entry x => aentry (ρ x) H fun v => K v H
  | .makeInterface t x => amkI E.P t (ρ x) fun v => K v H
  | .typeAssert x _ t ok => atyA E.P (ρ x) t ok fun v => K v H
  | _ => False
def put (T : Nat → AV) (d : Nat) (v : AV) : Nat → AV := fun i => if i = d then v else T i
def aput (T : Nat → AV) : Option Tmp → AV → Nat → AV
  | some d, v => put T d v
  | none, _ => T
def dstOk (N : Nat) : Option Tmp → Bool
  | some d => decide (d < N)
  | none => true
/-- The slots that are written are there. -/
def codeOk (N : Nat) : Code → Bool
  | .region _ ops _ => ops.toList.all fun o => dstOk N o.dst
  | .seq a b => codeOk N a && codeOk N b
  | .cond _ a b => codeOk N a && codeOk N b
  | .block _ c | .scope c | .loop c => codeOk N c
  | _ => true
/-- What a guard sees. -/
def ayield (all : Array Oper) (T : Nat → AV) (j : Nat) : Option (Option Bool) :=
  match (all[j]?).bind (·.dst) with
  | some d => match T d with
    | .v (.bool b) => some (some b)
    | .v (.tuple _) => some none
    | _ => none
  | none => none
def aops (E : Env) (all : Array Oper) : List Oper → (Nat → AV) → Heap → ((Nat → AV) → Heap → Prop) → Prop
  | [], T, H, K => K T H
  | o :: os, T, H, K => match o.guard with
    | none => aop E o.op o.type (ev E.gl T) H fun v H' => aops E all os (aput T o.dst v) H' K
    | some (j, want) => match ayield all T j with
      | some (some b) => (b = want → aop E o.op o.type (ev E.gl T) H fun v H' => aops E all os (aput T o.dst v) H' K) ∧
          (¬ b = want → aops E all os (aput T o.dst (.v undef)) H K)
      | some none => aops E all os (aput T o.dst (.v undef)) H K
      | none => False
end Go.Am

namespace Go.Am
open Go.RowKit Go.Cx

/-! ### types -/
theorem tyI_out {P : Program} {t : TypeId} {s : Nat} {g : Bool} {z : List AV} (h : tyI P t = some (s, g, z)) :
    (∀ w, (sizeOf t).run P w = .ok s w) ∧ (∀ w, (isAgg t).run P w = .ok g w) ∧
    ∃ i d zv, P.info? t = some i ∧ P.underlying t = some d ∧ i.zero = some zv ∧ i.size = s ∧ zv.cells.size = s ∧ zv.cells.all (·.oneCell') = true ∧ z = zv.cells.toList.map .v ∧ g = isAggD d := by
  unfold tyI at h
  split at h
  case h_2 => cases h
  case h_1 i d hi hd =>
  split at h
  case h_2 => cases h
  case h_1 zv hz =>
  split at h
  case isFalse => cases h
  case isTrue hc =>
  simp only [Option.some.injEq, Prod.mk.injEq] at h
  obtain ⟨rfl, rfl, rfl⟩ := h
  refine ⟨fun w => by simp [sizeOf, typeInfo, hi], fun w => ?_, i, d, zv, hi, hd, hz, rfl, hc.1, hc.2, rfl, rfl⟩
  unfold isAgg
  rw [Sem.run_bind, run_underlying hd w]
  cases d <;> simp [isAggD]
theorem slI_out {P : Program} {t e : TypeId} {sz : Nat} (h : slI P t = some (e, sz)) :
    P.underlying t = some (.slice e) ∧ (∀ w, (sizeOf e).run P w = .ok sz w) ∧ ∃ i zv, P.info? e = some i ∧ i.zero = some zv ∧ i.size = sz ∧ zv.cells.size = sz ∧ i.bytes ≤ 1024 := by
  unfold slI at h
  split at h
  case h_2 => cases h
  case h_1 e' hu =>
  split at h
  case h_2 => cases h
  case h_1 i hi =>
  split at h
  case h_2 => cases h
  case h_1 zv hz =>
  split at h
  case isFalse => cases h
  case isTrue hc =>
  simp only [Option.some.injEq, Prod.mk.injEq] at h
  obtain ⟨rfl, rfl⟩ := h
  exact ⟨hu, fun w => by simp [sizeOf, typeInfo, hi], i, zv, hi, hz, rfl, hc.1, hc.2⟩
theorem fieldI_out {P : Program} {f : Field} {off s : Nat} {g : Bool} (h : fieldI P f = some (off, s, g)) :
    f.offset = off ∧ (∀ w, (sizeOf f.type).run P w = .ok s w) ∧ (∀ w, (isAgg f.type).run P w = .ok g w) := by
  unfold fieldI at h
  split at h
  case h_2 => cases h
  case h_1 i d hi hd =>
  simp only [Option.some.injEq, Prod.mk.injEq] at h
  obtain ⟨rfl, rfl, rfl⟩ := h
  refine ⟨rfl, fun w => by simp [sizeOf, typeInfo, hi], fun w => ?_⟩
  unfold isAgg
  rw [Sem.run_bind, run_underlying hd w]
  cases d <;> simp [isAggD]
theorem fieldsI_out {P : Program} : ∀ {fs : List Field} {l : List (Nat × Nat × Bool)}, fieldsI P fs = some l → l.length = fs.length ∧ ∀ (k : Nat) (x : Nat × Nat × Bool), l[k]? = some x → ∃ f, fs[k]? = some f ∧ fieldI P f = some x
  | [], l, h => by
    unfold fieldsI at h
    cases h
    simp
  | f :: fs, l, h => by
    unfold fieldsI at h
    split at h
    case h_2 => cases h
    case h_1 x r hx hr =>
    cases h
    obtain ⟨h1, h2⟩ := fieldsI_out hr
    refine ⟨by simp [h1], fun k y hk => ?_⟩
    cases k with
    | zero => simp at hk; subst hk; exact ⟨f, rfl, hx⟩
    | succ k => exact h2 k y (by simpa using hk)
theorem stI_out {P : Program} {t : TypeId} {l : List (Nat × Nat × Bool)} (h : stI P t = some l) : ∃ fs, P.underlying t = some (.struct fs) ∧ l.length = fs.size ∧ ∀ (k : Nat) (x : Nat × Nat × Bool), l[k]? = some x → ∃ f, fs[k]? = some f ∧ fieldI P f = some x := by
  unfold stI at h
  split at h
  case h_2 => cases h
  case h_1 fs hu =>
  obtain ⟨h1, h2⟩ := fieldsI_out h
  refine ⟨fs, hu, by simpa using h1, fun k x hk => ?_⟩
  obtain ⟨f, hf, hx⟩ := h2 k x hk
  exact ⟨f, by simpa using hf, hx⟩
theorem arI_out {P : Program} {t : TypeId} {n sz : Nat} {g : Bool} (h : arI P t = some (n, sz, g)) : ∃ e, P.underlying t = some (.array n e) ∧ (∀ w, (sizeOf e).run P w = .ok sz w) ∧ (∀ w, (isAgg e).run P w = .ok g w) := by
  unfold arI at h
  split at h
  case h_2 => cases h
  case h_1 m e hu =>
  split at h
  case h_2 => cases h
  case h_1 i d hi hd =>
  simp only [Option.some.injEq, Prod.mk.injEq] at h
  obtain ⟨rfl, rfl, rfl⟩ := h
  refine ⟨e, hu, fun w => by simp [sizeOf, typeInfo, hi], fun w => ?_⟩
  unfold isAgg
  rw [Sem.run_bind, run_underlying hd w]
  cases d <;> simp [isAggD]
/-! ### values -/
section
variable {M : Mem} {n : Nat} {w : World}

theorem VRs_consts : ∀ {l : List Value}, (∀ x ∈ l, x.oneCell' = true) → VRs M n w (l.map .v) l
  | [], _ => by simp [VRs]
  | x :: l, h => by
    simp only [List.map_cons]
    unfold VRs
    exact ⟨x, l, rfl, h x (by simp), by simp [VR], VRs_consts fun y hy => h y (by simp [hy])⟩
theorem all_one {cs : Array Value} (h : cs.all (·.oneCell') = true) : ∀ x ∈ cs.toList, x.oneCell' = true := by
  rw [← Array.all_toList] at h
  exact List.all_eq_true.1 h
theorem VR_cv (x : Value) : VR M n w (cv x) x := by
  unfold cv
  split
  · split
    case isTrue h =>
      unfold VR
      exact ⟨_, by simp, VRs_consts (all_one h)⟩
    case isFalse h => simp [VR]
  · simp [VR]
theorem concs_out : ∀ {cs : List AV} {l us : List Value}, concs cs = some l → VRs M n w cs us → us = l
  | [], l, us, h, k => by
    unfold concs at h; unfold VRs at k; cases h; exact k
  | .v x :: r, l, us, h, k => by
    unfold concs at h
    obtain ⟨l', h1, rfl⟩ := Option.map_eq_some_iff.1 h
    unfold VRs at k
    obtain ⟨u, r', rfl, _, h3, h4⟩ := k
    unfold VR at h3
    rw [h3, concs_out h1 h4]
  | .any :: r, l, us, h, k | .sl .. :: r, l, us, h, k | .mt :: r, l, us, h, k | .hs .. :: r, l, us, h, k | .os .. :: r, l, us, h, k | .ptr .. :: r, l, us, h, k
  | .rp .. :: r, l, us, h, k | .cptr .. :: r, l, us, h, k | .agg .. :: r, l, us, h, k | .tup .. :: r, l, us, h, k | .fn .. :: r, l, us, h, k => by unfold concs at h; cases h
theorem conc_out {a : AV} {x u : Value} (h : conc a = some x) (k : VR M n w a u) : u = x := by
  unfold conc at h
  split at h
  · cases h
    unfold VR at k
    exact k
  · obtain ⟨l, h1, rfl⟩ := Option.map_eq_some_iff.1 h
    unfold VR at k
    obtain ⟨us, rfl, h2⟩ := k
    rw [concs_out h1 h2]
  · cases h
theorem cells1_out {a : AV} {cs : List AV} {u : Value} (h : cells1 a = some cs) (k : VR M n w a u) : VRs M n w cs u.cells.toList := by
  have one : ∀ {a : AV} {u : Value}, u.cells = #[u] → u.oneCell' = true → VR M n w a u → VRs M n w [a] u.cells.toList := by
    intro a u h1 h2 h3
    rw [h1]
    unfold VRs
    exact ⟨u, [], rfl, h2, h3, by simp [VRs]⟩
  cases a with
  | any => cases h
  | tup => cases h
  | agg l =>
    cases h
    unfold VR at k
    obtain ⟨us, rfl, h2⟩ := k
    simpa [Value.cells] using h2
  | v x =>
    simp only [cells1] at h
    split at h
    case isFalse => cases h
    case isTrue hx =>
      cases h
      have e : u = x := by unfold VR at k; exact k
      subst e
      exact one (by cases u <;> first | rfl | simp [Value.oneCell'] at hx) hx k
  | sl => cases h; exact one (by unfold VR at k; obtain ⟨_, _, _, rfl, _⟩ := k; rfl) (by unfold VR at k; obtain ⟨_, _, _, rfl, _⟩ := k; rfl) k
  | mt => cases h; exact one (by unfold VR at k; obtain ⟨_, rfl⟩ := k; rfl) (by unfold VR at k; obtain ⟨_, rfl⟩ := k; rfl) k
  | hs => cases h; exact one (by unfold VR at k; obtain ⟨_, _, _, rfl, _⟩ := k; rfl) (by unfold VR at k; obtain ⟨_, _, _, rfl, _⟩ := k; rfl) k
  | os => cases h; exact one (by unfold VR at k; obtain ⟨_, _, _, rfl, _⟩ := k; rfl) (by unfold VR at k; obtain ⟨_, _, _, rfl, _⟩ := k; rfl) k
  | ptr => cases h; exact one (by unfold VR at k; obtain ⟨_, _, _, rfl⟩ := k; rfl) (by unfold VR at k; obtain ⟨_, _, _, rfl⟩ := k; rfl) k
  | rp => cases h; exact one (by unfold VR at k; obtain ⟨_, _, _, rfl⟩ := k; rfl) (by unfold VR at k; obtain ⟨_, _, _, rfl⟩ := k; rfl) k
  | cptr => cases h; exact one (by unfold VR at k; obtain ⟨_, _, _, rfl, _⟩ := k; rfl) (by unfold VR at k; obtain ⟨_, _, _, rfl, _⟩ := k; rfl) k
  | fn => cases h; exact one (by unfold VR at k; obtain ⟨_, _, rfl, _⟩ := k; rfl) (by unfold VR at k; obtain ⟨_, _, rfl, _⟩ := k; rfl) k
  | mp => cases h; exact one (by unfold VR at k; obtain ⟨_, _, _, rfl⟩ := k; rfl) (by unfold VR at k; obtain ⟨_, _, _, rfl⟩ := k; rfl) k
  | ifp => cases h; exact one (by unfold VR at k; obtain ⟨_, _, _, rfl⟩ := k; rfl) (by unfold VR at k; obtain ⟨_, _, _, rfl⟩ := k; rfl) k
end

/-- The slots hold what T says. -/
def TR (M : Mem) (n : Nat) (w : World) (N : Nat) (T : Nat → AV) (a : Act) : Prop := a.tmps.size = N ∧ ∀ i, VR M n w (T i) (a.tmps.getD i undef)
theorem ev_out {gl : Nat → AV} {M : Mem} {w : World} {H : Heap} {N : Nat} {T : Nat → AV} {a : Act} (hG : Gam gl M w H) (hT : TR M H.length w N T a) (x : Operand) : VR M H.length w (ev gl T x) (a.eval x) := by
  cases x with
  | tmp t => exact hT.2 t
  | const v => exact VR_cv v
  | global g => exact VR.mono (fun _ h => h) (fun _ _ => rfl) (Nat.zero_le _) (fun _ _ => ⟨rfl, rfl⟩) (hG.glob g)
  | func f =>
    unfold ev VR
    exact ⟨[], [], rfl, by simp [VRt], by simp [VRt]⟩
/-- m ends well. -/
def Yields (E : Env) (M : Mem) (w : World) (H : Heap) (m : Sem Value) (K : AV → Heap → Prop) : Prop :=
  ∃ u w' v M' H', m.run E.P w = .ok u w' ∧ K v H' ∧ Gam E.gl M' w' H' ∧ VR M' H'.length w' v u ∧ Ext M w H M' w' H'
section
variable {E : Env} {M : Mem} {w : World} {H : Heap}

theorem Yields.pure {m : Sem Value} {K : AV → Heap → Prop} {u : Value} {v : AV} (hG : Gam E.gl M w H) (hr : m.run E.P w = .ok u w) (hv : VR M H.length w v u) (hK : K v H) : Yields E M w H m K :=
  ⟨u, w, v, M, H, hr, hK, hG, hv, Ext.refl M w H⟩
theorem Yields.ret {m : Sem Value} {K : AV → Heap → Prop} {r : Value} (hG : Gam E.gl M w H) (hr : Ret E.P m r) (hK : K (cv r) H) : Yields E M w H m K :=
  .pure hG (hr w) (VR_cv r) hK
theorem run_part {P : Program} {t : TypeId} {s : Nat} {g : Bool} (hs : ∀ w, (sizeOf t).run P w = .ok s w) (hg : ∀ w, (isAgg t).run P w = .ok g w) (cs : Array Value) (off : Nat) (w : World) :
    (part t cs off).run P w = if g then .ok (.agg (cs.extract off (off + s))) w else match cs[off]? with
      | some v => .ok v w
      | none => .halt (.stuck "part: no such cell") w := by
  unfold part
  rw [Sem.run_bind, hg w]
  cases g with
  | true => simp [hs w]
  | false =>
    simp only [Result.andThen_ok, Bool.false_eq_true, if_false]
    cases cs[off]? <;> rfl
theorem part_sound {K : AV → Heap → Prop} {t : TypeId} {s : Nat} {g : Bool} {cs : List AV} {us : List Value} {off : Nat} (hG : Gam E.gl M w H) (hs : ∀ w, (sizeOf t).run E.P w = .ok s w) (hg : ∀ w, (isAgg t).run E.P w = .ok g w)
    (hu : VRs M H.length w cs us) (h : apart g s (cs.drop off) fun v => K v H) : Yields E M w H (part t us.toArray off) K := by
  have hd := VRs.drop off hu
  cases g with
  | true =>
    obtain ⟨h1, h2⟩ := h
    refine .pure hG (by rw [run_part hs hg, if_pos rfl]) ?_ h2
    unfold VR
    refine ⟨(us.drop off).take s, ?_, VRs.take s hd⟩
    congr 1
    apply Array.ext'
    simp
  | false =>
    obtain ⟨c, r, h1, h2⟩ := h
    rw [h1] at hd
    unfold VRs at hd
    obtain ⟨u, r', h3, h4, h5, _⟩ := hd
    refine .pure hG ?_ h5 h2
    rw [run_part hs hg, if_neg (by simp)]
    have h6 : us[off]? = some u := by
      have h7 : (us.drop off)[0]? = some u := by rw [h3]; rfl
      simpa using h7
    simp [h6]
theorem load_pure {K : AV → Prop} {t : TypeId} {s : Nat} {g : Bool} {z : List AV} {cs : List AV} {us : List Value} {b o n : Nat} (ht : tyI E.P t = some (s, g, z))
    (hu : VRs M n w cs us) (hc : ∀ j x, us[j]? = some x → w.cell? ⟨b, o + j, none⟩ = some x) (h : apart g s cs K) : ∃ u v, (loadVar t ⟨b, o, none⟩).run E.P w = .ok u w ∧ VR M n w v u ∧ K v := by
  obtain ⟨h1, h2, _⟩ := tyI_out ht
  cases g with
  | true =>
    obtain ⟨h3, h4⟩ := h
    have hl := VRs.len hu
    refine ⟨.agg (us.take s).toArray, _, ?_, ?_, h4⟩
    · unfold loadVar
      rw [Sem.run_bind, h2 w]
      simp only [Result.andThen_ok, if_true]
      rw [Sem.run_bind, h1 w]
      simp only [Result.andThen_ok, Sem.run_bind]
      have h5 := run_loadCells_list (P := E.P) w ⟨b, o, none⟩ (us.take s) (fun j v hj => by
        rw [addr_add]
        rw [List.getElem?_take] at hj
        split at hj
        · exact hc j v hj
        · cases hj)
      have h6 : (us.take s).length = s := by rw [List.length_take, hl]; omega
      rw [h6] at h5
      simp [h5]
    · unfold VR
      exact ⟨_, rfl, VRs.take s hu⟩
  | false =>
    obtain ⟨c, r, rfl, h4⟩ := h
    unfold VRs at hu
    obtain ⟨u, r', rfl, h5, h6, _⟩ := hu
    refine ⟨u, c, ?_, h6, h4⟩
    unfold loadVar
    rw [Sem.run_bind, h2 w]
    have h7 := hc 0 u rfl
    rw [Nat.add_zero] at h7
    simp [load, Sem.run, h7]
theorem load_sound {K : AV → Heap → Prop} {t : TypeId} {s : Nat} {g : Bool} {z : List AV} {cs : List AV} {us : List Value} {b o : Nat} (hG : Gam E.gl M w H) (ht : tyI E.P t = some (s, g, z))
    (hu : VRs M H.length w cs us) (hc : ∀ j x, us[j]? = some x → w.cell? ⟨b, o + j, none⟩ = some x) (h : apart g s cs fun v => K v H) : Yields E M w H (Instr.loadAt t (.pointer (some ⟨b, o, none⟩))) K := by
  obtain ⟨u, v, h1, h2, h3⟩ := load_pure ht hu hc h
  refine .pure hG ?_ h2 h3
  rw [← h1]
  simp [Instr.loadAt, Instr.sureAddr]
theorem place_out {a : AV} {cs : List AV} {u : Value} (hG : Gam E.gl M w H) (ha : VR M H.length w a u) (h : place H a = some cs) :
    ∃ b o us, u = .pointer (some ⟨b, o, none⟩) ∧ VRs M H.length w cs us ∧ ∀ j x, us[j]? = some x → w.cell? ⟨b, o + j, none⟩ = some x := by
  unfold place at h
  split at h
  · next r off =>
    unfold VR at ha
    obtain ⟨h0, b, h1, rfl⟩ := ha
    split at h
    case h_2 => cases h
    case h_1 cs' hr =>
    cases h
    obtain ⟨b', cur, t, fr, h3, h4, h5, h6, h7⟩ := hG.blks r _ hr
    rw [h1] at h3
    cases h3
    refine ⟨b, off, cur.toList.drop off, rfl, VRs.drop off h7, fun j x hj => ?_⟩
    rw [cell_of_row w b _ cur t fr h4]
    simpa using hj
  · next r sz i off =>
    unfold VR at ha
    obtain ⟨h0, b, h1, rfl⟩ := ha
    split at h
    case h_2 => cases h
    case h_1 hot sz' es hr =>
    split at h
    case isFalse => cases h
    case isTrue hsz =>
    subst hsz
    obtain ⟨el, he, rfl⟩ := Option.map_eq_some_iff.1 h
    rcases hG.blks r _ hr with ⟨h2, _⟩ | ⟨b', cur, e, fr, us, h3, h4, h5, h6, h7, h8, h9⟩
    · rw [h1] at h2; cases h2
    · rw [h1] at h3
      cases h3
      obtain ⟨c, c1, c2, c3⟩ := VRss.get h7 he
      refine ⟨b, i * sz' + off, c.drop off, rfl, VRs.drop off c2, fun j x hj => ?_⟩
      have hj' : c[off + j]? = some x := by simpa using hj
      have hlt : off + j < sz' := by rw [← c1]; exact (List.getElem?_eq_some_iff.1 hj').1
      have h10 := c3 (off + j) hlt
      rw [hj', ← h8, List.getElem?_take] at h10
      split at h10
      · rw [cell_of_row w b _ cur e fr h4, Nat.add_assoc]
        simpa using h10
      · cases h10
  · next cs' =>
    cases h
    unfold VR at ha
    obtain ⟨b, off, us, rfl, h2, h3, h4⟩ := ha
    exact ⟨b, off, us, rfl, h3, h4⟩
  · cases h
/-! ### a new block -/
def Mem.push (M : Mem) (n b s : Nat) : Mem := { blk := fun r => if r = n then some b else M.blk r, bsz := fun r => if r = n then s else M.bsz r, G := M.G }
theorem getElem?_snoc {α : Type} (l : List α) (x : α) (r : Nat) : (l ++ [x])[r]? = if r = l.length then some x else l[r]? := by
  by_cases h : r < l.length
  · rw [List.getElem?_append_left h, if_neg (by omega)]
  · rw [List.getElem?_append_right (by omega)]
    by_cases h2 : r = l.length
    · subst h2; simp
    · rw [if_neg h2, List.getElem?_eq_none (by simp; omega), List.getElem?_eq_none (by omega)]
theorem BR.mono {M M' : Mem} {n n' : Nat} {w w' : World} {r r' : Nat} {B : Blk} (hG : ∀ b, M.G b → M'.G b) (hw : ∀ b, M.G b → w'.heap[b]? = w.heap[b]?) (hn : n ≤ n') (hb : ∀ r, r < n → M'.blk r = M.blk r ∧ M'.bsz r = M.bsz r)
    (h1 : M'.blk r' = M.blk r) (h2 : M'.bsz r' = M.bsz r) (h3 : ∀ b, M.blk r = some b → w'.heap[b]? = w.heap[b]?) (h : BR M n w r B) : BR M' n' w' r' B := by
  cases B with
  | obj cs =>
    obtain ⟨b, cur, t, fr, k1, k2, k3, k4, k5⟩ := h
    exact ⟨b, cur, t, fr, by rw [h1, k1], by rw [h3 b k1, k2], k3, by rw [h2, k4], VRs.mono hG hw hn hb k5⟩
  | row hot sz es =>
    rcases h with ⟨k1, k2⟩ | ⟨b, cur, e, fr, us, k1, k2, k3, k4, k5, k6, k7⟩
    · exact .inl ⟨by rw [h1, k1], k2⟩
    · exact .inr ⟨b, cur, e, fr, us, by rw [h1, k1], by rw [h3 b k1, k2], k3, by rw [h2, k4], VRss.mono hG hw hn hb k5, k6, fun hh => hG b (k7 hh)⟩
  | map ks vs st =>
    obtain ⟨b, es, c, l, k1, k2, k3, k4, k5, k6, k7⟩ := h
    exact ⟨b, es, c, l, by rw [h1, k1], by rw [h3 b k1, k2], k3, k4, k5, VRt.mono hG hw hn hb k6, k7⟩
  | iter m bs c seen =>
    obtain ⟨k0, b, bm, k1, k2, k3, k4⟩ := h
    exact ⟨Nat.lt_of_lt_of_le k0 hn, b, bm, by rw [h1, k1], by rw [(hb m k0).1, k2], k3, by rw [h3 b k1, k4]⟩
theorem BR.lt {M : Mem} {n : Nat} {w : World} {r b : Nat} {B : Blk} (h : BR M n w r B) (hb : M.blk r = some b) : b < w.heap.size := by
  cases B with
  | obj cs =>
    obtain ⟨b', cur, t, fr, k1, k2, _⟩ := h
    rw [hb] at k1
    cases k1
    exact (Array.getElem?_eq_some_iff.1 k2).1
  | row hot sz es =>
    rcases h with ⟨k1, _⟩ | ⟨b', cur, e, fr, us, k1, k2, _⟩
    · rw [hb] at k1; cases k1
    · rw [hb] at k1
      cases k1
      exact (Array.getElem?_eq_some_iff.1 k2).1
  | map ks vs st =>
    obtain ⟨b', es, c, l, k1, k2, _⟩ := h
    rw [hb] at k1
    cases k1
    exact (Array.getElem?_eq_some_iff.1 k2).1
  | iter m bs c seen =>
    obtain ⟨_, b', bm, k1, _, _, k2⟩ := h
    rw [hb] at k1
    cases k1
    exact (Array.getElem?_eq_some_iff.1 k2).1
/-- .. of whatever kind; the tape may have been asked. -/
theorem Gam.push {w1 : World} {o : Obj} {B : Blk} {s : Nat} (hG : Gam E.gl M w H) (hw1 : w1.heap = w.heap) (ho : w1.os = w.os) (ht : w1.tape = w.tape ∧ w.drawn ≤ w1.drawn) (hp : w1.output = w.output)
    (hB : ∀ M', (∀ r, r < H.length → M'.blk r = M.blk r ∧ M'.bsz r = M.bsz r) → M'.G = M.G → M'.blk H.length = some w.heap.size → M'.bsz H.length = s → (w1.alloc o).heap[w.heap.size]? = some o → (∀ b, b < w.heap.size → (w1.alloc o).heap[b]? = w.heap[b]?) →
      BR M' (H.length + 1) (w1.alloc o) H.length B) :
    Gam E.gl (M.push H.length w.heap.size s) (w1.alloc o) (H ++ [some B]) ∧ Ext M w H (M.push H.length w.heap.size s) (w1.alloc o) (H ++ [some B]) := by
  have hsz : (w1.alloc o).heap.size = w.heap.size + 1 := by simp [World.alloc, hw1]
  have hold : ∀ b, b < w.heap.size → (w1.alloc o).heap[b]? = w.heap[b]? := fun b hb => by
    rw [Go.heap_alloc_old w1 o (by rw [hw1]; exact hb), hw1]
  have hnew : (w1.alloc o).heap[w.heap.size]? = some o := by
    have := heap_alloc_new w1 o
    rwa [hw1] at this
  have hGw : ∀ b, M.G b → (w1.alloc o).heap[b]? = w.heap[b]? := fun b hb => hold b (hG.inG b hb)
  have hbl : ∀ r, r < H.length → (M.push H.length w.heap.size s).blk r = M.blk r ∧ (M.push H.length w.heap.size s).bsz r = M.bsz r := fun r hr => by
    simp only [Mem.push]
    rw [if_neg (by omega), if_neg (by omega)]
    exact ⟨rfl, rfl⟩
  have hnb : (M.push H.length w.heap.size s).blk H.length = some w.heap.size := by simp [Mem.push]
  have hlt : ∀ r B b, H[r]? = some (some B) → M.blk r = some b → b < w.heap.size := fun r B b h1 h2 => (hG.blks r B h1).lt h2
  have hin : ∀ {r B}, H[r]? = some (some B) → r < H.length := fun h => (List.getElem?_eq_some_iff.1 h).1
  refine ⟨⟨fun g => VR.mono (M := M) (M' := M.push H.length w.heap.size s) (n := 0) (w := w) (fun _ h => h) hGw (Nat.le_refl _) (fun r hr => absurd hr (Nat.not_lt_zero r)) (hG.glob g), fun b hb => by rw [hsz]; have := hG.inG b hb; omega, fun r B' hr => ?_, fun r B' b hr hh hb => ?_, fun r r' B1 B2 b hr hr' hh hne hb => ?_⟩,
    ⟨ho, ht, hp, by omega, fun _ h => h, fun _ h => .inl h, fun b hb _ => hold b hb, by simp, fun r hr => (hbl r hr).1, fun r hr => (hbl r hr).2, fun b hb => ?_⟩⟩
  · rw [List.length_append, List.length_singleton]
    rw [getElem?_snoc] at hr
    split at hr
    · next he =>
      cases hr
      subst he
      exact hB _ hbl rfl hnb (by simp [Mem.push]) hnew hold
    · have hr2 := hin hr
      exact BR.mono (M := M) (n := H.length) (w := w) (r := r) (fun _ h => h) hGw (Nat.le_succ _) hbl (hbl r hr2).1 (hbl r hr2).2 (fun b hb => hold b (hlt r B' b hr hb)) (hG.blks r B' hr)
  · rw [getElem?_snoc] at hr
    split at hr
    · next he =>
      subst he
      rw [hnb] at hb
      cases hb
      intro hg
      have := hG.inG _ hg
      omega
    · rw [(hbl r (hin hr)).1] at hb
      exact hG.sep r B' b hr hh hb
  · rw [getElem?_snoc] at hr hr'
    split at hr
    · next he =>
      subst he
      rw [hnb] at hb
      cases hb
      rw [if_neg hne] at hr'
      rw [(hbl r' (hin hr')).1]
      intro hc
      have := hlt r' B2 _ hr' hc
      omega
    · have hr3 := hin hr
      rw [(hbl r hr3).1] at hb
      split at hr'
      · next he' =>
        subst he'
        rw [hnb]
        intro hc
        cases hc
        have := hlt r B1 _ hr hb
        omega
      · rw [(hbl r' (hin hr')).1]
        exact hG.far r r' B1 B2 b hr hr' hh hne hb
  · obtain ⟨r, B', h1, h2, h3⟩ := hb
    rw [getElem?_snoc] at h1
    split at h1
    · next he =>
      subst he
      rw [hnb] at h3
      cases h3
      exact .inr (Nat.le_refl _)
    · rw [(hbl r (hin h1)).1] at h3
      exact .inl ⟨r, B', h1, h2, h3⟩
theorem obj_new {t : TypeId} {cs : List AV} {us : List Value} (hG : Gam E.gl M w H) (hu : VRs M H.length w cs us) :
    Gam E.gl (M.push H.length w.heap.size us.length) (w.alloc (.cells us.toArray t)) (H ++ [some (.obj cs)]) ∧ Ext M w H (M.push H.length w.heap.size us.length) (w.alloc (.cells us.toArray t)) (H ++ [some (.obj cs)]) := by
  refine hG.push rfl rfl ⟨rfl, Nat.le_refl _⟩ rfl fun M' hM hMG hb hs hn ho => ?_
  refine ⟨w.heap.size, us.toArray, t, (0, 0), hb, hn, .inl rfl, by simp [hs], ?_⟩
  exact VRs.mono (fun b h => by rw [hMG]; exact h) (fun b h => ho b (hG.inG b h)) (by omega) hM hu
theorem ptr_new {t : TypeId} {cs : List AV} {us : List Value} {K : AV → Heap → Prop} {m : Sem Value} (hG : Gam E.gl M w H) (hu : VRs M H.length w cs us)
    (hm : m.run E.P w = .ok (.pointer (some ⟨w.heap.size, 0, none⟩)) (w.alloc (.cells us.toArray t))) (hK : K (.ptr H.length 0) (H ++ [some (.obj cs)])) : Yields E M w H m K := by
  obtain ⟨h1, h2⟩ := obj_new (t := t) hG hu
  refine ⟨_, _, _, _, _, hm, hK, h1, ?_, h2⟩
  unfold VR
  exact ⟨by simp, w.heap.size, by simp [Mem.push], rfl⟩
theorem alloc_sound {t : TypeId} {s : Nat} {g : Bool} {z : List AV} {K : AV → Heap → Prop} (hG : Gam E.gl M w H) (ht : tyI E.P t = some (s, g, z)) (hK : K (.ptr H.length 0) (H ++ [some (.obj z)])) :
    Yields E M w H (Instr.alloc t true (.tuple #[])) K := by
  obtain ⟨_, _, i, d, zv, hi, hd, hz, hs, hzs, hone, rfl, _⟩ := tyI_out ht
  refine ptr_new (t := t) hG (VRs_consts (all_one hone)) ?_ hK
  simp [Instr.alloc, zeroValue, typeInfo, hi, hz, newVar, newRow, newObj, Sem.run]
theorem box_sound {t : TypeId} {a : AV} {u : Value} {cs : List AV} {K : AV → Heap → Prop} (hG : Gam E.gl M w H) (ha : VR M H.length w a u) (hc : cells1 a = some cs) (hK : K (.ptr H.length 0) (H ++ [some (.obj cs)])) :
    Yields E M w H (Instr.box t u) K := by
  refine ptr_new (t := t) hG (cells1_out hc ha) ?_ hK
  simp [Instr.box, newVar, newRow, newObj, Sem.run]
/-- A new row. -/
theorem row_new {w1 : World} {e : TypeId} {sz : Nat} {es : List (List AV)} {us : List Value} {cur : Array Value} {fr : Nat × Nat} (hG : Gam E.gl M w H) (hw1 : w1.heap = w.heap) (ho : w1.os = w.os) (ht : w1.tape = w.tape ∧ w.drawn ≤ w1.drawn) (hp : w1.output = w.output)
    (hfr : fr = (0, 0) ∨ cur.size ≤ fr.1) (hu : VRss M H.length w sz es us) (hc : cur.toList.take us.length = us) :
    Gam E.gl (M.push H.length w.heap.size cur.size) (w1.alloc (.cells cur e fr)) (H ++ [some (.row true sz es)]) ∧ Ext M w H (M.push H.length w.heap.size cur.size) (w1.alloc (.cells cur e fr)) (H ++ [some (.row true sz es)]) := by
  refine hG.push hw1 ho ht hp fun M' hM hMG hb hs hn ho => ?_
  refine .inr ⟨w.heap.size, cur, e, fr, us, hb, hn, hfr, hs.symm, ?_, hc, by simp⟩
  exact VRss.mono (fun b h => by rw [hMG]; exact h) (fun b h => ho b (hG.inG b h)) (by omega) hM hu
theorem hs_new {w1 : World} {e : TypeId} {sz : Nat} {es : List (List AV)} {us : List Value} {cur : Array Value} {fr : Nat × Nat} {k cap : Nat} {K : AV → Heap → Prop} {m : Sem Value} (hG : Gam E.gl M w H) (hw1 : w1.heap = w.heap) (ho : w1.os = w.os) (ht : w1.tape = w.tape ∧ w.drawn ≤ w1.drawn) (hp : w1.output = w.output)
    (hfr : fr = (0, 0) ∨ cur.size ≤ fr.1) (hu : VRss M H.length w sz es us) (hc : cur.toList.take us.length = us) (hk : k ≤ cap) (hcap : cap ≤ maxLen) (hsz : cap * sz ≤ cur.size)
    (hm : m.run E.P w = .ok (.slice (some ⟨w.heap.size, 0, none⟩) k cap) (w1.alloc (.cells cur e fr))) (hK : K (.hs H.length sz 0 k) (H ++ [some (.row true sz es)])) : Yields E M w H m K := by
  obtain ⟨h1, h2⟩ := row_new (e := e) (fr := fr) hG hw1 ho ht hp hfr hu hc
  refine ⟨_, _, _, _, _, hm, hK, h1, ?_, h2⟩
  unfold VR
  exact ⟨by simp, _, cap, rfl, hk, hcap, (fun h => by cases h), .inr (.inr ⟨w.heap.size, by simp [Mem.push], by simp, by simpa [Mem.push] using hsz⟩)⟩
end
end Go.Am

namespace Go.Am
open Go.RowKit Go.Cx

section
variable {E : Env} {M : Mem} {w : World} {H : Heap}

theorem getElem?_set' {α : Type} (l : List α) (k r : Nat) (x : α) (hk : k < l.length) : (l.set k x)[r]? = if r = k then some x else l[r]? := by
  rw [List.getElem?_set]
  by_cases h : k = r
  · subst h; simp [hk]
  · rw [if_neg h, if_neg (fun e => h e.symm)]
/-- The heap with fewer names. -/
theorem Gam.kill (hG : Gam E.gl M w H) (r : Nat) : Gam E.gl M w (H.set r none) ∧ Ext M w H M w (H.set r none) := by
  have hget : ∀ (k : Nat) (B : Blk), (H.set r none)[k]? = some (some B) → H[k]? = some (some B) := by
    intro k B h
    rw [List.getElem?_set] at h
    split at h
    · split at h <;> cases h
    · exact h
  refine ⟨⟨hG.glob, hG.inG, fun k B h => ?_, fun k B b h => hG.sep k B b (hget k B h), fun k k' B B' b h h' => hG.far k k' B B' b (hget k B h) (hget k' B' h')⟩,
    ⟨rfl, ⟨rfl, Nat.le_refl _⟩, rfl, Nat.le_refl _, fun _ h => h, fun _ h => .inl h, fun _ _ _ => rfl, by simp, fun _ _ => rfl, fun _ _ => rfl, fun b ⟨k, B, h1, h2, h3⟩ => .inl ⟨k, B, hget k B h1, h2, h3⟩⟩⟩
  rw [List.length_set]
  exact hG.blks k B (hget k B h)
/-- A hot block is written. -/
theorem Gam.write {r b : Nat} {B B' : Blk} {cur cur' : Array Value} {e : TypeId} {fr : Nat × Nat} (hG : Gam E.gl M w H) (hr : H[r]? = some (some B)) (hh : B.isHot = true) (hb : M.blk r = some b) (hg : w.heap[b]? = some (.cells cur e fr))
    (hB : (∀ {a u}, VR M H.length w a u → VR M H.length (w.setRow b cur') a u) → (∀ {a u}, VRs M H.length w a u → VRs M H.length (w.setRow b cur') a u) → (∀ {s a u}, VRss M H.length w s a u → VRss M H.length (w.setRow b cur') s a u) →
      (w.setRow b cur').heap[b]? = some (.cells cur' e fr) → BR M H.length (w.setRow b cur') r B') :
    Gam E.gl M (w.setRow b cur') (H.set r (some B')) ∧ Ext M w H M (w.setRow b cur') (H.set r (some B')) := by
  have hrl : r < H.length := (List.getElem?_eq_some_iff.1 hr).1
  have hnG : ¬ M.G b := hG.sep r B b hr hh hb
  have hoth : ∀ k, k ≠ b → (w.setRow b cur').heap[k]? = w.heap[k]? := fun k hk => setRow_other w b k cur' hk
  have hGw : ∀ k, M.G k → (w.setRow b cur').heap[k]? = w.heap[k]? := fun k hk => hoth k (fun e => hnG (e ▸ hk))
  have hsz : (w.setRow b cur').heap.size = w.heap.size := by simp [World.setRow]
  refine ⟨⟨fun g => VR.mono (M := M) (M' := M) (n := 0) (w := w) (fun _ h => h) hGw (Nat.le_refl _) (fun _ _ => ⟨rfl, rfl⟩) (hG.glob g), fun k hk => by rw [hsz]; exact hG.inG k hk, fun k B1 hk => ?_, fun k B1 c hk h1 h2 => ?_, fun k k' B1 B2 c hk hk' h1 hne h2 => ?_⟩,
    ⟨rfl, ⟨rfl, Nat.le_refl _⟩, rfl, by omega, fun _ h => h, fun _ h => .inl h, fun k hk hn => ?_, by simp, fun _ _ => rfl, fun _ _ => rfl, fun c hc => ?_⟩⟩
  · rw [List.length_set]
    rw [getElem?_set' _ _ _ _ hrl] at hk
    split at hk
    · next e1 =>
      cases hk
      subst e1
      exact hB (VR.mono (fun _ h => h) hGw (Nat.le_refl _) (fun _ _ => ⟨rfl, rfl⟩)) (VRs.mono (fun _ h => h) hGw (Nat.le_refl _) (fun _ _ => ⟨rfl, rfl⟩)) (VRss.mono (fun _ h => h) hGw (Nat.le_refl _) (fun _ _ => ⟨rfl, rfl⟩))
        (setRow_heap w b cur cur' e fr hg)
    · next e1 =>
      refine BR.mono (M := M) (n := H.length) (w := w) (r := k) (fun _ h => h) hGw (Nat.le_refl _) (fun _ _ => ⟨rfl, rfl⟩) rfl rfl (fun c hc => hoth c (fun e2 => ?_)) (hG.blks k B1 hk)
      subst e2
      exact hG.far r k B B1 _ hr hk hh e1 hb hc
  · rw [getElem?_set' _ _ _ _ hrl] at hk
    split at hk
    · next e1 =>
      subst e1
      exact hG.sep _ B c hr hh h2
    · exact hG.sep k B1 c hk h1 h2
  · rw [getElem?_set' _ _ _ _ hrl] at hk hk'
    split at hk
    · next e1 =>
      subst e1
      rw [if_neg hne] at hk'
      exact hG.far _ k' B B2 c hr hk' hh hne h2
    · split at hk'
      · next e1 e2 =>
        subst e2
        exact hG.far k _ B1 B c hk hr h1 hne h2
      · exact hG.far k k' B1 B2 c hk hk' h1 hne h2
  · refine hoth k (fun e2 => ?_)
    subst e2
    exact hn ⟨r, B, hr, hh, hb⟩
  · obtain ⟨k, B1, h1, h2, h3⟩ := hc
    rw [getElem?_set' _ _ _ _ hrl] at h1
    split at h1
    · next e1 =>
      subst e1
      exact .inl ⟨_, B, hr, hh, h3⟩
    · exact .inl ⟨k, B1, h1, h2, h3⟩
/-- Cells are stored where nothing is frozen. -/
theorem run_storeCells_gen (P : Program) (g o : Nat) (t : TypeId) (fz : Nat × Nat) : ∀ (vs : List Value) (i : Nat) (cur : Array Value) (w : World), w.heap[g]? = some (.cells cur t fz) → (fz = (0, 0) ∨ cur.size ≤ fz.1) → o + i + vs.length ≤ cur.size → (∀ v ∈ vs, v.oneCell' = true) →
    (storeCells ⟨g, o, none⟩ vs i).run P w = .ok () (w.setRow g (cur.toList.take (o + i) ++ vs ++ cur.toList.drop (o + i + vs.length)).toArray)
  | [], i, cur, w, hg, _, _, _ => by
    simp only [storeCells, List.append_nil, List.length_nil, Nat.add_zero, List.take_append_drop, Array.toArray_toList]
    rw [setRow_self w g cur t fz hg]
    rfl
  | v :: rest, i, cur, w, hg, hfz, hl, h1 => by
    have hi : o + i < cur.size := by simp at hl; omega
    have hadd : (⟨g, o, none⟩ : Addr).add i = ⟨g, o + i, none⟩ := addr_add g o i
    have hcell : w.cell? ⟨g, o + i, none⟩ = some cur[o + i] := by simp [World.cell?, hg, hi]
    have hfro : w.frozen? ⟨g, o + i, none⟩ = false := by
      obtain ⟨lo, hi'⟩ := fz
      simp only [World.frozen?, hg, Bool.and_eq_false_iff, decide_eq_false_iff_not]
      rcases hfz with hfz | hfz
      · simp only [Prod.mk.injEq] at hfz
        right
        omega
      · left
        simp only at hfz
        omega
    have hst : (store ((⟨g, o, none⟩ : Addr).add i) v).run P w = .ok () (w.setRow g (cur.setIfInBounds (o + i) v)) := by
      rw [hadd, run_store P w _ v _ (h1 v (by simp)), hcell]
      simp [hfro, setCell_eq_setRow w g (o + i) cur t fz v hg]
    have ih := run_storeCells_gen P g o t fz rest (i + 1) (cur.setIfInBounds (o + i) v) (w.setRow g (cur.setIfInBounds (o + i) v)) (setRow_heap w g cur _ t _ hg) (by simpa using hfz) (by simp at hl ⊢; omega) (fun x hx => h1 x (by simp [hx]))
    simp only [storeCells, Sem.run_bind, hst, Result.andThen_ok, ih, setRow_setRow]
    congr 3
    have e := list_seg_step cur.toList (o + i) v rest (by simp at hl ⊢; omega)
    simpa [Array.toList_setIfInBounds, Nat.add_assoc] using e
theorem seg_eq (A c B R xs : List Value) (off : Nat) (h : off + xs.length ≤ c.length) :
    ((A ++ c ++ B ++ R).take (A.length + off) ++ xs ++ (A ++ c ++ B ++ R).drop (A.length + off + xs.length)).take (A ++ c ++ B).length = A ++ (c.take off ++ xs ++ c.drop (off + xs.length)) ++ B := by
  have h1 : (A ++ c ++ B ++ R).take (A.length + off) = A ++ c.take off := by
    rw [List.append_assoc, List.append_assoc, List.take_length_add_append, List.take_append_of_le_length (by omega)]
  have h2 : (A ++ c ++ B ++ R).drop (A.length + off + xs.length) = c.drop (off + xs.length) ++ (B ++ R) := by
    rw [List.append_assoc, List.append_assoc, Nat.add_assoc, List.drop_length_add_append, List.drop_append_of_le_length h]
  rw [h1, h2]
  have e : A ++ List.take off c ++ xs ++ (List.drop (off + xs.length) c ++ (B ++ R)) = (A ++ (c.take off ++ xs ++ c.drop (off + xs.length)) ++ B) ++ R := by simp
  rw [e]
  apply List.take_left'
  simp
  omega
theorem splice_out {M : Mem} {n : Nat} {w : World} {off : Nat} {new old : List AV} {us vs : List Value} (hn : VRs M n w new us) (ho : VRs M n w old vs) : VRs M n w (splice off new old) (vs.take off ++ us ++ vs.drop (off + us.length)) := by
  unfold splice
  rw [← VRs.len hn]
  exact ((VRs.take off ho).append hn).append (VRs.drop _ ho)
/-- m, which tells nothing, ends well. -/
def Does (E : Env) (M : Mem) (w : World) (H : Heap) (m : Sem Unit) (K : Heap → Prop) : Prop :=
  ∃ w' M' H', m.run E.P w = .ok () w' ∧ K H' ∧ Gam E.gl M' w' H' ∧ Ext M w H M' w' H'
theorem store_sound {t : TypeId} {a v : AV} {u x : Value} {K : Heap → Prop} (hG : Gam E.gl M w H) (ha : VR M H.length w a u) (hv : VR M H.length w v x) (h : astore E.P t a v H K) : Does E M w H (Instr.storeAt t u x) K := by
  obtain ⟨s, g, z, ht, cs, hc, hlen, h⟩ := h
  have hcs := cells1_out hc hv
  have hone := VRs.one hcs
  have hxl : x.cells.toList.length = s := by rw [VRs.len hcs, hlen]
  obtain ⟨hsz, _, _⟩ := tyI_out ht
  have hrun : ∀ b o, (Instr.storeAt t (.pointer (some ⟨b, o, none⟩)) x).run E.P w = (storeCells ⟨b, o, none⟩ x.cells.toList).run E.P w := by
    intro b o
    have : x.cells.size = s := by rw [← hxl]; simp
    simp [Instr.storeAt, Instr.sureAddr, storeVar, hsz w, this]
  cases a with
  | ptr r off =>
    obtain ⟨old, hr, hfit, hK⟩ := h
    unfold VR at ha
    obtain ⟨_, b, hb, rfl⟩ := ha
    obtain ⟨b', cur, t0, fr, k1, k2, k3, k4, k5⟩ := hG.blks r _ hr
    rw [hb] at k1
    cases k1
    have hol := VRs.len k5
    have hsz2 : cur.size = old.length := by simpa using hol
    have hst := run_storeCells_gen E.P b off t0 fr x.cells.toList 0 cur w k2 k3 (by rw [hxl]; omega) hone
    simp only [Nat.add_zero] at hst
    obtain ⟨h1, h2⟩ := hG.write (B' := .obj (splice off cs old)) (cur' := (cur.toList.take off ++ x.cells.toList ++ cur.toList.drop (off + x.cells.toList.length)).toArray) hr rfl hb k2 (fun _ c2 _ c4 => by
      have hs := splice_out (off := off) hcs k5
      exact ⟨b, _, t0, fr, hb, c4, by
        have e : (cur.toList.take off ++ x.cells.toList ++ cur.toList.drop (off + x.cells.toList.length)).toArray.size = cur.size := by simp at hxl ⊢; omega
        rw [e]; exact k3, by simp at hxl ⊢; omega, c2 hs⟩)
    exact ⟨_, M, _, (hrun b off).trans hst, hK, h1, h2⟩
  | rp r sz i off =>
    obtain ⟨es, old, hr, hi, hfit, hK⟩ := h
    unfold VR at ha
    obtain ⟨_, b, hb, rfl⟩ := ha
    rcases hG.blks r _ hr with ⟨h2, _⟩ | ⟨b', cur, e, fr, us, k1, k2, k3, k4, k5, k6, k7⟩
    · rw [hb] at h2; cases h2
    rw [hb] at k1
    cases k1
    obtain ⟨c, c1, c2, c3⟩ := VRss.get k5 hi
    have hil : i < es.length := (List.getElem?_eq_some_iff.1 hi).1
    have hol := VRs.len c2
    have husl := VRss.len k5
    have hul : us.length ≤ cur.size := by
      have := congrArg List.length k6
      simp at this
      omega
    have hmul : i * sz + sz ≤ us.length := by
      rw [husl, ← Nat.succ_mul]
      exact Nat.mul_le_mul_right _ hil
    have hst := run_storeCells_gen E.P b (i * sz + off) e fr x.cells.toList 0 cur w k2 k3 (by rw [hxl]; omega) hone
    simp only [Nat.add_zero] at hst
    have hset := VRss.set (a := splice off cs old) (c := c.take off ++ x.cells.toList ++ c.drop (off + x.cells.toList.length)) k5 hil (splice_out hcs c2) (by simp at hxl ⊢; omega)
    obtain ⟨h1, h2⟩ := hG.write (B' := .row true sz (es.set i (splice off cs old))) (cur' := (cur.toList.take (i * sz + off) ++ x.cells.toList ++ cur.toList.drop (i * sz + off + x.cells.toList.length)).toArray) hr rfl hb k2 (fun _ _ c3' c4 => by
      refine .inr ⟨b, _, e, fr, _, hb, c4, ?_, ?_, c3' hset, ?_, fun hh => by cases hh⟩
      · have e : (cur.toList.take (i * sz + off) ++ x.cells.toList ++ cur.toList.drop (i * sz + off + x.cells.toList.length)).toArray.size = cur.size := by simp at hxl ⊢; omega
        rw [e]; exact k3
      · simp at hxl ⊢; omega
      · have hA : (us.take (i * sz)).length = i * sz := by simp; omega
        have hcu : c = (us.drop (i * sz)).take sz := by
          apply List.ext_getElem?
          intro j
          rw [List.getElem?_take]
          by_cases hj : j < sz
          · rw [if_pos hj, List.getElem?_drop, c3 j hj]
          · rw [if_neg hj, List.getElem?_eq_none (by omega)]
        have hus : us = us.take (i * sz) ++ c ++ us.drop (i * sz + sz) := by
          rw [hcu, ← List.drop_drop, List.append_assoc, List.take_append_drop, List.take_append_drop]
        have hcur : cur.toList = us.take (i * sz) ++ c ++ us.drop (i * sz + sz) ++ cur.toList.drop us.length := by
          rw [← hus]
          conv => lhs; rw [← List.take_append_drop us.length cur.toList, k6]
        have hseg := seg_eq (us.take (i * sz)) c (us.drop (i * sz + sz)) (cur.toList.drop us.length) x.cells.toList off (by simp at hxl ⊢; omega)
        rw [← hcur, hA] at hseg
        simp only [List.toList_toArray]
        rw [← hseg]
        congr 1
        rw [← hus]
        simp at hxl ⊢
        omega)
    exact ⟨_, M, _, (hrun b _).trans hst, hK, h1, h2⟩
  | _ => exact h.elim
/-! ### reading -/
theorem chunks_out {M : Mem} {n : Nat} {w : World} {sz : Nat} : ∀ {k : Nat} {cs : List AV} {us : List Value}, VRs M n w cs us → k * sz ≤ cs.length → VRss M n w sz (chunks sz k cs) (us.take (k * sz))
  | 0, cs, us, h, _ => by simp [chunks, VRss]
  | k + 1, cs, us, h, hk => by
    have hl := VRs.len h
    have e : (k + 1) * sz = sz + k * sz := by rw [Nat.add_mul, Nat.one_mul, Nat.add_comm]
    rw [e] at hk ⊢
    unfold chunks VRss
    refine ⟨us.take sz, (us.drop sz).take (k * sz), ?_, by simp; omega, VRs.take sz h, chunks_out (VRs.drop sz h) (by simp; omega)⟩
    rw [List.take_add]
theorem chunks_len {sz : Nat} : ∀ {k : Nat} {cs : List AV}, (chunks sz k cs).length = k
  | 0, _ => rfl
  | k + 1, cs => by unfold chunks; simp [chunks_len]
theorem elems_out {sz : Nat} {a : AV} {es : List (List AV)} {u : Value} (hG : Gam E.gl M w H) (ha : VR M H.length w a u) (h : elems H sz a = some es) :
    ∃ ao cap us, u = .slice ao es.length cap ∧ VRss M H.length w sz es us ∧ RowAt (fun _ => True) w ao es.length cap sz us := by
  unfold elems at h
  split at h
  · next sz' es' =>
    split at h
    case isFalse => cases h
    case isTrue e =>
    subst e
    cases h
    unfold VR at ha
    obtain ⟨ao, cap, us, h1, h2, h3⟩ := ha
    exact ⟨ao, cap, us, h1, h2, h3.mono (fun _ _ => trivial) (fun _ _ => rfl)⟩
  · next r sz' off n =>
    split at h
    case h_2 => cases h
    case h_1 hot sz2 es0 hr =>
    split at h
    case isFalse => cases h
    case isTrue hc =>
    obtain ⟨rfl, rfl, hle⟩ := hc
    cases h
    unfold VR at ha
    obtain ⟨_, ao, cap, rfl, k1, k2, k3, k4⟩ := ha
    have hel : ((es0.drop off).take n).length = n := by simp; omega
    rw [hel]
    rcases hG.blks r _ hr with ⟨h1, h2⟩ | ⟨b, cur, e, fr, us, j1, j2, j3, j4, j5, j6, j7⟩
    · subst h2
      have hn : n = 0 := by have h3 : off + n ≤ 0 := hle; omega
      subst hn
      refine ⟨ao, cap, [], rfl, by simp [VRss], ⟨by simp, k1, k2, by simp, .inl ⟨rfl, k3⟩⟩⟩
    · have hd := VRss.take n (VRss.drop off j5)
      refine ⟨ao, cap, _, rfl, hd, ⟨?_, k1, k2, VRss.one hd, ?_⟩⟩
      · rw [VRss.len hd, hel]
      · rcases k4 with ⟨k4, _⟩ | ⟨k4, _⟩ | ⟨b', k5, k6, k7⟩
        · exact .inl ⟨k4, k3⟩
        · exact .inl ⟨k4, k3⟩
        · rw [k5] at j1
          cases j1
          refine .inr ⟨b, off * sz2, k6, trivial, fun j v hj => ?_⟩
          rw [cell_of_row w b _ cur e fr j2]
          rw [List.getElem?_take] at hj
          split at hj
          · rw [List.getElem?_drop, ← j6, List.getElem?_take] at hj
            split at hj
            · simpa using hj
            · cases hj
          · cases hj
  · next r sz' off n =>
    split at h
    case h_2 => cases h
    case h_1 cs hr =>
    split at h
    case isFalse => cases h
    case isTrue hc =>
    obtain ⟨rfl, hle⟩ := hc
    cases h
    unfold VR at ha
    obtain ⟨_, ao, cap, rfl, k1, k2, k3, k4⟩ := ha
    rw [chunks_len]
    obtain ⟨b, cur, t, fr, j1, j2, j3, j4, j5⟩ := hG.blks r _ hr
    have hd := VRs.drop off j5
    have hch := chunks_out (sz := sz') (k := n) hd (by simp; omega)
    refine ⟨ao, cap, _, rfl, hch, ⟨?_, k1, k2, VRss.one hch, ?_⟩⟩
    · rw [VRss.len hch, chunks_len]
    · rcases k4 with k4 | ⟨b', k5, k6⟩
      · exact .inl ⟨k4, k3⟩
      · rw [k5] at j1
        cases j1
        refine .inr ⟨b, off, k6, trivial, fun j v hj => ?_⟩
        rw [cell_of_row w b _ cur t fr j2]
        rw [List.getElem?_take] at hj
        split at hj
        · simpa using hj
        · cases hj
  · cases h
    unfold VR at ha
    obtain ⟨ao, rfl⟩ := ha
    exact ⟨ao, 0, [], rfl, by simp [VRss], ⟨by simp, Nat.le_refl _, Nat.zero_le _, by simp, .inl ⟨rfl, fun _ => rfl⟩⟩⟩
  · cases h
    unfold VR at ha
    subst ha
    exact ⟨none, 0, [], rfl, by simp [VRss], ⟨by simp, Nat.le_refl _, Nat.zero_le _, by simp, .inl ⟨rfl, fun _ => rfl⟩⟩⟩
  · cases h
theorem VRss_bytes {M : Mem} {n : Nat} {w : World} : ∀ {l : List UInt8} {us : List Value}, VRss M n w 1 (l.map bcl) us → us = l.map bv
  | [], us, h => by unfold VRss at h; simpa using h
  | x :: l, us, h => by
    simp only [List.map_cons] at h
    unfold VRss at h
    obtain ⟨c, r, rfl, _, h2, h3⟩ := h
    unfold bcl VRs at h2
    obtain ⟨u, r', rfl, _, h4, h5⟩ := h2
    unfold VRs at h5
    subst h5
    unfold VR at h4
    subst h4
    rw [VRss_bytes h3]
    rfl
theorem bytes_VRss {M : Mem} {n : Nat} {w : World} : ∀ {l : List UInt8}, VRss M n w 1 (l.map bcl) (l.map bv)
  | [] => by simp [VRss]
  | x :: l => by
    simp only [List.map_cons]
    unfold VRss
    refine ⟨[bv x], l.map bv, rfl, rfl, ?_, bytes_VRss⟩
    unfold bcl VRs
    exact ⟨bv x, [], rfl, rfl, by simp [VR, bv], by simp [VRs]⟩
theorem source_out {sz : Nat} {t : TypeId} {a : AV} {es : List (List AV)} {u : Value} (hG : Gam E.gl M w H) (ha : VR M H.length w a u) (h : source E.P H sz t a = some es) :
    ∃ us, Src E.P sz t u es.length us w ∧ VRss M H.length w sz es us := by
  have slice : ∀ {a : AV} {u : Value}, VR M H.length w a u → (match E.P.underlying t with | some (.slice _) => elems H sz a | _ => none) = some es → ∃ us, Src E.P sz t u es.length us w ∧ VRss M H.length w sz es us := by
    intro a u ha h
    split at h
    case h_2 => cases h
    case h_1 e hu =>
    obtain ⟨ao, cap, us, rfl, h1, h2⟩ := elems_out hG ha h
    exact ⟨us, h2.src hu, h1⟩
  unfold source at h
  split at h
  · next s =>
    split at h
    case h_2 => cases h
    case h_1 hu =>
    split at h
    case isFalse => cases h
    case isTrue e =>
    subst e
    cases h
    unfold VR at ha
    subst ha
    obtain ⟨l, rfl⟩ : ∃ l, s = str l := ⟨s.data.toList, by cases s; simp [str]⟩
    have hb : byteCells (str l) = (str l).toList.map bv := by
      rw [str_toList]
      simp [byteCells, str, bv]
    refine ⟨byteCells (str l), ?_, ?_⟩
    · have := Src.ofString (P := E.P) w hu (str l)
      have hl : ((str l).toList.map bcl).length = (str l).size := by rw [List.length_map, str_toList]; simp [str, ByteArray.size]
      rw [hl]
      exact this
    · rw [hb]
      exact bytes_VRss
  · exact slice ha h
end
end Go.Am

namespace Go.Am
open Go.RowKit Go.Cx

section
variable {E : Env} {M : Mem} {w : World} {H : Heap}

/-- The tape was asked, nothing else. -/
theorem World.marked (P : Program) (w : World) (t e e2 : TypeId) (b o n c : Nat) (cur : Array Value) (fr : Nat × Nat) (ht : P.underlying t = some (.slice e)) (he : P.underlying e = some (.int .u8)) (hg : w.heap[b]? = some (.cells cur e2 fr)) :
    ∃ w' fr', (convert t t (.slice (some ⟨b, o, none⟩) n c)).run P w = .ok (.slice (some ⟨b, o, none⟩) n c) w' ∧ w'.os = w.os ∧ (w'.tape = w.tape ∧ w.drawn ≤ w'.drawn) ∧ w'.output = w.output ∧ w'.heap.size = w.heap.size ∧
      (∀ k, k ≠ b → w'.heap[k]? = w.heap[k]?) ∧ w'.heap[b]? = some (.cells cur e2 fr') ∧ ((fr = (0, 0) ∨ cur.size ≤ fr.1) → cur.size ≤ fr'.1) := by
  have hsh : w.shape? b = some (e2, cur.size) := by unfold World.shape?; rw [hg]
  refine ⟨w.freeze ⟨b, cur.size, none⟩ 1, if fr.1 == fr.2 then (cur.size, cur.size + 1) else (min fr.1 cur.size, max fr.2 (cur.size + 1)), ?_, ?_, ?_, ?_, ?_, fun k hk => ?_, ?_, fun h => ?_⟩
  · simp [convert, run_underlying ht, run_underlying he, markStringish, hsh]
  all_goals try (unfold World.freeze; rw [if_neg (by decide)])
  all_goals try exact ⟨rfl, Nat.le_refl _⟩
  · simp
  · simp only [Array.getElem?_modify]
    rw [if_neg (fun e => hk e.symm)]
  · simp only [Array.getElem?_modify, if_pos, hg, Option.map_some]
  · obtain ⟨lo, hi⟩ := fr
    rcases h with h | h
    · simp only [Prod.mk.injEq] at h
      obtain ⟨rfl, rfl⟩ := h
      simp
    · simp only at h ⊢
      split
      · exact Nat.le_refl _
      · show cur.size ≤ min lo cur.size
        omega
theorem conv_sound {src dst : TypeId} {a : AV} {u : Value} {K : AV → Heap → Prop} (hG : Gam E.gl M w H) (ha : VR M H.length w a u) (h : aconv E.P src dst a H K) : Yields E M w H (convert src dst u) K := by
  unfold aconv at h
  split at h
  · next e hs hd =>
    split at h
    case h_2 => exact h.elim
    case h_1 s =>
    obtain ⟨he, hn, hK⟩ := h
    unfold VR at ha
    subst ha
    obtain ⟨l, rfl⟩ : ∃ l, s = str l := ⟨s.data.toList, by cases s; simp [str]⟩
    have hl : (str l).size = l.length := by simp [str, ByteArray.size]
    have hcap := grownCap_ge w (str l).size 0 e
    have hcm : grownCap w (str l).size 0 e ≤ maxLen := grownCap_le_maxLen w (str l).size 0 e (by unfold maxLen; omega)
    have hsz : (bytesRow (str l) (grownCap w (str l).size 0 e)).size = grownCap w (str l).size 0 e := by
      simp [bytesRow, str, ByteArray.size] at hcap ⊢
      omega
    rw [str_toList] at hK
    refine hs_new (w1 := w.drew) (fr := ((bytesRow (str l) (grownCap w (str l).size 0 e)).size, (bytesRow (str l) (grownCap w (str l).size 0 e)).size + 1)) hG rfl rfl ⟨rfl, Nat.le_succ _⟩ rfl (.inr (Nat.le_refl _)) (us := l.map bv) bytes_VRss ?_ hcap hcm (by rw [hsz, Nat.mul_one]; exact Nat.le_refl _)
      (run_bytes_of_string w src dst e (str l) hs hd he) hK
    have : (bytesRow (str l) (grownCap w (str l).size 0 e)).toList = l.map bv ++ (Array.replicate (grownCap w (str l).size 0 e - (str l).size) (Value.int .u8 0)).toList := by
      simp [bytesRow, str, bv]
    rw [this, List.take_left']
    rfl
  · next e e' hs hd =>
    obtain ⟨rfl, he, h⟩ := h
    split at h
    case h_2 => exact h.elim
    case h_1 r sz n =>
    obtain ⟨⟨es, hr⟩, hn, hK⟩ := h
    have ha0 := ha
    unfold VR at ha
    obtain ⟨hlt, ao, cap, rfl, k1, k2, k3, k4⟩ := ha
    rcases k4 with ⟨k4, _⟩ | ⟨k4, _⟩ | ⟨b, k5, k6, k7⟩
    · omega
    · omega
    rcases hG.blks r _ hr with ⟨h1, _⟩ | ⟨b', cur, e2, fr, us, j1, j2, j3, j4, j5, j6, j7⟩
    · rw [k5] at h1; cases h1
    rw [k5] at j1
    cases j1
    subst k6
    obtain ⟨w', fr', m1, m2, m3, m4, m5, m6, m7, m8⟩ := World.marked E.P w src e e2 b (0 * sz) n cap cur fr hs he j2
    have hGw : ∀ k, M.G k → w'.heap[k]? = w.heap[k]? := fun k hk => m6 k (fun e => hG.sep r _ b hr rfl k5 (e ▸ hk))
    have keep : ∀ {a u}, VR M H.length w a u → VR M H.length w' a u := VR.mono (fun _ h => h) hGw (Nat.le_refl _) (fun _ _ => ⟨rfl, rfl⟩)
    refine ⟨_, w', _, M, H, m1, hK, ⟨fun g => VR.mono (M := M) (M' := M) (n := 0) (w := w) (fun _ h => h) hGw (Nat.le_refl _) (fun _ _ => ⟨rfl, rfl⟩) (hG.glob g), fun k hk => by rw [m5]; exact hG.inG k hk, fun k B hk => ?_, hG.sep, hG.far⟩, keep ha0,
      ⟨m2, m3, m4, by omega, fun _ h => h, fun _ h => .inl h, fun k hk hn => m6 k (fun e => hn ⟨r, _, hr, rfl, e ▸ k5⟩), Nat.le_refl _, fun _ _ => rfl, fun _ _ => rfl, fun _ h => .inl h⟩⟩
    by_cases hkr : k = r
    · subst hkr
      rw [hr] at hk
      cases hk
      exact .inr ⟨b, cur, e2, fr', us, k5, m7, .inr (m8 j3), j4, VRss.mono (fun _ h => h) hGw (Nat.le_refl _) (fun _ _ => ⟨rfl, rfl⟩) j5, j6, j7⟩
    · exact BR.mono (M := M) (n := H.length) (w := w) (r := k) (fun _ h => h) hGw (Nat.le_refl _) (fun _ _ => ⟨rfl, rfl⟩) rfl rfl (fun c hc => m6 c (fun e => hG.far r k _ B b hr hk rfl hkr k5 (e ▸ hc))) (hG.blks k B hk)
  · next e hs hd =>
    obtain ⟨he, l, hl, hK⟩ := h
    obtain ⟨ao, cap, us, rfl, h1, h2⟩ := elems_out hG ha hl
    have hus := VRss_bytes h1
    subst hus
    refine .pure hG (h2.conv hs he hd (by simp)) (by simp [VR]) hK
  · next k1 k2 hs hd =>
    split at h
    case h_2 => exact h.elim
    case h_1 k n =>
    unfold VR at ha
    subst ha
    refine .pure hG (u := .int k2 (k2.wrap n)) ?_ (by simp [VR]) h
    simp [convert, run_underlying hs, run_underlying hd, Conv.intToInt]
  · obtain ⟨x, hx, r, hr, hK⟩ := h
    rw [conc_out hx ha]
    exact .ret hG hr hK
theorem field_sound {t : TypeId} {f : Nat} {a : AV} {u : Value} {K : AV → Heap → Prop} (hG : Gam E.gl M w H) (ha : VR M H.length w a u) (h : afield E.P t a f fun v => K v H) : Yields E M w H (Instr.field t u f) K := by
  obtain ⟨fs, off, s, g, h1, h2, cs, rfl, h3⟩ := h
  obtain ⟨fl, hu, _, hf⟩ := stI_out h1
  obtain ⟨fd, hfd, hx⟩ := hf f _ h2
  obtain ⟨rfl, hs, hg⟩ := fieldI_out hx
  unfold VR at ha
  obtain ⟨us, rfl, hus⟩ := ha
  obtain ⟨u, w', v, M', H', k1, k2⟩ := part_sound (K := K) hG hs hg hus h3
  refine ⟨u, w', v, M', H', ?_, k2⟩
  rw [← k1]
  simp [Instr.field, run_underlying hu, hfd, asAgg]
theorem fieldAddr_sound {t : TypeId} {f : Nat} {a : AV} {u : Value} {K : AV → Heap → Prop} (hG : Gam E.gl M w H) (ha : VR M H.length w a u) (h : afieldAddr E.P t a f fun v => K v H) : Yields E M w H (Instr.fieldAt t u f) K := by
  obtain ⟨fs, off, s, g, h1, h2, h3, h4⟩ := h
  obtain ⟨fl, hu, _, hf⟩ := stI_out h1
  obtain ⟨fd, hfd, hx⟩ := hf f _ h2
  obtain ⟨rfl, hs, hg⟩ := fieldI_out hx
  have hrun : ∀ b o, (Instr.fieldAt t (.pointer (some ⟨b, o, none⟩)) f).run E.P w = .ok (.pointer (some ⟨b, o + fd.offset, none⟩)) w := by
    intro b o
    simp [Instr.fieldAt, run_underlying hu, hfd, Instr.sureAddr, fieldPlace, hs w, h3, addr_add]
  cases a with
  | ptr r o =>
    unfold VR at ha
    obtain ⟨k1, b, k2, rfl⟩ := ha
    refine .pure hG (hrun b o) ?_ h4
    unfold VR
    exact ⟨k1, b, k2, rfl⟩
  | rp r sz i o =>
    unfold VR at ha
    obtain ⟨k1, b, k2, rfl⟩ := ha
    refine .pure hG (hrun b _) ?_ h4
    unfold VR
    exact ⟨k1, b, k2, by rw [Nat.add_assoc]⟩
  | cptr cs =>
    unfold VR at ha
    obtain ⟨b, o, us, rfl, k1, k2, k3⟩ := ha
    refine .pure hG (hrun b o) ?_ h4
    unfold VR
    refine ⟨b, _, us.drop fd.offset, rfl, k1, VRs.drop _ k2, fun j x hj => ?_⟩
    rw [Nat.add_assoc]
    exact k3 _ _ (by simpa using hj)
  | _ => exact h4.elim
theorem index_sound {t : TypeId} {a i : AV} {u x : Value} {K : AV → Heap → Prop} (hG : Gam E.gl M w H) (ha : VR M H.length w a u) (hi : VR M H.length w i x) (h : aindex E.P t a i fun v => K v H) : Yields E M w H (Instr.index t u x) K := by
  unfold aindex at h
  split at h
  case h_2 => exact h.elim
  case h_1 kd i =>
  unfold VR at hi
  subst hi
  split at h
  case h_1 s =>
    obtain ⟨hu, hb, hK⟩ := h
    unfold VR at ha
    subst ha
    refine .pure hG (u := .int .u8 ((s.data.getD i.toNat 0).toNat : Int)) ?_ (by simp [VR]) hK
    have hlt : i.toNat < s.size := by omega
    have hlt' : i.toNat < s.data.size := hlt
    have e : s[i.toNat]? = some s.data[i.toNat] := by
      show (if h : i.toNat < s.size then some s[i.toNat] else none) = _
      rw [dif_pos hlt]
      rfl
    simp [Instr.index, asIntOf, run_underlying hu, hb.1, e, Array.getD]
    rw [dif_pos hb.2]
  case h_2 cs =>
    obtain ⟨n, sz, g, h1, hb, h2⟩ := h
    obtain ⟨e, hu, hs, hg⟩ := arI_out h1
    unfold VR at ha
    obtain ⟨us, rfl, hus⟩ := ha
    obtain ⟨u, w', v, M', H', k1, k2⟩ := part_sound (K := K) hG hs hg hus h2
    refine ⟨u, w', v, M', H', ?_, k2⟩
    rw [← k1]
    simp [Instr.index, asIntOf, run_underlying hu, hs w, hb.1, hb.2]
  case h_3 => exact h.elim
theorem indexAddr_sound {t : TypeId} {a i : AV} {u x : Value} {K : AV → Heap → Prop} (hG : Gam E.gl M w H) (ha : VR M H.length w a u) (hi : VR M H.length w i x) (h : aindexAddr E.P t a i fun v => K v H) : Yields E M w H (Instr.indexAt t u x) K := by
  unfold aindexAddr at h
  split at h
  case h_2 => exact h.elim
  case h_1 kd i =>
  unfold VR at hi
  subst hi
  have hsl : ∀ {e sz}, slI E.P t = some (e, sz) → ∀ b o n c, 0 ≤ i ∧ i < (n : Nat) → (Instr.indexAt t (.slice (some ⟨b, o, none⟩) n c) (.int kd i)).run E.P w = .ok (.pointer (some ⟨b, o + i.toNat * sz, none⟩)) w := by
    intro e sz h b o n c hb
    obtain ⟨hu, hs, _⟩ := slI_out h
    simp [Instr.indexAt, asIntOf, run_underlying hu, hs w, hb.1, hb.2, addr_add]
  have har : ∀ {n sz g}, arI E.P t = some (n, sz, g) → ∀ b o, 0 ≤ i ∧ i < (n : Nat) → (Instr.indexAt t (.pointer (some ⟨b, o, none⟩)) (.int kd i)).run E.P w = .ok (.pointer (some ⟨b, o + i.toNat * sz, none⟩)) w := by
    intro n sz g h b o hb
    obtain ⟨e, hu, hs, _⟩ := arI_out h
    simp [Instr.indexAt, Instr.sureAddr, asIntOf, run_underlying hu, hs w, hb.1, hb.2, addr_add]
  split at h
  · next sz es =>
    obtain ⟨⟨e, he⟩, hb, hK⟩ := h
    unfold VR at ha
    obtain ⟨ao, cap, us, rfl, k1, k2⟩ := ha
    have hlt : i.toNat < es.length := by omega
    rcases k2.at_ with ⟨k3, _⟩ | ⟨b, off, rfl, hg, hc⟩
    · omega
    refine .pure hG (hsl he b off _ cap hb) ?_ hK
    obtain ⟨c, c1, c2, c3⟩ := VRss.get k1 (show es[i.toNat]? = some (es.getD i.toNat []) by simp [hlt])
    unfold VR
    refine ⟨b, _, c, rfl, hg, c2, fun j x hj => ?_⟩
    have hjl : j < sz := by rw [← c1]; exact (List.getElem?_eq_some_iff.1 hj).1
    rw [Nat.add_assoc]
    exact hc _ _ ((c3 j hjl).trans hj)
  · next r sz off n =>
    obtain ⟨⟨e, he⟩, hb, hK⟩ := h
    unfold VR at ha
    obtain ⟨k0, ao, cap, rfl, k1, k2, k3, k4⟩ := ha
    rcases k4 with ⟨k4, _⟩ | ⟨k4, _⟩ | ⟨b, k5, rfl, k7⟩
    · omega
    · omega
    refine .pure hG (hsl he b _ _ cap hb) ?_ hK
    unfold VR
    exact ⟨k0, b, k5, by rw [Nat.add_mul, Nat.add_zero]⟩
  · next r sz off n =>
    obtain ⟨⟨e, he⟩, hb, hK⟩ := h
    unfold VR at ha
    obtain ⟨k0, ao, cap, rfl, k1, k2, k3, k4⟩ := ha
    rcases k4 with k4 | ⟨b, k5, rfl⟩
    · omega
    refine .pure hG (hsl he b _ _ cap hb) ?_ hK
    unfold VR
    exact ⟨k0, b, k5, rfl⟩
  · next r off =>
    obtain ⟨n, sz, g, he, hb, hK⟩ := h
    unfold VR at ha
    obtain ⟨k0, b, k1, rfl⟩ := ha
    refine .pure hG (har he b off hb) ?_ hK
    unfold VR
    exact ⟨k0, b, k1, rfl⟩
  · next r s j off =>
    obtain ⟨n, sz, g, he, hb, hK⟩ := h
    unfold VR at ha
    obtain ⟨k0, b, k1, rfl⟩ := ha
    refine .pure hG (har he b _ hb) ?_ hK
    unfold VR
    exact ⟨k0, b, k1, by rw [Nat.add_assoc]⟩
  · next cs =>
    obtain ⟨n, sz, g, he, hb, hK⟩ := h
    unfold VR at ha
    obtain ⟨b, o, us, rfl, k1, k2, k3⟩ := ha
    refine .pure hG (har he b o hb) ?_ hK
    unfold VR
    refine ⟨b, _, us.drop (i.toNat * sz), rfl, k1, VRs.drop _ k2, fun j x hj => ?_⟩
    rw [Nat.add_assoc]
    exact k3 _ _ (by simpa using hj)
  · exact h.elim
theorem alen_out {a : AV} {n : Nat} {u : Value} (ha : VR M H.length w a u) (h : alen a = some n) : ∃ ao cap, u = .slice ao n cap ∧ n ≤ cap ∧ cap ≤ maxLen := by
  unfold alen at h
  split at h
  · cases h; unfold VR at ha; obtain ⟨ao, cap, us, rfl, _, h2⟩ := ha; exact ⟨ao, cap, rfl, h2.cle, h2.max⟩
  · cases h; unfold VR at ha; obtain ⟨_, ao, cap, rfl, h1, h2, _⟩ := ha; exact ⟨ao, cap, rfl, h1, h2⟩
  · cases h; unfold VR at ha; obtain ⟨_, ao, cap, rfl, h1, h2, _⟩ := ha; exact ⟨ao, cap, rfl, h1, h2⟩
  · cases h; unfold VR at ha; obtain ⟨ao, rfl⟩ := ha; exact ⟨ao, 0, rfl, Nat.le_refl _, Nat.zero_le _⟩
  · cases h; unfold VR at ha; subst ha; exact ⟨none, 0, rfl, Nat.le_refl _, Nat.zero_le _⟩
  · cases h
theorem run_sliceBound {P : Program} {k : IntKind} {i : Int} {y : Nat} {c : BoundsCode} (h : 0 ≤ i ∧ i ≤ y) (w : World) : (Instr.sliceBound (.int k i) y c).run P w = .ok i.toNat w := by
  simp [Instr.sliceBound, asIntOf, h.1, h.2]
theorem abound_out {M : Mem} {n : Nat} {w : World} {x : Option AV} {d l : Int} {o : Option Value} (hx : ∀ a, x = some a → ∃ u, o = some u ∧ VR M n w a u) (hn : x = none → o = none) (h : abound x d = some l) : (x = none ∧ o = none ∧ l = d) ∨ ∃ k, x.isSome = true ∧ o = some (.int k l) := by
  unfold abound at h
  split at h
  · cases h; exact .inl ⟨rfl, hn rfl, rfl⟩
  · next k i =>
    cases h
    obtain ⟨u, h1, h2⟩ := hx _ rfl
    unfold VR at h2
    subst h2
    exact .inr ⟨k, rfl, h1⟩
  · cases h
def capOf : Option Value → Nat → Nat → Nat
  | none, cap, _ => cap
  | some _, _, m => m
theorem run_sliceBounds {P : Program} {sl : Bool} {n cap : Nat} {lo hi mx : Option Value} {l h m : Int} (hlo : (lo = none ∧ l = 0) ∨ ∃ k, lo = some (.int k l)) (hhi : (hi = none ∧ h = n) ∨ ∃ k, hi = some (.int k h)) (hmx : (mx = none ∧ m = n) ∨ ∃ k, mx = some (.int k m) ∧ hi ≠ none)
    (h0 : 0 ≤ l ∧ l ≤ h ∧ h ≤ m ∧ m ≤ n) (hc : n ≤ cap) (w : World) : (Instr.sliceBounds sl n cap lo hi mx).run P w = .ok (l.toNat, h.toNat, capOf mx cap m.toNat) w := by
  obtain ⟨h1, h2, h3, h4⟩ := h0
  unfold Instr.sliceBounds capOf
  rcases hmx with ⟨rfl, rfl⟩ | ⟨km, rfl, hne⟩
  · rcases hhi with ⟨rfl, rfl⟩ | ⟨kh, rfl⟩
    · rcases hlo with ⟨rfl, rfl⟩ | ⟨kl, rfl⟩
      · simp
      · simp [run_sliceBound (P := P) (k := kl) (i := l) (y := n) ⟨h1, by omega⟩]
    · rcases hlo with ⟨rfl, rfl⟩ | ⟨kl, rfl⟩
      · simp [run_sliceBound (P := P) (k := kh) (i := h) (y := cap) ⟨by omega, by omega⟩]
      · simp [run_sliceBound (P := P) (k := kh) (i := h) (y := cap) ⟨by omega, by omega⟩, run_sliceBound (P := P) (k := kl) (i := l) (y := h.toNat) ⟨h1, by omega⟩]
  · rcases hhi with ⟨rfl, _⟩ | ⟨kh, rfl⟩
    · exact absurd rfl hne
    · rcases hlo with ⟨rfl, rfl⟩ | ⟨kl, rfl⟩
      · simp [run_sliceBound (P := P) (k := km) (i := m) (y := cap) ⟨by omega, by omega⟩, run_sliceBound (P := P) (k := kh) (i := h) (y := m.toNat) ⟨by omega, by omega⟩]
      · simp [run_sliceBound (P := P) (k := km) (i := m) (y := cap) ⟨by omega, by omega⟩, run_sliceBound (P := P) (k := kh) (i := h) (y := m.toNat) ⟨by omega, by omega⟩, run_sliceBound (P := P) (k := kl) (i := l) (y := h.toNat) ⟨h1, by omega⟩]
/-- A part of a row that reads. -/
theorem _root_.Go.Cx.RowAt.cutAt {G : Nat → Prop} {w : World} {ao : Option Addr} {n cap s : Nat} {cells : List Value} (h : RowAt G w ao n cap s cells) {l k m : Nat} (h1 : l ≤ k) (h2 : k ≤ n) (h3 : k ≤ m) (h4 : m ≤ cap) :
    RowAt G w (if m = l then ao else ao.map (·.add (l * s))) (k - l) (m - l) s ((cells.take (k * s)).drop (l * s)) := by
  have hmul : k * s ≤ n * s := Nat.mul_le_mul_right _ h2
  have hM := h.max
  refine ⟨?_, by omega, by omega, fun u hu => h.one u (List.mem_of_mem_take (List.mem_of_mem_drop hu)), ?_⟩
  · rw [List.length_drop, List.length_take, h.len, Nat.min_eq_left hmul, Nat.sub_mul]
  · by_cases hml : m = l
    · rw [if_pos hml]
      refine .inl ⟨by omega, fun _ => by omega⟩
    · rw [if_neg hml]
      rcases h.at_ with ⟨h0, hz⟩ | ⟨b, off, rfl, hg, hx⟩
      · refine .inl ⟨by omega, fun hn => ?_⟩
        cases ao with
        | none => have := hz rfl; omega
        | some a => cases hn
      · refine .inr ⟨b, off + l * s, by simp [addr_add], hg, fun j u hj => ?_⟩
        rw [List.getElem?_drop, List.getElem?_take] at hj
        split at hj
        · rw [Nat.add_assoc]; exact hx _ _ hj
        · cases hj
theorem slice_sound {t : TypeId} {a : AV} {lo hi mx : Option AV} {u : Value} {lo' hi' mx' : Option Value} {K : AV → Heap → Prop} (hG : Gam E.gl M w H) (ha : VR M H.length w a u)
    (hlo : (∀ a, lo = some a → ∃ u, lo' = some u ∧ VR M H.length w a u) ∧ (lo = none → lo' = none)) (hhi : (∀ a, hi = some a → ∃ u, hi' = some u ∧ VR M H.length w a u) ∧ (hi = none → hi' = none))
    (hmx : (∀ a, mx = some a → ∃ u, mx' = some u ∧ VR M H.length w a u) ∧ (mx = none → mx' = none)) (h : aslice E.P t a lo hi mx fun v => K v H) : Yields E M w H (Instr.sliceAt t u lo' hi' mx') K := by
  unfold aslice at h
  split at h
  · next s =>
    obtain ⟨hu, rfl, l, k, h1, h2, h3, hK⟩ := h
    unfold VR at ha
    subst ha
    have e3 := hmx.2 rfl
    subst e3
    refine .pure hG (u := .string (s.extract l.toNat k.toNat)) ?_ (by simp [VR]) hK
    have b1 : (lo' = none ∧ l = 0) ∨ ∃ k, lo' = some (.int k l) := by
      rcases abound_out hlo.1 hlo.2 h1 with ⟨_, e, e'⟩ | ⟨k, _, e⟩
      · exact .inl ⟨e, e'⟩
      · exact .inr ⟨k, e⟩
    have b2 : (hi' = none ∧ k = s.size) ∨ ∃ j, hi' = some (.int j k) := by
      rcases abound_out hhi.1 hhi.2 h2 with ⟨_, e, e'⟩ | ⟨j, _, e⟩
      · exact .inl ⟨e, e'⟩
      · exact .inr ⟨j, e⟩
    have hb := run_sliceBounds (P := E.P) (sl := false) (n := s.size) (cap := s.size) (m := (s.size : Nat)) b1 b2 (.inl ⟨rfl, rfl⟩) ⟨h3.1, h3.2.1, h3.2.2, by omega⟩ (Nat.le_refl _) w
    simp [Instr.sliceAt, run_underlying hu, Instr.slice, hb, capOf]
  · next r off =>
    obtain ⟨n, sz, g, h0, hn, rfl, l, k, h1, h2, h3, hK⟩ := h
    obtain ⟨e, hu, hs, _⟩ := arI_out h0
    unfold VR at ha
    obtain ⟨k0, b, k1, rfl⟩ := ha
    have e3 := hmx.2 rfl
    subst e3
    have b1 : (lo' = none ∧ l = 0) ∨ ∃ k, lo' = some (.int k l) := by
      rcases abound_out hlo.1 hlo.2 h1 with ⟨_, e, e'⟩ | ⟨k, _, e⟩
      · exact .inl ⟨e, e'⟩
      · exact .inr ⟨k, e⟩
    have b2 : (hi' = none ∧ k = n) ∨ ∃ j, hi' = some (.int j k) := by
      rcases abound_out hhi.1 hhi.2 h2 with ⟨_, e, e'⟩ | ⟨j, _, e⟩
      · exact .inl ⟨e, e'⟩
      · exact .inr ⟨j, e⟩
    have hb := run_sliceBounds (P := E.P) (sl := false) (n := n) (cap := n) (m := (n : Nat)) b1 b2 (.inl ⟨rfl, rfl⟩) ⟨h3.1, h3.2.1, h3.2.2, by omega⟩ (Nat.le_refl _) w
    refine .pure hG (u := .slice (some (if n = l.toNat then ⟨b, off, none⟩ else (⟨b, off, none⟩ : Addr).add (l.toNat * sz))) (k.toNat - l.toNat) (n - l.toNat)) ?_ ?_ hK
    · simp [Instr.sliceAt, run_underlying hu, Instr.sureAddr, hb, hs w, capOf]
    · unfold VR
      have e1 : (k - l).toNat = k.toNat - l.toNat := by omega
      rw [e1]
      refine ⟨k0, _, n - l.toNat, rfl, by omega, by unfold maxLen; omega, (fun h => by cases h), ?_⟩
      by_cases hnl : n = l.toNat
      · exact .inl (by omega)
      · rw [if_neg hnl]
        exact .inr ⟨b, k1, by rw [addr_add]⟩
  · obtain ⟨e, sz, h0, n, hn, l, k, m, h1, h2, h3, hb, hsome, hmt, hK⟩ := h
    obtain ⟨hu, hs, _⟩ := slI_out h0
    obtain ⟨ao, cap, hau, hcap, hcm⟩ := alen_out ha hn
    have b1 : (lo' = none ∧ l = 0) ∨ ∃ k, lo' = some (.int k l) := by
      rcases abound_out hlo.1 hlo.2 h1 with ⟨_, e, e'⟩ | ⟨k, _, e⟩
      · exact .inl ⟨e, e'⟩
      · exact .inr ⟨k, e⟩
    have b2 : (hi' = none ∧ k = n) ∨ ∃ j, hi' = some (.int j k) := by
      rcases abound_out hhi.1 hhi.2 h2 with ⟨_, e, e'⟩ | ⟨j, _, e⟩
      · exact .inl ⟨e, e'⟩
      · exact .inr ⟨j, e⟩
    have b3 : (mx' = none ∧ mx.isSome = false ∧ m = n) ∨ ∃ j, mx' = some (.int j m) ∧ mx.isSome = true ∧ hi' ≠ none := by
      rcases abound_out hmx.1 hmx.2 h3 with ⟨e0, e, e'⟩ | ⟨j, e0, e⟩
      · exact .inl ⟨e, by rw [e0]; rfl, e'⟩
      · refine .inr ⟨j, e, e0, ?_⟩
        rcases abound_out hhi.1 hhi.2 h2 with ⟨e1, e2, e'⟩ | ⟨j, _, e⟩
        · have := hsome e0
          rw [e1] at this
          cases this
        · rw [e]; simp
    have hbs := run_sliceBounds (P := E.P) (sl := true) (n := n) (cap := cap) (lo := lo') (hi := hi') (mx := mx') (l := l) (h := k) (m := m) b1 b2 (by
      rcases b3 with ⟨x, _, y⟩ | ⟨j, x, _, z⟩
      · exact .inl ⟨x, y⟩
      · exact .inr ⟨j, x, z⟩) hb hcap w
    obtain ⟨m', hm'⟩ : ∃ m' : Nat, m' = capOf mx' cap m.toNat := ⟨_, rfl⟩
    rw [← hm'] at hbs
    have hkm : k.toNat ≤ m' ∧ m' ≤ cap ∧ (mx.isSome = true → (m' : Int) = m) := by
      rcases b3 with ⟨x, y, z⟩ | ⟨j, x, y, z⟩
      · rw [x] at hm'
        have hm2 : m' = cap := hm'
        exact ⟨by omega, by omega, fun h => by rw [y] at h; cases h⟩
      · rw [x] at hm'
        have hm2 : m' = m.toNat := hm'
        exact ⟨by omega, by omega, fun _ => by omega⟩
    have hrun : (Instr.sliceAt t u lo' hi' mx').run E.P w = .ok (.slice (if m' = l.toNat then ao else ao.map (·.add (l.toNat * sz))) (k.toNat - l.toNat) (m' - l.toNat)) w := by
      rw [hau]
      simp [Instr.sliceAt, run_underlying hu, Instr.slice, hbs, hs w]
    clear hbs
    by_cases hc : mx.isSome = true ∧ m = l
    · refine .pure hG hrun ?_ (hmt hc)
      have e1 := hkm.2.2 hc.1
      unfold VR
      exact ⟨_, by rw [show k.toNat - l.toNat = 0 by omega, show m' - l.toNat = 0 by omega]⟩
    · have hK2 := hK hc
      clear hK hmt
      have e1 : (k - l).toNat = k.toNat - l.toNat := by omega
      split at hK2
      · next sz' es _ _ =>
        obtain ⟨rfl, hK⟩ := hK2
        refine .pure hG hrun ?_ hK
        unfold VR at ha ⊢
        obtain ⟨ao', cap', us, j1, j2, j3⟩ := ha
        rw [hau] at j1
        simp only [Value.slice.injEq] at j1
        obtain ⟨rfl, hnl, rfl⟩ := j1
        have hlen : ((es.take k.toNat).drop l.toNat).length = k.toNat - l.toNat := by simp; omega
        rw [hlen]
        exact ⟨_, _, _, rfl, VRss.drop l.toNat (VRss.take k.toNat j2), j3.cutAt (by omega) (by omega) (by omega) (by omega)⟩
      · next r sz' off n' _ _ =>
        obtain ⟨rfl, hK⟩ := hK2
        refine .pure hG hrun ?_ hK
        unfold VR at ha ⊢
        obtain ⟨j0, ao', cap', j1, j2, j3, j4, j5⟩ := ha
        rw [hau] at j1
        simp only [Value.slice.injEq] at j1
        obtain ⟨rfl, rfl, rfl⟩ := j1
        rw [e1]
        refine ⟨j0, _, m' - l.toNat, rfl, by omega, by omega, ?_, ?_⟩
        · intro hnone
          by_cases hml : m' = l.toNat
          · omega
          · rw [if_neg hml] at hnone
            cases ao with
            | none => have := j4 rfl; omega
            | some a => cases hnone
        · by_cases hml : m' = l.toNat
          · exact .inr (.inl ⟨by omega, by omega⟩)
          · rw [if_neg hml]
            rcases j5 with ⟨j5, j6⟩ | ⟨j5, j6⟩ | ⟨b, j6, rfl, j7⟩
            · exact .inl ⟨by omega, by omega⟩
            · exact .inr (.inl ⟨by omega, by omega⟩)
            · refine .inr (.inr ⟨b, j6, by simp [addr_add, Nat.add_mul], ?_⟩)
              refine Nat.le_trans (Nat.mul_le_mul_right _ ?_) j7
              omega
      · next r sz' off n' _ _ =>
        obtain ⟨rfl, hK⟩ := hK2
        refine .pure hG hrun ?_ hK
        unfold VR at ha ⊢
        obtain ⟨j0, ao', cap', j1, j2, j3, j4, j5⟩ := ha
        rw [hau] at j1
        simp only [Value.slice.injEq] at j1
        obtain ⟨rfl, rfl, rfl⟩ := j1
        rw [e1]
        refine ⟨j0, _, m' - l.toNat, rfl, by omega, by omega, ?_, ?_⟩
        · intro hnone
          by_cases hml : m' = l.toNat
          · omega
          · rw [if_neg hml] at hnone
            cases ao with
            | none => have := j4 rfl; omega
            | some a => cases hnone
        · by_cases hml : m' = l.toNat
          · exact .inl (by omega)
          · rw [if_neg hml]
            rcases j5 with j5 | ⟨b, j6, rfl⟩
            · exact .inl (by omega)
            · exact .inr ⟨b, j6, by simp [addr_add]⟩
      · refine .pure hG hrun ?_ hK2
        cases hn
        unfold VR at ha ⊢
        obtain ⟨ao', j1⟩ := ha
        rw [hau] at j1
        simp only [Value.slice.injEq] at j1
        obtain ⟨rfl, _, rfl⟩ := j1
        exact ⟨_, by rw [show k.toNat - l.toNat = 0 by omega, show m' - l.toNat = 0 by omega]⟩
      · refine .pure hG hrun ?_ hK2
        cases hn
        unfold VR at ha ⊢
        rw [hau] at ha
        simp only [Value.slice.injEq] at ha
        obtain ⟨rfl, _, rfl⟩ := ha
        rw [show k.toNat - l.toNat = 0 by omega, show m' - l.toNat = 0 by omega]
        simp
      · exact hK2.elim
end
end Go.Am

namespace Go.Am
open Go.RowKit Go.Cx

section
variable {E : Env} {M : Mem} {w : World} {H : Heap}

theorem len_sound {ts : List TypeId} {ty : TypeId} {as : List AV} {us : List Value} {K : AV → Heap → Prop} (hG : Gam E.gl M w H) (ha : VRt M H.length w as us) (h : alenB E.P ts as fun v => K v H) : Yields E M w H (Builtin.len_ ts.toArray ty us.toArray) K := by
  unfold alenB at h
  split at h
  · next t s =>
    obtain ⟨hu, hK⟩ := h
    unfold VRt at ha
    obtain ⟨u, r, rfl, h1, h2⟩ := ha
    unfold VRt at h2
    subst h2
    unfold VR at h1
    subst h1
    refine .pure hG ?_ (by simp [VR]; rfl) hK
    simp [Builtin.len_, run_underlying hu, goInt]
  · next t a _ =>
    obtain ⟨⟨e, sz, hs⟩, n, hn, hK⟩ := h
    obtain ⟨hu, _⟩ := slI_out hs
    unfold VRt at ha
    obtain ⟨u, r, rfl, h1, h2⟩ := ha
    unfold VRt at h2
    subst h2
    obtain ⟨ao, cap, rfl, _⟩ := alen_out h1 hn
    refine .pure hG ?_ (by simp [VR]; rfl) hK
    simp [Builtin.len_, run_underlying hu, goInt]
  · exact h.elim
theorem concl_out {M : Mem} {n : Nat} {w : World} : ∀ {as : List AV} {l us : List Value}, concl as = some l → VRt M n w as us → us = l
  | [], l, us, h, k => by unfold concl at h; unfold VRt at k; cases h; exact k
  | a :: r, l, us, h, k => by
    unfold concl at h
    split at h
    case h_2 => cases h
    case h_1 x l' hx hl =>
    cases h
    unfold VRt at k
    obtain ⟨u, r', rfl, h3, h4⟩ := k
    rw [conc_out hx h3, concl_out hl h4]
theorem dest_out {sz : Nat} {a : AV} {H1 : Heap} {old : List (List AV)} {u : Value} (hG : Gam E.gl M w H) (ha : VR M H.length w a u) (h : dest H sz a = some (H1, old)) :
    Gam E.gl M w H1 ∧ Ext M w H M w H1 ∧ H1.length = H.length ∧ ∃ ao cap us, u = .slice ao old.length cap ∧ old.length ≤ cap ∧ cap ≤ maxLen ∧ VRss M H.length w sz old us ∧
      ((ao = none ∨ cap = 0 ∧ old = []) ∧ cap = 0 ∧ us = [] ∨ ∃ b cur e fr, ao = some ⟨b, 0, none⟩ ∧ (∃ r, r < H.length ∧ M.blk r = some b ∧ M.bsz r = cur.size ∧ (∀ r' B', H1[r']? = some (some B') → M.blk r' ≠ some b) ∧ Hot M H b) ∧ ¬ M.G b ∧ w.heap[b]? = some (.cells cur e fr) ∧ (fr = (0, 0) ∨ cur.size ≤ fr.1) ∧
        cap * sz ≤ cur.size ∧ cur.toList.take us.length = us) := by
  unfold dest at h
  split at h
  · cases h
    unfold VR at ha
    subst ha
    exact ⟨hG, Ext.refl _ _ _, rfl, none, 0, [], rfl, Nat.le_refl _, Nat.zero_le _, by simp [VRss], .inl ⟨.inl rfl, rfl, rfl⟩⟩
  · cases h
    unfold VR at ha
    obtain ⟨ao, rfl⟩ := ha
    exact ⟨hG, Ext.refl _ _ _, rfl, ao, 0, [], rfl, Nat.le_refl _, Nat.zero_le _, by simp [VRss], .inl ⟨.inr ⟨rfl, rfl⟩, rfl, rfl⟩⟩
  · next r sz' off n =>
    split at h
    case h_2 => cases h
    case h_1 sz2 es hr =>
    split at h
    case isFalse => cases h
    case isTrue hc =>
    obtain ⟨rfl, rfl, rfl, hle⟩ := hc
    simp only [Option.some.injEq, Prod.mk.injEq] at h
    obtain ⟨rfl, rfl⟩ := h
    obtain ⟨hG1, hE1⟩ := hG.kill r
    unfold VR at ha
    obtain ⟨k0, ao, cap, rfl, k1, k2, k3, k4⟩ := ha
    have hel : (es.take n).length = n := by simp; omega
    refine ⟨hG1, hE1, by simp, ao, cap, ?_⟩
    rw [hel]
    have hrl : r < H.length := k0
    rcases hG.blks r _ hr with ⟨h1, h2⟩ | ⟨b, cur, e, fr, us, j1, j2, j3, j4, j5, j6, j7⟩
    · subst h2
      have hn : n = 0 := by simpa using hle
      subst hn
      rcases k4 with ⟨_, k4⟩ | ⟨_, k4⟩ | ⟨b, k5, _⟩
      · exact absurd rfl k4
      · subst k4
        refine ⟨[], rfl, k1, k2, by simp [VRss], .inl ⟨.inr ⟨rfl, by simp⟩, rfl, rfl⟩⟩
      · rw [h1] at k5; cases k5
    · rcases k4 with ⟨_, k4⟩ | ⟨k5, k4⟩ | ⟨b', k5, k6, k7⟩
      · exact absurd rfl k4
      · subst k4
        subst k5
        refine ⟨[], rfl, k1, k2, by simp [VRss], .inl ⟨.inr ⟨rfl, by simp⟩, rfl, rfl⟩⟩
      · rw [k5] at j1
        cases j1
        refine ⟨us.take (n * sz2), rfl, k1, k2, VRss.take n j5, .inr ⟨b, cur, e, fr, by rw [k6]; simp, ⟨r, hrl, k5, j4.symm, fun r' B' hr' hb' => ?_, ⟨r, _, hr, rfl, k5⟩⟩, hG.sep r _ b hr rfl k5, j2, j3, ?_, ?_⟩⟩
        · rw [getElem?_set' _ _ _ _ hrl] at hr'
          split at hr'
          · cases hr'
          · next hne => exact hG.far r r' _ B' b hr hr' rfl hne k5 hb'
        · rw [j4]
          simpa using k7
        · have hl := VRss.len j5
          have : (us.take (n * sz2)).length = n * sz2 := by
            rw [List.length_take, hl, Nat.min_eq_left (Nat.mul_le_mul_right _ hle)]
          rw [this, ← j6, List.take_take, Nat.min_eq_left (by rw [hl]; exact Nat.mul_le_mul_right _ hle)]
  · cases h
/-- A name for a block that has lost its own. -/
theorem Gam.rename {b : Nat} {B : Blk} {w1 : World} {s : Nat} (hG : Gam E.gl M w H) (hnG : ¬ M.G b) (hfree : ∀ r' B', H[r']? = some (some B') → M.blk r' ≠ some b)
    (hw1 : w1.os = w.os ∧ w1.tape = w.tape ∧ w1.output = w.output ∧ w1.heap.size = w.heap.size) (hoth : ∀ k, k ≠ b → w1.heap[k]? = w.heap[k]?)
    (hB : ∀ M', (∀ r, r < H.length → M'.blk r = M.blk r ∧ M'.bsz r = M.bsz r) → M'.G = M.G → M'.blk H.length = some b → M'.bsz H.length = s → BR M' (H.length + 1) w1 H.length B) :
    Gam E.gl (M.push H.length b s) w1 (H ++ [some B]) := by
  have hGw : ∀ k, M.G k → w1.heap[k]? = w.heap[k]? := fun k hk => hoth k (fun e => hnG (e ▸ hk))
  have hbl : ∀ r, r < H.length → (M.push H.length b s).blk r = M.blk r ∧ (M.push H.length b s).bsz r = M.bsz r := fun r hr => by
    simp only [Mem.push]
    rw [if_neg (by omega), if_neg (by omega)]
    exact ⟨rfl, rfl⟩
  have hnb : (M.push H.length b s).blk H.length = some b := by simp [Mem.push]
  have hin : ∀ {r B}, H[r]? = some (some B) → r < H.length := fun h => (List.getElem?_eq_some_iff.1 h).1
  refine ⟨fun g => VR.mono (M := M) (M' := M.push H.length b s) (n := 0) (w := w) (fun _ h => h) hGw (Nat.le_refl _) (fun r hr => absurd hr (Nat.not_lt_zero r)) (hG.glob g), fun k hk => by rw [hw1.2.2.2]; exact hG.inG k hk, fun r B' hr => ?_, fun r B' c hr hh hb => ?_, fun r r' B1 B2 c hr hr' hh hne hb => ?_⟩
  · rw [List.length_append, List.length_singleton]
    rw [getElem?_snoc] at hr
    split at hr
    · next he =>
      cases hr
      subst he
      exact hB _ hbl rfl hnb (by simp [Mem.push])
    · have hr2 := hin hr
      exact BR.mono (M := M) (n := H.length) (w := w) (r := r) (fun _ h => h) hGw (Nat.le_succ _) hbl (hbl r hr2).1 (hbl r hr2).2 (fun c hc => hoth c (fun e => hfree r B' hr (e ▸ hc))) (hG.blks r B' hr)
  · rw [getElem?_snoc] at hr
    split at hr
    · next he =>
      subst he
      rw [hnb] at hb
      cases hb
      exact hnG
    · rw [(hbl r (hin hr)).1] at hb
      exact hG.sep r B' c hr hh hb
  · rw [getElem?_snoc] at hr hr'
    split at hr
    · next he =>
      subst he
      rw [hnb] at hb
      cases hb
      rw [if_neg hne] at hr'
      rw [(hbl r' (hin hr')).1]
      exact hfree r' B2 hr'
    · have hr3 := hin hr
      rw [(hbl r hr3).1] at hb
      split at hr'
      · next he' =>
        subst he'
        rw [hnb]
        intro hc
        cases hc
        exact hfree r B1 hr hb
      · rw [(hbl r' (hin hr')).1]
        exact hG.far r r' B1 B2 c hr hr' hh hne hb
theorem append_sound {ts : List TypeId} {ty : TypeId} {as : List AV} {us : List Value} {K : AV → Heap → Prop} (hG : Gam E.gl M w H) (ha : VRt M H.length w as us) (h : aappend E.P ts as H K) : Yields E M w H (Builtin.append_ ts.toArray ty us.toArray) K := by
  unfold aappend at h
  split at h
  case h_2 => exact h.elim
  case h_1 t tx s x =>
  obtain ⟨e, sz, hs, H1, old, hd, new, hsrc, hn, hK⟩ := h
  obtain ⟨hu, hsz, i, zv, hi, hz, his, hzs, hby⟩ := slI_out hs
  unfold VRt at ha
  obtain ⟨u1, r1, rfl, h1, h2⟩ := ha
  unfold VRt at h2
  obtain ⟨u2, r2, rfl, h3, h4⟩ := h2
  unfold VRt at h4
  subst h4
  obtain ⟨news, hS, hnv⟩ := source_out hG h3 hsrc
  obtain ⟨hG1, hE1, hlen, ao, cap, os, rfl, hc1, hc2, hov, hcase⟩ := dest_out hG h1 hd
  have hS' : Src E.P i.size tx u2 new.length news w := by rw [his]; exact hS
  have hnl := VRss.len hnv
  have hol := VRss.len hov
  have hboth := VRss.append hov hnv
  have grow : cap < old.length + new.length → (Builtin.firstCells i.size old.length (.slice ao old.length cap)).run E.P w.drew = .ok os.toArray w.drew → Yields E M w H (Builtin.append_ [t, tx].toArray ty [Value.slice ao old.length cap, u2].toArray) K := by
    intro hlt hfc
    have hr := run_append_grow_src (P := E.P) w t tx ty e i zv hu hi hz ao old.length cap os hfc u2 new.length news hS' hlt (by omega) (growslice_fits hlt (Nat.le_trans (Nat.mul_le_mul hn hby) (by omega)))
    have hge := grownCap_ge w (old.length + new.length) cap e
    have hcm : grownCap w (old.length + new.length) cap e ≤ maxLen := grownCap_le_maxLen w _ cap e (by unfold maxLen; omega)
    have hcur : ((os ++ news).toArray ++ Builtin.zeroCells zv.cells (grownCap w (old.length + new.length) cap e - (old.length + new.length))).size = grownCap w (old.length + new.length) cap e * sz := by
      rw [Array.size_append, List.size_toArray, size_zeroCells, hzs, List.length_append, hol, hnl, ← Nat.add_mul, ← Nat.add_mul]
      congr 1
      omega
    rw [← hlen] at hboth
    obtain ⟨u, w', v, M', H', m1, m2, m3, m4, m5⟩ := hs_new (E := E) (M := M) (w := w) (H := H1) (K := K) (w1 := w.drew) (fr := (0, 0)) (k := old.length + new.length) (cap := grownCap w (old.length + new.length) cap e) (sz := sz) (es := old ++ new) hG1 rfl rfl ⟨rfl, Nat.le_succ _⟩ rfl (.inl rfl) hboth
      (by rw [Array.toList_append, List.take_left']; rfl) hge hcm (by rw [hcur]; exact Nat.le_refl _) hr (by rw [hlen]; exact hK)
    exact ⟨u, w', v, M', H', m1, m2, m3, m4, hE1.trans m5⟩
  rcases hcase with ⟨hnil, rfl, rfl⟩ | ⟨b, cur, e2, fr, rfl, ⟨r, hrl, hblk, hbsz, hfree, hhotb⟩, hnG, hg, hfr, hcs, htake⟩
  · have hold : old = [] := List.eq_nil_of_length_eq_zero (by omega)
    subst hold
    by_cases hm : new = []
    · -- nothing is appended: the slice as it was, under a name without a block
      subst hm
      simp only [List.length_nil, Nat.add_zero, List.append_nil] at hK hS' ⊢
      have hnl0 : news = [] := List.eq_nil_of_length_eq_zero (by simpa using hnl)
      subst hnl0
      have hrun : (Builtin.append_ [t, tx].toArray ty [Value.slice ao 0 0, u2].toArray).run E.P w = .ok (.slice ao 0 0) w := by
        have hl := hS'.len
        have hc := hS'.cells
        rcases hS'.kind with ⟨e', hk⟩ | hk <;> cases ao <;> simp [Builtin.append_, run_underlying hu, run_underlying hk, sizeOf, typeInfo, hi, hl, hc, storeCells]
      refine ⟨_, w, _, { M with blk := fun r => if r = H.length then none else M.blk r }, _, hrun, hK, ?_, ?_, ?_⟩
      · have hbl : ∀ r, r < H.length → (if r = H.length then none else M.blk r) = M.blk r := fun r hr => by rw [if_neg (by omega)]
        have hin : ∀ {r B}, H1[r]? = some (some B) → r < H.length := fun h => by have := (List.getElem?_eq_some_iff.1 h).1; omega
        refine ⟨fun g => VR.mono (M := M) (M' := { M with blk := fun r => if r = H.length then none else M.blk r }) (n := 0) (w := w) (fun _ h => h) (fun _ _ => rfl) (Nat.le_refl _) (fun r hr => absurd hr (Nat.not_lt_zero r)) (hG1.glob g), hG1.inG, fun r B hr => ?_, fun r B c hr hh hb => ?_, fun r r' B1 B2 c hr hr' hh hne hb => ?_⟩
        · rw [getElem?_snoc] at hr
          split at hr
          · next he =>
            cases hr
            exact .inl ⟨by simp only; rw [if_pos (by omega)], rfl⟩
          · have h5 := hin hr
            exact BR.mono (M := M) (n := H1.length) (w := w) (r := r) (fun _ h => h) (fun _ _ => rfl) (by simp) (fun r hr => ⟨hbl r (by omega), rfl⟩) (hbl r h5) rfl (fun _ _ => rfl) (hG1.blks r B hr)
        · rw [getElem?_snoc] at hr
          split at hr
          · next he =>
            simp only at hb
            rw [if_pos (by omega)] at hb
            cases hb
          · simp only at hb
            rw [hbl r (hin hr)] at hb
            exact hG1.sep r B c hr hh hb
        · rw [getElem?_snoc] at hr hr'
          simp only at hb ⊢
          split at hr
          · next he =>
            rw [if_pos (by omega)] at hb
            cases hb
          · rw [hbl r (hin hr)] at hb
            split at hr'
            · next he => rw [if_pos (by omega)]; simp
            · rw [hbl r' (hin hr')]
              exact hG1.far r r' B1 B2 c hr hr' hh hne hb
      · unfold VR
        refine ⟨by simp; omega, ao, 0, rfl, Nat.le_refl _, Nat.zero_le _, fun _ => rfl, .inr (.inl ⟨rfl, rfl⟩)⟩
      · refine hE1.trans ⟨rfl, ⟨rfl, Nat.le_refl _⟩, rfl, Nat.le_refl _, fun _ h => h, fun _ h => .inl h, fun _ _ _ => rfl, by simp, fun r hr => by simp only; rw [if_neg (by omega)], fun _ _ => rfl, fun c hc => ?_⟩
        obtain ⟨k, B, q1, q2, q3⟩ := hc
        rw [getElem?_snoc] at q1
        simp only at q3
        split at q1
        · next he =>
          rw [if_pos (by omega)] at q3
          cases q3
        · rw [if_neg (by have := (List.getElem?_eq_some_iff.1 q1).1; omega)] at q3
          exact .inl ⟨k, B, q1, q2, q3⟩
    · have hpos : 0 < new.length := List.length_pos_iff.2 hm
      refine grow (by simpa using hpos) ?_
      cases ao with
      | none => exact run_firstCells_none w.drew i.size _ _ _
      | some a => simp [Builtin.firstCells, loadCells, loadCellsFrom]
  · have hul : os.length ≤ cur.size := by
      have := congrArg List.length htake
      simp at this
      omega
    by_cases hroom : old.length + new.length ≤ cap
    · -- in place
      have hfit : old.length * sz + news.length ≤ cur.size := by
        rw [hnl, ← Nat.add_mul]
        exact Nat.le_trans (Nat.mul_le_mul_right _ hroom) hcs
      have hst := run_storeCells_gen E.P b (old.length * sz) e2 fr news 0 cur w hg hfr (by simpa using hfit) hS.one
      simp only [Nat.add_zero] at hst
      have hr : (Builtin.append_ [t, tx].toArray ty [Value.slice (some ⟨b, 0, none⟩) old.length cap, u2].toArray).run E.P w =
          .ok (.slice (some ⟨b, 0, none⟩) (old.length + new.length) cap) (w.setRow b (cur.toList.take (old.length * sz) ++ news ++ cur.toList.drop (old.length * sz + news.length)).toArray) := by
        have hl := hS.len
        have hc := hS.cells
        rcases hS.kind with ⟨e', hk⟩ | hk <;> simp [Builtin.append_, run_underlying hu, run_underlying hk, sizeOf, typeInfo, hi, his, hl, hroom, hc, addr_add, hst]
      have hoth : ∀ k, k ≠ b → (w.setRow b (cur.toList.take (old.length * sz) ++ news ++ cur.toList.drop (old.length * sz + news.length)).toArray).heap[k]? = w.heap[k]? := fun k hk => setRow_other w b k _ hk
      have hsz2 : (w.setRow b (cur.toList.take (old.length * sz) ++ news ++ cur.toList.drop (old.length * sz + news.length)).toArray).heap.size = w.heap.size := by simp [World.setRow]
      have hcsz : (cur.toList.take (old.length * sz) ++ news ++ cur.toList.drop (old.length * sz + news.length)).toArray.size = cur.size := by simp; omega
      have hGw : ∀ k, M.G k → (w.setRow b (cur.toList.take (old.length * sz) ++ news ++ cur.toList.drop (old.length * sz + news.length)).toArray).heap[k]? = w.heap[k]? := fun k hk => hoth k (fun e => hnG (e ▸ hk))
      refine ⟨_, _, _, M.push H1.length b cur.size, _, hr, hK, ?_, ?_, ?_⟩
      · refine Gam.rename (b := b) hG1 hnG hfree ⟨rfl, rfl, rfl, hsz2⟩ hoth (fun M' hM hMG hb hs2 => ?_)
        refine .inr ⟨b, (cur.toList.take (old.length * sz) ++ news ++ cur.toList.drop (old.length * sz + news.length)).toArray, e2, fr, os ++ news, hb, ?_, ?_, ?_, ?_, ?_, fun hh => by cases hh⟩
        · have := setRow_heap w b cur (cur.toList.take (old.length * sz) ++ news ++ cur.toList.drop (old.length * sz + news.length)).toArray e2 fr hg
          exact this
        · rw [hcsz]; exact hfr
        · rw [hcsz, hs2]
        · rw [← hlen] at hboth
          exact VRss.mono (M := M) (fun k hk => by rw [hMG]; exact hk) hGw (by omega) hM hboth
        · have : cur.toList.take (old.length * sz) = os := by rw [← hol]; exact htake
          rw [this]
          simp only [List.append_assoc]
          rw [← List.append_assoc, List.take_left']
          rfl
      · unfold VR
        refine ⟨by simp; omega, _, cap, rfl, hroom, hc2, (fun h => by cases h), .inr (.inr ⟨b, by simp [Mem.push, hlen], by simp, ?_⟩)⟩
        simp [Mem.push, hlen]
        exact hcs
      · refine ⟨rfl, ⟨rfl, Nat.le_refl _⟩, rfl, by omega, fun _ h => h, fun _ h => .inl h, fun k hk hn => hoth k (fun e => hn (e ▸ hhotb)), by simp; omega, fun r hr => ?_, fun r hr => ?_, fun c hc => ?_⟩
        · simp only [Mem.push]; rw [if_neg (by omega)]
        · simp only [Mem.push]; rw [if_neg (by omega)]
        · obtain ⟨k, B, q1, q2, q3⟩ := hc
          rw [getElem?_snoc] at q1
          simp only [Mem.push] at q3
          split at q1
          · next he =>
            rw [if_pos he] at q3
            cases q3
            exact .inl hhotb
          · next he =>
            rw [if_neg he] at q3
            rcases hE1.hot c ⟨k, B, q1, q2, q3⟩ with q | q
            · exact .inl q
            · exact .inr q
    · refine grow (by omega) ?_
      have hcells : ∀ j u, os[j]? = some u → w.drew.cell? ((⟨b, 0, none⟩ : Addr).add j) = some u := by
        intro j u hj
        rw [addr_add, Nat.zero_add]
        show w.cell? _ = _
        rw [cell_of_row w b j cur e2 fr hg]
        rw [← htake, List.getElem?_take] at hj
        split at hj
        · simpa using hj
        · cases hj
      exact run_firstCells_some w.drew i.size old.length ⟨b, 0, none⟩ old.length cap os (by rw [hol, his]) hcells
end
end Go.Am

namespace Go.Am
open Go.RowKit Go.Cx

theorem fold_set (off : Nat) : ∀ (l : List Value) (k : Nat) (cells : Array Value), off + k + l.length ≤ cells.size →
    ((l.zipIdx k).foldl (fun cs x => cs.setIfInBounds (off + x.2) x.1) cells).toList = cells.toList.take (off + k) ++ l ++ cells.toList.drop (off + k + l.length)
  | [], k, cells, _ => by simp
  | v :: l, k, cells, h => by
    simp only [List.zipIdx_cons, List.foldl_cons, List.length_cons] at h ⊢
    rw [fold_set off l (k + 1) _ (by simp; omega)]
    have e := list_seg_step cells.toList (off + k) v l (by simp; omega)
    simpa [Array.toList_setIfInBounds, Nat.add_assoc] using e
theorem fold_set_array (off : Nat) (l cells : Array Value) (h : off + l.size ≤ cells.size) :
    (l.zipIdx.foldl (fun cs (c, j) => cs.setIfInBounds (off + j) c) cells).toList = cells.toList.take off ++ l.toList ++ cells.toList.drop (off + l.toList.length) := by
  have := fold_set off l.toList 0 cells (by simpa using h)
  simp only [Nat.add_zero] at this
  rw [← this, ← Array.foldl_toList, Array.toList_zipIdx]
section
variable {E : Env} {M : Mem} {w : World} {H : Heap}

theorem afill_out {M : Mem} {n : Nat} {w : World} {ρ : Operand → AV} {ε : Operand → Value} (hev : ∀ x, VR M n w (ρ x) (ε x)) (pl : Nat → Option (Nat × Nat)) :
    ∀ (ps : List (Nat × Operand)) (cells : List AV) (us : Array Value) (cs : List AV), VRs M n w cells us.toList → afill pl cells (ps.map fun p => (p.1, ρ p.2)) = some cs →
      ∃ us', Instr.fill pl us (ps.map fun p => (p.1, ε p.2)) = some us' ∧ VRs M n w cs us'.toList
  | [], cells, us, cs, h, k => by
    simp only [List.map_nil, afill] at k
    cases k
    exact ⟨us, rfl, h⟩
  | (i, x) :: ps, cells, us, cs, h, k => by
    simp only [List.map_cons, afill] at k
    split at k
    case h_2 => cases k
    case h_1 off size c hp hc =>
    split at k
    case isFalse => cases k
    case isTrue hok =>
    obtain ⟨h1, h2⟩ := hok
    have hcs := cells1_out hc (hev x)
    have hl := VRs.len hcs
    have hul := VRs.len h
    simp only [Array.length_toList] at hl hul
    have hfold := fold_set_array off (ε x).cells us (by omega)
    obtain ⟨us', k1, k2⟩ := afill_out hev pl ps (splice off c cells) ((ε x).cells.zipIdx.foldl (fun cs (c, j) => cs.setIfInBounds (off + j) c) us) cs (by rw [hfold]; exact splice_out hcs h) k
    refine ⟨us', ?_, k2⟩
    simp only [List.map_cons, Instr.fill, hp]
    rw [if_neg (by simp; omega)]
    exact k1
theorem places_of {P : Program} : ∀ (fs : List Field) (l : List (Nat × Nat × Bool)), fieldsI P fs = some l →
    fs.mapM (fun f => (P.info? f.type).map fun i => (f.offset, i.size)) = some (l.map fun x => (x.1, x.2.1))
  | [], l, h => by unfold fieldsI at h; cases h; simp
  | f :: fs, l, h => by
    unfold fieldsI at h
    split at h
    case h_2 => cases h
    case h_1 x r hx hr =>
    cases h
    unfold fieldI at hx
    split at hx
    case h_2 => cases hx
    case h_1 i d hi hd =>
    cases hx
    have ih := places_of fs r hr
    simp only [List.mapM_cons, hi, Option.map_some, Option.bind_eq_bind, Option.bind_some, ih, Option.pure_def, List.map_cons]
theorem build_sound {t : TypeId} {ps : Array (Nat × Operand)} {ρ : Operand → AV} {ε : Operand → Value} {K : AV → Heap → Prop} (hG : Gam E.gl M w H) (hev : ∀ x, VR M H.length w (ρ x) (ε x))
    (h : abuild E.P t (ps.toList.map fun p => (p.1, ρ p.2)) fun v => K v H) : Yields E M w H (Instr.build t (ps.map fun (i, x) => (i, ε x))) K := by
  obtain ⟨s, g, z, ht, h⟩ := h
  obtain ⟨_, _, i, d, zv, hi, hd, hz, his, hzs, hone, rfl, _⟩ := tyI_out ht
  have hzr : (zeroValue t).run E.P w = .ok zv w := by simp [zeroValue, typeInfo, hi, hz]
  have hz0 : VRs M H.length w (zv.cells.toList.map .v) zv.cells.toList := VRs_consts (all_one hone)
  have hps : (ps.map fun (i, x) => (i, ε x)).toList = ps.toList.map fun p => (p.1, ε p.2) := by simp
  rcases h with ⟨fs, hf, cs, hfill, hK⟩ | ⟨n, sz, g', ha, cs, hfill, hK⟩
  · have hf0 := hf
    unfold stI at hf
    split at hf
    case h_2 => cases hf
    case h_1 fl hu =>
    obtain ⟨us', k1, k2⟩ := afill_out hev (fun i => (fs[i]?).map fun x => (x.1, x.2.1)) ps.toList _ zv.cells cs hz0 hfill
    refine .pure hG (u := .agg us') ?_ ?_ hK
    · have hm := run_places (P := E.P) w _ _ (places_of fl.toList fs hf)
      have k3 : Instr.fill (fun i : Nat => (fs[i]?).map fun (x : Nat × Nat × Bool) => (x.1, x.2.1)) zv.cells (ps.map fun (i, x) => (i, ε x)).toList = some us' := by rw [hps]; exact k1
      simp only [Array.toList_map] at k3
      simp [Instr.build, run_underlying hu, hzr, Array.mapM_eq_mapM_toList, hm, k3]
    · unfold VR
      exact ⟨us'.toList, by simp, k2⟩
  · obtain ⟨e, hu, hs, _⟩ := arI_out ha
    obtain ⟨us', k1, k2⟩ := afill_out hev (fun i => some (i * sz, sz)) ps.toList _ zv.cells cs hz0 hfill
    refine .pure hG (u := .agg us') ?_ ?_ hK
    · unfold Instr.build
      simp only [Sem.run_bind, hzr, Result.andThen_ok, run_underlying hu, hs w]
      rw [hps, k1]
      rfl
    · unfold VR
      exact ⟨us'.toList, by simp, k2⟩
theorem zeros_out {M : Mem} {n : Nat} {w : World} {zs : Array Value} (hone : ∀ x ∈ zs.toList, x.oneCell' = true) : ∀ k, VRss M n w zs.size (List.replicate k (zs.toList.map .v)) ((List.range (k * zs.size)).map fun i => zs[i % zs.size]!)
  | 0 => by simp [VRss]
  | k + 1 => by
    rw [List.replicate_succ]
    unfold VRss
    refine ⟨zs.toList, _, ?_, by simp, VRs_consts hone, zeros_out hone k⟩
    rw [show (k + 1) * zs.size = zs.size + k * zs.size by rw [Nat.add_mul, Nat.one_mul, Nat.add_comm], List.range_add, List.map_append, List.map_map]
    congr 1
    · apply List.ext_getElem
      · simp
      · intro i h1 h2
        simp only [List.getElem_map, List.getElem_range]
        simp at h1 h2
        rw [Nat.mod_eq_of_lt h2]
        simp [h2]
    · apply List.map_congr_left
      intro i _
      simp
theorem bfill_out {M : Mem} {n : Nat} {w : World} {ρ : Operand → AV} {ε : Operand → Value} {sz : Nat} (hev : ∀ x, VR M n w (ρ x) (ε x)) :
    ∀ (ps : List (Nat × Operand)) (es : List (List AV)) (us : Array Value) (es' : List (List AV)), VRss M n w sz es us.toList → bfill sz es (ps.map fun p => (p.1, ρ p.2)) = some es' →
      es'.length = es.length ∧ ∃ us', Instr.fill (fun i => some (i * sz, sz)) us (ps.map fun p => (p.1, ε p.2)) = some us' ∧ VRss M n w sz es' us'.toList
  | [], es, us, es', h, k => by
    simp only [List.map_nil, bfill] at k
    cases k
    exact ⟨rfl, us, rfl, h⟩
  | (i, x) :: ps, es, us, es', h, k => by
    simp only [List.map_cons, bfill] at k
    split at k
    case h_2 => cases k
    case h_1 c hc =>
    split at k
    case isFalse => cases k
    case isTrue hok =>
    obtain ⟨h1, h2⟩ := hok
    have hcs := cells1_out hc (hev x)
    have hl := VRs.len hcs
    have hul := VRss.len h
    simp only [Array.length_toList] at hl hul
    have hmul : i * sz + sz ≤ us.size := by
      rw [hul, ← Nat.succ_mul]
      exact Nat.mul_le_mul_right _ h2
    have hfold := fold_set_array (i * sz) (ε x).cells us (by omega)
    obtain ⟨k0, us', k1, k2⟩ := bfill_out hev ps (es.set i c) ((ε x).cells.zipIdx.foldl (fun cs (c, j) => cs.setIfInBounds (i * sz + j) c) us) es' (by
      rw [hfold]
      have := VRss.set (a := c) (c := (ε x).cells.toList) h h2 hcs (by simp; omega)
      simpa [hl, h1] using this) k
    refine ⟨by rw [k0]; simp, us', ?_, k2⟩
    simp only [List.map_cons, Instr.fill]
    rw [if_neg (by simp; omega)]
    exact k1
theorem buildSlice_sound {t : TypeId} {len : Nat} {ps : Array (Nat × Operand)} {ρ : Operand → AV} {ε : Operand → Value} {K : AV → Heap → Prop} (hG : Gam E.gl M w H) (hev : ∀ x, VR M H.length w (ρ x) (ε x))
    (h : abuildSlice E.P t len (ps.toList.map fun p => (p.1, ρ p.2)) H K) : Yields E M w H (Instr.buildSlice t len (ps.map fun (i, x) => (i, ε x))) K := by
  obtain ⟨e, sz, hs, g, z, ht, hpos, hbig, es, hfill, hK⟩ := h
  obtain ⟨hu, hsz, i, zv, hi, hz, his, hzs, hby⟩ := slI_out hs
  obtain ⟨_, _, i2, d, zv2, hi2, hd, hz2, his2, hzs2, hone, rfl, _⟩ := tyI_out ht
  rw [hi] at hi2
  cases hi2
  rw [hz] at hz2
  cases hz2
  have hps : (ps.map fun (i, x) => (i, ε x)).toList = ps.toList.map fun p => (p.1, ε p.2) := by simp
  have hz0 := zeros_out (M := M) (n := H.length) (w := w) (zs := zv.cells) (all_one hone) len
  rw [hzs] at hz0
  have hzr : (zeroValue e).run E.P w = .ok zv w := by simp [zeroValue, typeInfo, hi, hz]
  obtain ⟨k0, us', k1, k2⟩ := bfill_out hev ps.toList _ ((Array.range (len * sz)).map fun i => zv.cells[i % zv.cells.size]!) es (by rw [hzs]; simpa using hz0) hfill
  have hle : es.length = len := by simpa using k0
  have hul := VRss.len k2
  refine hs_new (w1 := w) (e := e) (fr := (0, 0)) (k := len) (cap := len) hG rfl rfl ⟨rfl, Nat.le_refl _⟩ rfl (.inl rfl) k2 (List.take_length) (Nat.le_refl _) ?_ (by rw [← hle]; simpa using Nat.le_of_eq hul.symm) ?_ hK
  · unfold maxLen
    have : len ≤ len * sz := Nat.le_mul_of_pos_right _ hpos
    omega
  · have hn : ¬ (len * sz > 2 ^ 24) := by omega
    unfold Instr.buildSlice
    simp only [Sem.run_bind, run_underlying hu, Result.andThen_ok, hsz w, if_neg hn]
    by_cases h0 : len * sz = 0
    · have hl0 : len = 0 := by
        rcases Nat.mul_eq_zero.1 h0 with h | h
        · exact h
        · omega
      subst hl0
      simp only [Nat.zero_mul, Array.range_zero', List.map_toArray, List.map_nil, if_true] at k1 ⊢
      simp only [Sem.run_bind, Sem.run_pure, Result.andThen_ok]
      rw [hps, k1]
      simp [newRow, newObj, Sem.run]
    · simp only [h0, if_false, Sem.run_bind, hzr, Result.andThen_ok, Sem.run_pure]
      rw [hps, k1]
      simp [newRow, newObj, Sem.run]
theorem makeSlice_sound {t : TypeId} {l c : AV} {u x : Value} {K : AV → Heap → Prop} (hG : Gam E.gl M w H) (hl : VR M H.length w l u) (hc : VR M H.length w c x) (h : amakeSlice E.P t l c H K) : Yields E M w H (Instr.makeSlice t u x) K := by
  obtain ⟨e, sz, hs, g, z, ht, k, k', ln, cp, rfl, rfl, hb, hK⟩ := h
  obtain ⟨hu, hsz, i, zv, hi, hz, his, hzs, hby⟩ := slI_out hs
  obtain ⟨_, _, i2, d, zv2, hi2, hd, hz2, his2, hzs2, hone, rfl, _⟩ := tyI_out ht
  rw [hi] at hi2
  cases hi2
  rw [hz] at hz2
  cases hz2
  unfold VR at hl hc
  subst hl
  subst hc
  have hb1 : (i.bytes : Int) * cp ≤ 281474976710656 := by
    have : (i.bytes : Int) * cp ≤ 1024 * 68719476736 := Int.mul_le_mul (by omega) (by omega) (by omega) (by omega)
    omega
  have hr := run_make (P := E.P) w t e i zv hu hi hz k k' ln cp hb.1 hb.2.1 hb1 (by omega)
  have hz0 := zeros_out (M := M) (n := H.length) (w := w) (zs := zv.cells) (all_one hone) cp.toNat
  have hle : ln.toNat * sz ≤ cp.toNat * sz := Nat.mul_le_mul_right _ (by omega)
  have ht0 := VRss.take ln.toNat hz0
  rw [List.take_replicate, Nat.min_eq_left (by omega), hzs] at ht0
  have hsize : (madeCells zv.cells (cp.toNat * i.size)).toList = (List.range (cp.toNat * sz)).map fun j => zv.cells[j % zv.cells.size]! := by
    simp [madeCells, his]
  refine hs_new (w1 := w) (e := e) (fr := (0, 0)) (k := ln.toNat) (cap := cp.toNat) hG rfl rfl ⟨rfl, Nat.le_refl _⟩ rfl (.inl rfl) ht0 ?_ (by omega) (by unfold maxLen; omega) ?_ hr hK
  · rw [hsize, hzs, List.length_take, List.length_map, List.length_range, Nat.min_eq_left hle]
  · have := congrArg List.length hsize
    simp at this
    omega
theorem VRss.flat {M : Mem} {n : Nat} {w : World} {sz : Nat} : ∀ {es : List (List AV)} {us : List Value}, VRss M n w sz es us → VRs M n w es.flatten us
  | [], us, h => by unfold VRss at h; subst h; simp [VRs]
  | e :: es, us, h => by
    unfold VRss at h
    obtain ⟨c, r, rfl, h2, h3, h4⟩ := h
    rw [List.flatten_cons]
    exact h3.append (VRss.flat h4)
theorem copy_sound {ts : List TypeId} {ty : TypeId} {as : List AV} {us : List Value} {K : AV → Heap → Prop} (hG : Gam E.gl M w H) (ha : VRt M H.length w as us) (h : acopy E.P ts as H K) : Yields E M w H (Builtin.copy_ ts.toArray ty us.toArray) K := by
  unfold acopy at h
  split at h
  case h_2 => exact h.elim
  case h_1 t tx d x =>
  obtain ⟨e, sz, hs, ⟨e', htx⟩, new, hsrc, h⟩ := h
  obtain ⟨hu, hsz, i, zv, hi, hz, his, hzs, hby⟩ := slI_out hs
  unfold VRt at ha
  obtain ⟨u1, r1, rfl, h1, h2⟩ := ha
  unfold VRt at h2
  obtain ⟨u2, r2, rfl, h3, h4⟩ := h2
  unfold VRt at h4
  subst h4
  obtain ⟨sao, scap, sus, rfl, hnv, hrow⟩ := elems_out hG h3 hsrc
  -- the run
  have run : ∀ (ao : Option Addr) (n cap : Nat), (∀ news, news = sus.take (min new.length n * sz) → ∃ w', (match ao with | some a => storeCells a news 0 | none => pure ()).run E.P w = .ok () w' ∧
      ((Builtin.copy_ [t, tx].toArray ty [Value.slice ao n cap, .slice sao new.length scap].toArray).run E.P w = .ok (goInt (min new.length n : Nat)) w' → Yields E M w H (Builtin.copy_ [t, tx].toArray ty [Value.slice ao n cap, .slice sao new.length scap].toArray) K)) →
      Yields E M w H (Builtin.copy_ [t, tx].toArray ty [Value.slice ao n cap, .slice sao new.length scap].toArray) K := by
    intro ao n cap hh
    obtain ⟨w', h5, h6⟩ := hh _ rfl
    refine h6 ?_
    have hf := (hrow.front (m := min new.length n) (Nat.min_le_left _ _)).src (P := E.P) htx
    have hc := hf.cells
    have hmin : Nat.min new.length n = min new.length n := rfl
    have hfc : (Builtin.firstCells i.size (min new.length n) (.slice sao new.length scap)).run E.P w = .ok (sus.take (min new.length n * sz)).toArray w := by
      rw [his]
      cases sao with
      | none => exact hc
      | some a => exact hc
    cases ao with
    | none => simp [Builtin.copy_, run_underlying hu, Builtin.lenOf, sizeOf, typeInfo, hi, hmin, hfc] at h5 ⊢; exact h5
    | some a =>
      simp only at h5
      simp [Builtin.copy_, run_underlying hu, Builtin.lenOf, sizeOf, typeInfo, hi, hmin, hfc, h5]
  have hgo : ∀ m : Nat, VR M H.length w (.v (.int .i64 (m : Nat))) (goInt m) := fun m => by unfold VR; rfl
  have hsul := VRss.len hnv
  cases d with
  | hs r sz' off n =>
    obtain ⟨es, hr, rfl, hle, hK⟩ := h
    unfold VR at h1
    obtain ⟨k0, ao, cap, rfl, k1, k2, k3, k4⟩ := h1
    refine run ao n cap fun news hnews => ?_
    by_cases hm : min new.length n = 0
    · rw [hm] at hnews hK ⊢
      simp at hnews
      subst hnews
      refine ⟨w, by cases ao <;> simp [storeCells], fun hrun => ?_⟩
      have hset : H.set r (some (.row true sz' (es.take off ++ new.take 0 ++ es.drop (off + 0)))) = H := by
        simp only [List.take_zero, List.append_nil, Nat.add_zero, List.take_append_drop]
        obtain ⟨hrl, hre⟩ := List.getElem?_eq_some_iff.1 hr
        rw [← hre]
        exact List.set_getElem_self hrl
      rw [hset] at hK
      exact ⟨_, w, _, M, H, hrun, hK, hG, hgo 0, Ext.refl _ _ _⟩
    · have hn : n ≠ 0 := by omega
      rcases k4 with ⟨k4, _⟩ | ⟨k4, _⟩ | ⟨b, k5, rfl, k7⟩
      · exact absurd k4 hn
      · exact absurd k4 hn
      rcases hG.blks r _ hr with ⟨q1, _⟩ | ⟨b', cur, et, fr, us, j1, j2, j3, j4, j5, j6, j7⟩
      · rw [k5] at q1; cases q1
      rw [k5] at j1
      cases j1
      generalize hmm : min new.length n = m at *
      have hml : m ≤ new.length := by omega
      have hmn : m ≤ n := by omega
      have husl := VRss.len j5
      have hul : us.length ≤ cur.size := by
        have := congrArg List.length j6
        simp at this
        omega
      have hnl : news.length = m * sz' := by
        rw [hnews, List.length_take, hsul, Nat.min_eq_left (Nat.mul_le_mul_right _ hml)]
      have hfit : off * sz' + news.length ≤ us.length := by
        rw [hnl, ← Nat.add_mul, husl]
        exact Nat.mul_le_mul_right _ (by omega)
      have hnv2 : VRss M H.length w sz' (new.take m) news := by rw [hnews]; exact VRss.take m hnv
      have hst := run_storeCells_gen E.P b (off * sz') et fr news 0 cur w j2 j3 (by omega) (VRss.one hnv2)
      simp only [Nat.add_zero] at hst
      have hall := VRss.append (VRss.append (VRss.take off j5) hnv2) (VRss.drop (off + m) j5)
      obtain ⟨g1, g2⟩ := hG.write (B' := .row true sz' (es.take off ++ new.take m ++ es.drop (off + m))) (cur' := (cur.toList.take (off * sz') ++ news ++ cur.toList.drop (off * sz' + news.length)).toArray) hr rfl k5 j2 (fun _ _ c3 c4 => by
        have hcs : (cur.toList.take (off * sz') ++ news ++ cur.toList.drop (off * sz' + news.length)).toArray.size = cur.size := by simp; omega
        refine .inr ⟨b, _, et, fr, _, k5, c4, by rw [hcs]; exact j3, by rw [hcs]; exact j4, c3 hall, ?_, fun hh => by cases hh⟩
        have hcur : cur.toList = us ++ cur.toList.drop us.length := by
          conv => lhs; rw [← List.take_append_drop us.length cur.toList, j6]
        have e1 : cur.toList.take (off * sz') = us.take (off * sz') := by rw [hcur, List.take_append_of_le_length (by omega)]
        have e2 : cur.toList.drop (off * sz' + news.length) = us.drop ((off + m) * sz') ++ cur.toList.drop us.length := by
          rw [Nat.add_mul, ← hnl]
          conv => lhs; rw [hcur, List.drop_append_of_le_length (by omega)]
        simp only [List.toList_toArray]
        rw [e1, e2, ← List.append_assoc, List.take_left'] 
        rfl)
      exact ⟨_, hst, fun hrun => ⟨_, _, _, M, _, hrun, hK, g1, by rw [List.length_set]; unfold VR; rfl, g2⟩⟩
  | os r sz' off n =>
    obtain ⟨cs, hr, rfl, hle, hK⟩ := h
    unfold VR at h1
    obtain ⟨k0, ao, cap, rfl, k1, k2, k3, k4⟩ := h1
    refine run ao n cap fun news hnews => ?_
    by_cases hm : min new.length n = 0
    · rw [hm] at hnews hK ⊢
      simp at hnews
      subst hnews
      refine ⟨w, by cases ao <;> simp [storeCells], fun hrun => ?_⟩
      have hset : H.set r (some (.obj (splice off (new.take 0).flatten cs))) = H := by
        simp only [List.take_zero, List.flatten_nil, splice, List.append_nil, List.length_nil, Nat.add_zero, List.take_append_drop]
        obtain ⟨hrl, hre⟩ := List.getElem?_eq_some_iff.1 hr
        rw [← hre]
        exact List.set_getElem_self hrl
      rw [hset] at hK
      exact ⟨_, w, _, M, H, hrun, hK, hG, hgo 0, Ext.refl _ _ _⟩
    · have hn : n ≠ 0 := by omega
      rcases k4 with k4 | ⟨b, k5, rfl⟩
      · exact absurd k4 hn
      obtain ⟨b', cur, et, fr, j1, j2, j3, j4, j5⟩ := hG.blks r _ hr
      rw [k5] at j1
      cases j1
      generalize hmm : min new.length n = m at *
      have hml : m ≤ new.length := by omega
      have hmn : m ≤ n := by omega
      have hcl := VRs.len j5
      have hnl : news.length = m * sz' := by
        rw [hnews, List.length_take, hsul, Nat.min_eq_left (Nat.mul_le_mul_right _ hml)]
      have hms : m * sz' ≤ n * sz' := Nat.mul_le_mul_right _ hmn
      have hcz : cur.size = cs.length := by simpa using hcl
      have hnv2 : VRss M H.length w sz' (new.take m) news := by rw [hnews]; exact VRss.take m hnv
      have hst := run_storeCells_gen E.P b off et fr news 0 cur w j2 j3 (by omega) (VRss.one hnv2)
      simp only [Nat.add_zero] at hst
      obtain ⟨g1, g2⟩ := hG.write (B' := .obj (splice off (new.take m).flatten cs)) (cur' := (cur.toList.take off ++ news ++ cur.toList.drop (off + news.length)).toArray) hr rfl k5 j2 (fun _ c2 _ c4 => by
        have hcs : (cur.toList.take off ++ news ++ cur.toList.drop (off + news.length)).toArray.size = cur.size := by simp; omega
        exact ⟨b, _, et, fr, k5, c4, by rw [hcs]; exact j3, by rw [hcs]; exact j4, c2 (splice_out hnv2.flat j5)⟩)
      exact ⟨_, hst, fun hrun => ⟨_, _, _, M, _, hrun, hK, g1, by rw [List.length_set]; unfold VR; rfl, g2⟩⟩
  | _ => exact h.elim
end
end Go.Am

namespace Go.Am
open Go.RowKit Go.Cx

/-! ### lists -/
theorem kAt_some {ks : List Int} {k : Int} {i : Nat} (h : kAt ks k = some i) : i < ks.length ∧ ks[i]? = some k := by
  unfold kAt at h
  split at h
  · next hk =>
    cases h
    have := List.idxOf_lt_length_of_mem hk
    exact ⟨this, by rw [List.getElem?_eq_getElem this, List.getElem_idxOf]⟩
  · cases h
theorem kAt_none {ks : List Int} {k : Int} (h : kAt ks k = none) : k ∉ ks := by
  unfold kAt at h
  split at h
  · cases h
  · assumption
theorem perm_erase {α : Type} : ∀ {l : List α} {i : Nat} {e : α}, l[i]? = some e → l.Perm (e :: l.eraseIdx i)
  | [], i, e, h => by simp at h
  | a :: l, 0, e, h => by simp at h; subst h; exact List.Perm.refl _
  | a :: l, i + 1, e, h => by
    have := perm_erase (l := l) (i := i) (e := e) (by simpa using h)
    rw [List.eraseIdx_cons_succ]
    exact (this.cons a).trans (List.Perm.swap _ _ _)
theorem perm_set {α : Type} : ∀ {l : List α} {i : Nat} {e e' : α}, l[i]? = some e → (l.set i e').Perm (e' :: l.eraseIdx i)
  | [], i, e, _, h => by simp at h
  | a :: l, 0, e, _, h => by simp
  | a :: l, i + 1, e, e', h => by
    have := perm_set (l := l) (i := i) (e := e) (e' := e') (by simpa using h)
    rw [List.eraseIdx_cons_succ, List.set_cons_succ]
    exact (this.cons a).trans (List.Perm.swap _ _ _)
theorem perm_both {α : Type} {l m : List α} {i j : Nat} {e : α} (hp : l.Perm m) (hi : l[i]? = some e) (hj : m[j]? = some e) : (l.eraseIdx i).Perm (m.eraseIdx j) :=
  (((perm_erase hi).symm.trans hp).trans (perm_erase hj)).cons_inv
section
variable {E : Env} {M : Mem} {w : World} {H : Heap}
theorem VRt.set {n : Nat} : ∀ {as : List AV} {us : List Value} {i : Nat} {a : AV} {u : Value}, VRt M n w as us → VR M n w a u → VRt M n w (as.set i a) (us.set i u)
  | [], us, i, a, u, h, _ => by
    unfold VRt at h
    subst h
    simp [VRt]
  | b :: as, us, 0, a, u, h, k => by
    unfold VRt at h
    obtain ⟨x, r, rfl, h1, h2⟩ := h
    simp only [List.set_cons_zero]
    unfold VRt
    exact ⟨u, r, rfl, k, h2⟩
  | b :: as, us, i + 1, a, u, h, k => by
    unfold VRt at h
    obtain ⟨x, r, rfl, h1, h2⟩ := h
    simp only [List.set_cons_succ]
    unfold VRt
    exact ⟨x, r.set i u, rfl, h1, VRt.set h2 k⟩
theorem VRt.erase {n : Nat} : ∀ {as : List AV} {us : List Value} {i : Nat}, VRt M n w as us → VRt M n w (as.eraseIdx i) (us.eraseIdx i)
  | [], us, i, h => by
    unfold VRt at h
    subst h
    simp [VRt]
  | b :: as, us, 0, h => by
    unfold VRt at h
    obtain ⟨x, r, rfl, h1, h2⟩ := h
    exact h2
  | b :: as, us, i + 1, h => by
    unfold VRt at h
    obtain ⟨x, r, rfl, h1, h2⟩ := h
    simp only [List.eraseIdx_cons_succ]
    unfold VRt
    exact ⟨x, r.eraseIdx i, rfl, h1, VRt.erase h2⟩
/-- A hot block is written, of whatever kind. -/
theorem Gam.writeO {w' : World} {r b : Nat} {B B' : Blk} (hG : Gam E.gl M w H) (hr : H[r]? = some (some B)) (hh : B.isHot = true) (hb : M.blk r = some b) (hos : w'.os = w.os) (htp : w'.tape = w.tape ∧ w.drawn ≤ w'.drawn) (hop : w'.output = w.output) (hsz : w'.heap.size = w.heap.size) (hoth : ∀ k, k ≠ b → w'.heap[k]? = w.heap[k]?)
    (hB : (∀ {a u}, VR M H.length w a u → VR M H.length w' a u) → (∀ {a u}, VRt M H.length w a u → VRt M H.length w' a u) → BR M H.length w' r B') :
    Gam E.gl M w' (H.set r (some B')) ∧ Ext M w H M w' (H.set r (some B')) := by
  have hrl : r < H.length := (List.getElem?_eq_some_iff.1 hr).1
  have hnG : ¬ M.G b := hG.sep r B b hr hh hb
  have hGw : ∀ k, M.G k → w'.heap[k]? = w.heap[k]? := fun k hk => hoth k (fun e => hnG (e ▸ hk))
  refine ⟨⟨fun g => VR.mono (M := M) (M' := M) (n := 0) (w := w) (fun _ h => h) hGw (Nat.le_refl _) (fun _ _ => ⟨rfl, rfl⟩) (hG.glob g), fun k hk => by rw [hsz]; exact hG.inG k hk, fun k B1 hk => ?_, fun k B1 c hk h1 h2 => ?_, fun k k' B1 B2 c hk hk' h1 hne h2 => ?_⟩,
    ⟨hos, htp, hop, by omega, fun _ h => h, fun _ h => .inl h, fun k hk hn => ?_, by simp, fun _ _ => rfl, fun _ _ => rfl, fun c hc => ?_⟩⟩
  · rw [List.length_set]
    rw [getElem?_set' _ _ _ _ hrl] at hk
    split at hk
    · next e1 =>
      cases hk
      subst e1
      exact hB (VR.mono (fun _ h => h) hGw (Nat.le_refl _) (fun _ _ => ⟨rfl, rfl⟩)) (VRt.mono (fun _ h => h) hGw (Nat.le_refl _) (fun _ _ => ⟨rfl, rfl⟩))
    · next e1 =>
      refine BR.mono (M := M) (n := H.length) (w := w) (r := k) (fun _ h => h) hGw (Nat.le_refl _) (fun _ _ => ⟨rfl, rfl⟩) rfl rfl (fun c hc => hoth c (fun e2 => ?_)) (hG.blks k B1 hk)
      subst e2
      exact hG.far r k B B1 _ hr hk hh e1 hb hc
  · rw [getElem?_set' _ _ _ _ hrl] at hk
    split at hk
    · next e1 =>
      subst e1
      exact hG.sep _ B c hr hh h2
    · exact hG.sep k B1 c hk h1 h2
  · rw [getElem?_set' _ _ _ _ hrl] at hk hk'
    split at hk
    · next e1 =>
      subst e1
      rw [if_neg hne] at hk'
      exact hG.far _ k' B B2 c hr hk' hh hne h2
    · split at hk'
      · next e1 e2 =>
        subst e2
        exact hG.far k _ B1 B c hk hr h1 hne h2
      · exact hG.far k k' B1 B2 c hk hk' h1 hne h2
  · refine hoth k (fun e2 => ?_)
    subst e2
    exact hn ⟨r, B, hr, hh, hb⟩
  · obtain ⟨k, B1, h1, h2, h3⟩ := hc
    rw [getElem?_set' _ _ _ _ hrl] at h1
    split at h1
    · next e1 =>
      subst e1
      exact .inl ⟨_, B, hr, hh, h3⟩
    · exact .inl ⟨k, B1, h1, h2, h3⟩
theorem mpI_out {P : Program} {t k e : TypeId} (h : mpI P t = some (k, e)) : P.underlying t = some (.map k e) ∧ P.underlying k = some (.int .i64) := by
  unfold mpI at h
  split at h
  · next k' e' hu =>
    split at h
    · next hk =>
      cases h
      exact ⟨hu, hk⟩
    · cases h
  · cases h
theorem zvI_out {P : Program} {t : TypeId} {z : AV} (h : zvI P t = some z) : ∃ v, z = cv v ∧ ∀ w, (zeroValue t).run P w = .ok v w := by
  unfold zvI at h
  cases hi : P.info? t with
  | none => rw [hi] at h; cases h
  | some i =>
    rw [hi] at h
    cases hz : i.zero with
    | none => rw [Option.bind_some, hz] at h; cases h
    | some v =>
      rw [Option.bind_some, hz] at h
      cases h
      exact ⟨v, rfl, fun w => by simp [zeroValue, typeInfo, hi, hz, Sem.run]⟩
/-- What a map's block holds. -/
theorem map_out {r : Nat} {ks : List Int} {vs : List AV} {st : Option (List Nat × Nat)} (hG : Gam E.gl M w H) {u : Value} (hu : VR M H.length w (.mp r) u) (hr : H[r]? = some (some (.map ks vs st))) :
    ∃ b es c l, u = .map (some b) ∧ M.blk r = some b ∧ w.heap[b]? = some (.map es c) ∧ MapKept.Stamped es c ∧ List.Perm l es.toList ∧ l.map (·.key) = ks.map (.int .i64) ∧ VRt M H.length w vs (l.map (·.val)) ∧ (∀ bs c', st = some (bs, c') → l.map (·.born) = bs ∧ c' = c) ∧
      l.length = ks.length ∧ vs.length = ks.length ∧ ∀ x ∈ es.toList, MapKept.IsKey (.int .i64) x.key := by
  obtain ⟨b, es, c, l, k1, k2, k3, k4, k5, k6, k7⟩ := hG.blks r _ hr
  unfold VR at hu
  obtain ⟨_, b', h1, rfl⟩ := hu
  rw [k1] at h1
  cases h1
  have e1 : l.length = ks.length := by simpa using congrArg List.length k5
  refine ⟨b, es, c, l, rfl, k1, k2, k3, k4, k5, k6, k7, e1, ?_, fun x hx => ?_⟩
  · have := VRt.len k6
    rw [List.length_map] at this
    omega
  · have h2 : x.key ∈ l.map (·.key) := List.mem_map.2 ⟨x, k4.mem_iff.2 hx, rfl⟩
    rw [k5] at h2
    obtain ⟨z, _, hz⟩ := List.mem_map.1 h2
    rw [← hz]
    rfl
/-- Looking for a key. -/
theorem find_out {es : Array MapEntry} {l : List MapEntry} {ks : List Int} {x : Int} {c : Nat} (hs : MapKept.Stamped es c) (hp : List.Perm l es.toList) (hk : l.map (·.key) = ks.map (.int .i64)) (hkey : ∀ x ∈ es.toList, MapKept.IsKey (.int .i64) x.key) :
    (kAt ks x = none ∧ Instr.findNow (.int .i64) (.int .i64 x) es.toList 0 = some none ∧ ∀ e ∈ es.toList, e.key ≠ .int .i64 x) ∨
    ∃ i j e, kAt ks x = some i ∧ l[i]? = some e ∧ es.toList[j]? = some e ∧ e.key = .int .i64 x ∧ Instr.findNow (.int .i64) (.int .i64 x) es.toList 0 = some (some (j, e.val)) := by
  have hkeys : ∀ e ∈ l, ∃ z ∈ ks, e.key = .int .i64 z := fun e he => by
    have h2 : e.key ∈ l.map (·.key) := List.mem_map.2 ⟨e, he, rfl⟩
    rw [hk] at h2
    obtain ⟨z, hz, hz2⟩ := List.mem_map.1 h2
    exact ⟨z, hz, hz2.symm⟩
  rcases MapKept.findNow_spec (d := .int .i64) (k := .int .i64 x) rfl es.toList 0 hkey with ⟨h1, h2⟩ | ⟨j, e, h1, h2, h3⟩
  · refine .inl ⟨?_, h1, h2⟩
    unfold kAt
    rw [if_neg]
    intro hx
    have h4 : Value.int .i64 x ∈ l.map (·.key) := by rw [hk]; exact List.mem_map.2 ⟨x, hx, rfl⟩
    obtain ⟨e, he, hee⟩ := List.mem_map.1 h4
    exact h2 e (hp.mem_iff.1 he) hee
  · rw [Nat.zero_add] at h1
    have hel : e ∈ l := hp.mem_iff.2 (List.mem_of_getElem? h2)
    obtain ⟨z, hz, hz2⟩ := hkeys e hel
    rw [h3] at hz2
    cases hz2
    have hi : kAt ks x = some (ks.idxOf x) := by unfold kAt; rw [if_pos hz]
    obtain ⟨q1, q2⟩ := kAt_some hi
    have hlen : l.length = ks.length := by simpa using congrArg List.length hk
    have hil : ks.idxOf x < l.length := by omega
    refine .inr ⟨_, j, e, hi, ?_, h2, h3, h1⟩
    have h5 : (l.map (·.key))[ks.idxOf x]? = some (.int .i64 x) := by rw [hk, List.getElem?_map, q2]; rfl
    rw [List.getElem?_map, List.getElem?_eq_getElem hil] at h5
    have h6 : (l[ks.idxOf x]).key = .int .i64 x := by simpa using h5
    rw [List.getElem?_eq_getElem hil]
    congr 1
    have hst := (MapKept.stamped_iff es c).1 hs
    exact Go.entry_eq_of_key hst.2.2 (hp.mem_iff.1 (List.getElem_mem hil)) (hp.mem_iff.1 hel) (h6.trans h3.symm)
theorem makeMap_sound {t : TypeId} {r : Option Value} {a : Option AV} {K : AV → Heap → Prop} (hG : Gam E.gl M w H) (hr : a = none → r = none) (h : amakeMap E.P t a H K) : Yields E M w H (Instr.makeMap t r) K := by
  obtain ⟨ke, h1, h2, hK⟩ := h
  rw [hr h2]
  obtain ⟨g1, g2⟩ := hG.push (w1 := w) (o := .map #[] 0) (B := .map [] [] none) (s := 0) rfl rfl ⟨rfl, Nat.le_refl _⟩ rfl fun M' hM hMG hb hs hn ho => by
    refine ⟨w.heap.size, #[], 0, [], hb, hn, MapKept.stamped_empty 0, List.Perm.refl _, rfl, by simp [VRt], by simp⟩
  refine ⟨.map (some w.heap.size), _, _, _, _, ?_, hK, g1, ?_, g2⟩
  · simp [Instr.makeMap, newObj, Sem.run]
  · unfold VR
    exact ⟨by simp, w.heap.size, by simp [Mem.push], rfl⟩
theorem lookup_sound {t : TypeId} {a k : AV} {u x : Value} {ok : Bool} {K : AV → Heap → Prop} (hG : Gam E.gl M w H) (hu : VR M H.length w a u) (hx : VR M H.length w k x) (h : alookup E.P t a k ok H fun v => K v H) : Yields E M w H (Instr.lookup t u x ok) K := by
  obtain ⟨kt, e, z, h1, hz, y, rfl, r, rfl, ks, vs, st, hr, hK⟩ := h
  obtain ⟨ht, hk⟩ := mpI_out h1
  obtain ⟨zv, rfl, hzr⟩ := zvI_out hz
  obtain ⟨b, es, c, l, rfl, k1, k2, k3, k4, k5, k6, k7, k8, k9, k10⟩ := map_out hG hu hr
  unfold VR at hx
  subst hx
  have hck : ∀ q, (Instr.checkKey q 10000 kt (.int .i64 y)).run E.P w = .ok () w := fun q => MapKept.run_checkKey (d := .int .i64) hk (show MapKept.IsKey (.int .i64) (.int .i64 y) from rfl) q 9999
  rcases find_out k3 k4 k5 k10 (x := y) with ⟨f1, f2, _⟩ | ⟨i, j, en, f1, f2, f3, f4, f5⟩
  · rw [f1] at hK
    have hf := MapKept.run_findKey (w := w) (kt := kt) hk f2
    refine .pure hG (u := if ok then .tuple #[zv, .bool false] else zv) ?_ ?_ hK
    · cases ok <;> simp [Instr.lookup, run_underlying ht, MapKept.run_getObj_map k2, hck, hf, hzr, Result.andThen]
    · cases ok with
      | true =>
        simp only [if_true]
        unfold VR
        refine ⟨[zv, .bool false], rfl, ?_⟩
        unfold VRt
        refine ⟨_, _, rfl, VR_cv _, ?_⟩
        unfold VRt
        exact ⟨_, _, rfl, by unfold VR; rfl, by simp [VRt]⟩
      | false => exact VR_cv _
  · rw [f1] at hK
    have hf := MapKept.run_findKey (w := w) (kt := kt) hk f5
    have hil : i < vs.length := by rw [k9]; exact (kAt_some f1).1
    obtain ⟨v, hv1, hv2⟩ := VRt.get k6 (List.getElem?_eq_getElem hil)
    rw [List.getElem?_map, f2] at hv1
    cases hv1
    have hg : vs.getD i .any = vs[i] := by rw [List.getD_eq_getElem?_getD, List.getElem?_eq_getElem hil]; rfl
    dsimp only at hK
    rw [hg] at hK
    refine .pure hG (u := if ok then .tuple #[en.val, .bool true] else en.val) ?_ ?_ hK
    · cases ok <;> simp [Instr.lookup, run_underlying ht, MapKept.run_getObj_map k2, hck, hf, Result.andThen]
    · cases ok with
      | true =>
        simp only [if_true]
        unfold VR
        refine ⟨[en.val, .bool true], rfl, ?_⟩
        unfold VRt
        refine ⟨_, _, rfl, hv2, ?_⟩
        unfold VRt
        exact ⟨_, _, rfl, by unfold VR; rfl, by simp [VRt]⟩
      | false => exact hv2
theorem put_block {b : Nat} {w : World} {es : Array MapEntry} {c : Nat} (o : Obj) (hb : w.heap[b]? = some (.map es c)) : (Go.ChangeMaps.setBlock w b o).heap[b]? = some o ∧ (Go.ChangeMaps.setBlock w b o).heap.size = w.heap.size ∧ ∀ k, k ≠ b → (Go.ChangeMaps.setBlock w b o).heap[k]? = w.heap[k]? := by
  have h := MapKept.heap_set (w := w) (o' := o) hb
  exact ⟨h.1, by simp [Go.ChangeMaps.setBlock], h.2⟩
theorem mapUpdate_sound {t : TypeId} {a k d : AV} {u x v : Value} {K : Heap → Prop} (hG : Gam E.gl M w H) (hu : VR M H.length w a u) (hx : VR M H.length w k x) (hv : VR M H.length w d v) (h : amapUpdate E.P t a k d H K) :
    ∃ w' M' H', (Instr.mapUpdate t u x v).run E.P w = .ok () w' ∧ K H' ∧ Gam E.gl M' w' H' ∧ Ext M w H M' w' H' := by
  obtain ⟨⟨kt, e⟩, h1, y, rfl, r, rfl, ks, vs, st, hr, hK⟩ := h
  obtain ⟨ht, hk⟩ := mpI_out h1
  obtain ⟨b, es, c, l, rfl, k1, k2, k3, k4, k5, k6, k7, k8, k9, k10⟩ := map_out hG hu hr
  unfold VR at hx
  subst hx
  have hck : ∀ q, (Instr.checkKey q 10000 kt (.int .i64 y)).run E.P w = .ok () w := fun q => MapKept.run_checkKey (d := .int .i64) hk (show MapKept.IsKey (.int .i64) (.int .i64 y) from rfl) q 9999
  rcases find_out k3 k4 k5 k10 (x := y) with ⟨f1, f2, f3⟩ | ⟨i, j, en, f1, f2, f3, f4, f5⟩
  · have hf := MapKept.run_findKey (w := w) (kt := kt) hk f2
    obtain ⟨p1, p2, p3⟩ := put_block (.map (es.push { key := .int .i64 y, val := v, born := c }) (c + 1)) k2
    have hkp : kPut ks vs y d = .map (ks ++ [y]) (vs ++ [d]) none := by unfold kPut; rw [f1]
    rw [hkp] at hK
    obtain ⟨g1, g2⟩ := hG.writeO (w' := Go.ChangeMaps.setBlock w b (.map (es.push { key := .int .i64 y, val := v, born := c }) (c + 1))) (B' := .map (ks ++ [y]) (vs ++ [d]) none) hr rfl k1 rfl ⟨rfl, Nat.le_refl _⟩ rfl p2 p3 fun up upt => by
      refine ⟨b, _, _, l ++ [{ key := .int .i64 y, val := v, born := c }], k1, p1, MapKept.stamped_push k3 (fun x hx => f3 x hx), ?_, ?_, ?_, by simp⟩
      · rw [Array.toList_push]
        exact List.Perm.append_right _ k4
      · simp [k5]
      · rw [List.map_append]
        refine VRt.append (upt k6) ?_
        simp only [List.map_cons, List.map_nil]
        unfold VRt
        exact ⟨_, _, rfl, up hv, by simp [VRt]⟩
    refine ⟨_, _, _, ?_, hK, g1, g2⟩
    simp [Instr.mapUpdate, run_underlying ht, MapKept.run_getObj_map k2, hck, hf, Result.andThen, MapKept.run_setObj_map _ k2]
    rfl
  · have hf := MapKept.run_findKey (w := w) (kt := kt) hk f5
    have hjl : j < es.toList.length := (List.getElem?_eq_some_iff.1 f3).1
    have hje : es[j]? = some en := by rw [← Array.getElem?_toList]; exact f3
    have hkeep : (Instr.keyThatStays (((es[j]?).map (·.key)).getD (.int .i64 y)) (.int .i64 y)).run E.P w = .ok (.int .i64 y) w := by
      rw [hje]
      simp only [Option.map_some, Option.getD_some, f4]
      exact MapKept.run_keyThatStays (d := .int .i64) rfl
    obtain ⟨p1, p2, p3⟩ := put_block (.map (es.modify j fun e => { e with key := .int .i64 y, val := v }) c) k2
    have hkp : kPut ks vs y d = .map ks (vs.set i d) none := by unfold kPut; rw [f1]
    rw [hkp] at hK
    have hml : (es.modify j fun e => { e with key := .int .i64 y, val := v }).toList = es.toList.set j { en with key := .int .i64 y, val := v } := by
      apply List.ext_getElem?
      intro q
      rw [Array.getElem?_toList, Array.getElem?_modify, List.getElem?_set]
      by_cases hq : j = q
      · subst hq
        rw [if_pos rfl, if_pos rfl, hje, if_pos hjl]
        rfl
      · rw [if_neg hq, if_neg hq, Array.getElem?_toList]
    have hil : i < l.length := (List.getElem?_eq_some_iff.1 f2).1
    obtain ⟨g1, g2⟩ := hG.writeO (w' := Go.ChangeMaps.setBlock w b (.map (es.modify j fun e => { e with key := .int .i64 y, val := v }) c)) (B' := .map ks (vs.set i d) none) hr rfl k1 rfl ⟨rfl, Nat.le_refl _⟩ rfl p2 p3 fun up upt => by
      refine ⟨b, _, _, l.set i { en with key := .int .i64 y, val := v }, k1, p1, MapKept.stamped_modify k3 j _ (fun _ _ => rfl) (fun e he h2 => ?_), ?_, ?_, ?_, by simp⟩
      · rw [hje] at h2
        cases h2
        exact f4.symm
      · rw [hml]
        exact ((perm_set f2).trans ((perm_both k4 f2 f3).cons _)).trans (perm_set f3).symm
      · rw [List.map_set, ← f4, ← k5]
        apply List.ext_getElem?
        intro q
        rw [List.getElem?_set]
        by_cases hq : i = q
        · subst hq
          rw [if_pos rfl, if_pos (by simpa using hil), List.getElem?_map, f2]
          rfl
        · rw [if_neg hq]
      · rw [List.map_set]
        exact VRt.set (upt k6) (up hv)
    refine ⟨_, _, _, ?_, hK, g1, g2⟩
    simp only [Instr.mapUpdate, Sem.run_bind, run_underlying ht, MapKept.run_getObj_map k2, hck, hf, Result.andThen, hkeep, MapKept.run_setObj_map _ k2]
    rfl
theorem delete_sound {ts : List TypeId} {ty : TypeId} {as : List AV} {us : List Value} {K : AV → Heap → Prop} (hG : Gam E.gl M w H) (ha : VRt M H.length w as us) (h : adelete E.P ts as H K) : Yields E M w H (Builtin.delete_ ts.toArray ty us.toArray) K := by
  unfold adelete at h
  split at h
  case h_2 => exact h.elim
  case h_1 t t2 a k =>
  obtain ⟨⟨kt, e⟩, h1, y, rfl, r, rfl, ks, vs, st, hr, hK⟩ := h
  obtain ⟨ht, hk⟩ := mpI_out h1
  unfold VRt at ha
  obtain ⟨u, q, rfl, hu, ha⟩ := ha
  unfold VRt at ha
  obtain ⟨x, q, rfl, hx, ha⟩ := ha
  unfold VRt at ha
  subst ha
  obtain ⟨b, es, c, l, rfl, k1, k2, k3, k4, k5, k6, k7, k8, k9, k10⟩ := map_out hG hu hr
  unfold VR at hx
  subst hx
  have hck : ∀ q, (Instr.checkKey q 10000 kt (.int .i64 y)).run E.P w = .ok () w := fun q => MapKept.run_checkKey (d := .int .i64) hk (show MapKept.IsKey (.int .i64) (.int .i64 y) from rfl) q 9999
  rcases find_out k3 k4 k5 k10 (x := y) with ⟨f1, f2, f3⟩ | ⟨i, j, en, f1, f2, f3, f4, f5⟩
  · have hf := MapKept.run_findKey (w := w) (kt := kt) hk f2
    obtain ⟨p1, p2, p3⟩ := put_block (.map es c) k2
    have hkp : kDel ks vs y = .map ks vs none := by unfold kDel; rw [f1]
    rw [hkp] at hK
    obtain ⟨g1, g2⟩ := hG.writeO (w' := Go.ChangeMaps.setBlock w b (.map es c)) (B' := .map ks vs none) hr rfl k1 rfl ⟨rfl, Nat.le_refl _⟩ rfl p2 p3 fun up upt => ⟨b, _, _, l, k1, p1, k3, k4, k5, upt k6, by simp⟩
    refine ⟨.tuple #[], _, _, _, _, ?_, hK, g1, by unfold VR; exact ⟨[], rfl, by simp [VRt]⟩, g2⟩
    simp [Builtin.delete_, run_underlying ht, MapKept.run_getObj_map k2, hck, hf, Result.andThen, MapKept.run_setObj_map _ k2, Go.ChangeMaps.setBlock]
  · have hf := MapKept.run_findKey (w := w) (kt := kt) hk f5
    have hjl : j < es.toList.length := (List.getElem?_eq_some_iff.1 f3).1
    have hjs : j < es.size := by simpa using hjl
    obtain ⟨p1, p2, p3⟩ := put_block (.map (es.eraseIdxIfInBounds j) c) k2
    have hkp : kDel ks vs y = .map (ks.eraseIdx i) (vs.eraseIdx i) none := by unfold kDel; rw [f1]
    rw [hkp] at hK
    have hel : (es.eraseIdxIfInBounds j).toList = es.toList.eraseIdx j := by
      unfold Array.eraseIdxIfInBounds
      rw [dif_pos hjs]
      simp
    obtain ⟨g1, g2⟩ := hG.writeO (w' := Go.ChangeMaps.setBlock w b (.map (es.eraseIdxIfInBounds j) c)) (B' := .map (ks.eraseIdx i) (vs.eraseIdx i) none) hr rfl k1 rfl ⟨rfl, Nat.le_refl _⟩ rfl p2 p3 fun up upt => by
      refine ⟨b, _, _, l.eraseIdx i, k1, p1, MapKept.stamped_erase k3 j, ?_, ?_, ?_, by simp⟩
      · rw [hel]
        exact perm_both k4 f2 f3
      · rw [Go.ChangeMaps.map_eraseIdx, k5, ← Go.ChangeMaps.map_eraseIdx]
      · rw [Go.ChangeMaps.map_eraseIdx]
        exact VRt.erase (upt k6)
    refine ⟨.tuple #[], _, _, _, _, ?_, hK, g1, by unfold VR; exact ⟨[], rfl, by simp [VRt]⟩, g2⟩
    simp [Builtin.delete_, run_underlying ht, MapKept.run_getObj_map k2, hck, hf, Result.andThen, MapKept.run_setObj_map _ k2, Go.ChangeMaps.setBlock]
theorem lenM_sound {ts : List TypeId} {ty : TypeId} {as : List AV} {us : List Value} {K : AV → Heap → Prop} (hG : Gam E.gl M w H) (ha : VRt M H.length w as us) (h : alenM E.P ts as H fun v => K v H) : Yields E M w H (Builtin.len_ ts.toArray ty us.toArray) K := by
  unfold alenM at h
  split at h
  · next t r =>
    obtain ⟨⟨⟨kt, e⟩, h1⟩, ks, vs, st, hr, hK⟩ := h
    obtain ⟨ht, hk⟩ := mpI_out h1
    unfold VRt at ha
    obtain ⟨u, q, rfl, hu, ha⟩ := ha
    unfold VRt at ha
    subst ha
    obtain ⟨b, es, c, l, rfl, k1, k2, k3, k4, k5, k6, k7, k8, k9, k10⟩ := map_out hG hu hr
    have hes : es.size = ks.length := by
      have h2 : l.length = es.size := by simpa using k4.length_eq
      omega
    refine .pure hG (u := .int .i64 (ks.length : Int)) ?_ (by unfold VR; rfl) hK
    rw [← hes]
    simp [Builtin.len_, run_underlying ht, MapKept.run_getObj_map k2, goInt]
  · exact len_sound hG ha h
theorem range_sound {t : TypeId} {a : AV} {u : Value} {K : AV → Heap → Prop} (hG : Gam E.gl M w H) (hu : VR M H.length w a u) (h : arange E.P t a H K) : Yields E M w H (Instr.range t u) K := by
  obtain ⟨⟨kt, e⟩, h1, r, rfl, ks, vs, st, hr, hK⟩ := h
  obtain ⟨ht, hk⟩ := mpI_out h1
  obtain ⟨b, es, c, l, rfl, k1, k2, k3, k4, k5, k6, k7, k8, k9, k10⟩ := map_out hG hu hr
  have hK2 := hK (l.map (·.born)) c
  have hrl : r < H.length := (List.getElem?_eq_some_iff.1 hr).1
  obtain ⟨g1, g2⟩ := hG.writeO (w' := w) (B' := .map ks vs (some (l.map (·.born), c))) hr rfl k1 rfl ⟨rfl, Nat.le_refl _⟩ rfl rfl (fun _ _ => rfl) fun up upt => ⟨b, es, c, l, k1, k2, k3, k4, k5, k6, fun bs c' hh => by cases hh; exact ⟨rfl, rfl⟩⟩
  obtain ⟨g3, g4⟩ := g1.push (w1 := w) (o := .mapIter (some b) c #[] c) (B := .iter r (l.map (·.born)) c []) (s := 0) rfl rfl ⟨rfl, Nat.le_refl _⟩ rfl fun M' hM hMG hb hs hn ho => by
    rw [List.length_set] at hM hb ⊢
    exact ⟨by omega, w.heap.size, b, hb, by rw [(hM r hrl).1, k1], by simp, hn⟩
  refine ⟨.pointer (some ⟨w.heap.size, 0, none⟩), _, _, _, _, run_range_map w t kt e b es c ht k2, hK2, g3, ?_, g2.trans g4⟩
  unfold VR
  refine ⟨by simp, w.heap.size, ?_, rfl⟩
  simp [Mem.push]
/-- Who is left. -/
theorem iter_out {es : Array MapEntry} {l : List MapEntry} {c : Nat} {seen : List Nat} {bs : List Nat} (hs : MapKept.Stamped es c) (hp : List.Perm l es.toList) (hb : l.map (·.born) = bs) (hsn : ∀ i ∈ seen, i < bs.length) :
    ∀ i e, l[i]? = some e → ((seen.map fun i => bs.getD i 0).toArray.contains e.born = true ↔ i ∈ seen) := by
  intro i e hi
  have hil : i < l.length := (List.getElem?_eq_some_iff.1 hi).1
  have hnd : bs.Nodup := by
    rw [← hb]
    exact (hp.map _).nodup_iff.2 ((MapKept.stamped_iff es c).1 hs).2.1
  have hbi : bs[i]? = some e.born := by rw [← hb, List.getElem?_map, hi]; rfl
  have hbl : i < bs.length := (List.getElem?_eq_some_iff.1 hbi).1
  rw [List.contains_toArray, List.contains_iff_mem, List.mem_map]
  constructor
  · rintro ⟨j, hj, hje⟩
    have hjl := hsn j hj
    rw [List.getD_eq_getElem?_getD, List.getElem?_eq_getElem hjl] at hje
    rw [List.getElem?_eq_getElem hbl] at hbi
    have h1 : bs[j] = bs[i] := by
      have h2 : bs[j] = e.born := by simpa using hje
      have h3 : bs[i] = e.born := by simpa using hbi
      rw [h2, h3]
    have := (List.getElem_inj hnd (h₀ := hjl) (h₁ := hbl)).1 h1
    subst this
    exact hj
  · intro hj
    exact ⟨i, hj, by rw [List.getD_eq_getElem?_getD, hbi]; rfl⟩
theorem next_sound {ty : TypeId} {a : AV} {u : Value} {str : Bool} {K : AV → Heap → Prop} (hG : Gam E.gl M w H) (hu : VR M H.length w a u) (h : anext a str H K) : Yields E M w H (Instr.next u str ty) K := by
  obtain ⟨rfl, q, rfl, r, bs, c, seen, hq, ks, vs, hr, hK1, hK2⟩ := h
  have hu' := hu
  unfold VR at hu
  obtain ⟨_, bq, hbq, rfl⟩ := hu
  obtain ⟨m1, bq', bm, m2, m3, m4, m5⟩ := hG.blks q _ hq
  rw [hbq] at m2
  cases m2
  have hmp : VR M H.length w (.mp r) (.map (some bm)) := by unfold VR; exact ⟨m1, bm, m3, rfl⟩
  obtain ⟨b, es, c', l, e1, k1, k2, k3, k4, k5, k6, k7, k8, k9, k10⟩ := map_out hG hmp hr
  cases e1
  obtain ⟨k7', rfl⟩ := k7 bs c rfl
  have hlt := ((MapKept.stamped_iff es c).1 k3).1
  have hiter := iter_out k3 k4 k7' m4
  rcases run_next_at (P := E.P) w ty bq bm c c _ es c m5 k2 hlt (Nat.le_refl _) with ⟨h0, hrun⟩ | ⟨e, he, w1, hal, hrun⟩
  · refine .pure hG hrun ?_ (hK1 fun i hi => ?_)
    · unfold VR
      refine ⟨[.bool false], rfl, ?_⟩
      unfold VRt
      exact ⟨_, _, rfl, by unfold VR; rfl, by simp [VRt]⟩
    · have hil : i < l.length := by omega
      have hm : l[i] ∈ es.toList := k4.mem_iff.1 (List.getElem_mem hil)
      have := all_seen es _ h0 _ hm
      exact (hiter i _ (List.getElem?_eq_getElem hil)).1 this
  · obtain ⟨hem, hes⟩ := mem_left he
    have hel : e ∈ l := k4.mem_iff.2 hem
    obtain ⟨i, hil, hie⟩ := List.getElem_of_mem hel
    have hi : l[i]? = some e := by rw [List.getElem?_eq_getElem hil, hie]
    have hns : i ∉ seen := fun hh => by
      have := (hiter i e hi).2 hh
      rw [this] at hes
      cases hes
    have hbi : bs[i]? = some e.born := by rw [← k7', List.getElem?_map, hi]; rfl
    have hbl : i < bs.length := (List.getElem?_eq_some_iff.1 hbi).1
    have hK3 := hK2 i (by omega) hns
    have hw1 : w1.heap = w.heap ∧ w1.os = w.os ∧ (w1.tape = w.tape ∧ w.drawn ≤ w1.drawn) ∧ w1.output = w.output := by
      rcases hal with rfl | rfl
      · exact ⟨rfl, rfl, ⟨rfl, Nat.le_refl _⟩, rfl⟩
      · exact ⟨rfl, rfl, ⟨rfl, Nat.le_succ _⟩, rfl⟩
    have hp := MapKept.heap_set (w := w1) (r := bq) (o := .mapIter (some bm) c (seen.map fun i => bs.getD i 0).toArray c) (o' := .mapIter (some bm) c ((seen.map fun i => bs.getD i 0).toArray.push e.born) c) (by rw [hw1.1]; exact m5)
    obtain ⟨g1, g2⟩ := hG.writeO (w' := Go.ChangeMaps.setBlock w1 bq (.mapIter (some bm) c ((seen.map fun i => bs.getD i 0).toArray.push e.born) c)) (B' := .iter r bs c (seen ++ [i])) hq rfl hbq hw1.2.1 hw1.2.2.1 hw1.2.2.2 (by simp [Go.ChangeMaps.setBlock, hw1.1]) (fun k hk => (hp.2 k hk).trans (by rw [hw1.1])) fun up upt => by
      refine ⟨m1, bq, bm, hbq, m3, fun j hj => ?_, ?_⟩
      · rcases List.mem_append.1 hj with hj | hj
        · exact m4 j hj
        · rw [List.mem_singleton.1 hj]; exact hbl
      · refine hp.1.trans ?_
        congr 2
        rw [List.map_append, List.map_cons, List.map_nil, List.getD_eq_getElem?_getD, hbi]
        simp
    refine ⟨_, _, _, _, _, hrun, hK3, g1, ?_, g2⟩
    rw [List.length_set]
    unfold VR
    have hGw : ∀ k, M.G k → (Go.ChangeMaps.setBlock w1 bq (.mapIter (some bm) c ((seen.map fun i => bs.getD i 0).toArray.push e.born) c)).heap[k]? = w.heap[k]? := fun k hk => (hp.2 k (fun e2 => hG.sep q _ bq hq rfl hbq (e2 ▸ hk))).trans (by rw [hw1.1])
    obtain ⟨v, hv1, hv2⟩ := VRt.get k6 (List.getElem?_eq_getElem (by omega : i < vs.length))
    rw [List.getElem?_map, hi] at hv1
    cases hv1
    refine ⟨[.bool true, e.key, e.val], rfl, ?_⟩
    unfold VRt
    refine ⟨_, _, rfl, by unfold VR; rfl, ?_⟩
    unfold VRt
    have hkey : e.key = .int .i64 (ks.getD i 0) := by
      have h5 : (l.map (·.key))[i]? = (ks.map (Value.int .i64))[i]? := by rw [k5]
      rw [List.getElem?_map, hi, List.getElem?_map, List.getElem?_eq_getElem (by omega : i < ks.length)] at h5
      rw [List.getD_eq_getElem?_getD, List.getElem?_eq_getElem (by omega : i < ks.length)]
      simpa using h5
    refine ⟨_, _, rfl, by unfold VR; exact hkey, ?_⟩
    unfold VRt
    refine ⟨_, _, rfl, ?_, by simp [VRt]⟩
    have hg : vs.getD i .any = vs[i]'(by omega) := by rw [List.getD_eq_getElem?_getD, List.getElem?_eq_getElem (by omega : i < vs.length)]; rfl
    rw [hg]
    exact VR.mono (M := M) (M' := M) (n := H.length) (w := w) (fun _ h => h) hGw (Nat.le_refl _) (fun _ _ => ⟨rfl, rfl⟩) hv2
theorem entry_sound {a : AV} {u : Value} {K : AV → Heap → Prop} (hG : Gam E.gl M w H) (hu : VR M H.length w a u) (h : aentry a H fun v => K v H) : Yields E M w H (Instr.entry u) K := by
  obtain ⟨q, rfl, r, bs, c, seen, hq, ks, vs, hr, i, hs, hi, hK⟩ := h
  unfold VR at hu
  obtain ⟨_, bq, hbq, rfl⟩ := hu
  obtain ⟨m1, bq', bm, m2, m3, m4, m5⟩ := hG.blks q _ hq
  rw [hbq] at m2
  cases m2
  have hmp : VR M H.length w (.mp r) (.map (some bm)) := by unfold VR; exact ⟨m1, bm, m3, rfl⟩
  obtain ⟨b, es, c', l, e1, k1, k2, k3, k4, k5, k6, k7, k8, k9, k10⟩ := map_out hG hmp hr
  cases e1
  obtain ⟨k7', rfl⟩ := k7 bs c rfl
  obtain ⟨s0, rfl⟩ := List.getLast?_eq_some_iff.1 hs
  have hil : i < l.length := by omega
  have hem : l[i] ∈ es.toList := k4.mem_iff.1 (List.getElem_mem hil)
  have hbi : bs[i]? = some (l[i]).born := by rw [← k7', List.getElem?_map, List.getElem?_eq_getElem hil]; rfl
  have m6 : w.heap[bq]? = some (.mapIter (some bm) c ((s0.map fun i => bs.getD i 0).toArray.push (l[i]).born) c) := by
    rw [m5]
    congr 2
    rw [List.map_append, List.map_cons, List.map_nil, List.getD_eq_getElem?_getD, hbi]
    simp
  have hrun := run_entry_at (P := E.P) w bq bm c _ es c (l[i]) m6 k2 hem ((MapKept.stamped_iff es c).1 k3).2.1
  obtain ⟨v, hv1, hv2⟩ := VRt.get k6 (List.getElem?_eq_getElem (by omega : i < vs.length))
  rw [List.getElem?_map, List.getElem?_eq_getElem hil] at hv1
  cases hv1
  have hkey : (l[i]).key = .int .i64 (ks.getD i 0) := by
    have h5 : (l.map (·.key))[i]? = (ks.map (Value.int .i64))[i]? := by rw [k5]
    rw [List.getElem?_map, List.getElem?_eq_getElem hil, List.getElem?_map, List.getElem?_eq_getElem (by omega : i < ks.length)] at h5
    rw [List.getD_eq_getElem?_getD, List.getElem?_eq_getElem (by omega : i < ks.length)]
    simpa using h5
  have hg : vs.getD i .any = vs[i]'(by omega) := by rw [List.getD_eq_getElem?_getD, List.getElem?_eq_getElem (by omega : i < vs.length)]; rfl
  rw [hg] at hK
  refine .pure hG hrun ?_ hK
  unfold VR
  refine ⟨[(l[i]).key, (l[i]).val], rfl, ?_⟩
  unfold VRt
  refine ⟨_, _, rfl, by unfold VR; exact hkey, ?_⟩
  unfold VRt
  exact ⟨_, _, rfl, hv2, by simp [VRt]⟩
end
end Go.Am

namespace Go.Am
open Go.RowKit Go.Cx

section
variable {E : Env} {M : Mem} {w : World} {H : Heap}

theorem yields_wp {o : Oper} {a : Act} {m : Sem Value} {K : AV → Heap → Prop} {next : Act → World → Prop} {Q : Exit → Act → World → Prop} (he : execOp a.eval o = (do pure (Next.value (← m)))) (hy : Yields E M w H m K)
    (hn : ∀ v u w' M' H', K v H' → Gam E.gl M' w' H' → VR M' H'.length w' v u → Ext M w H M' w' H' → next (a.put o.dst u) w') : o.wp E.P a w next Q := by
  obtain ⟨u, w', v, M', H', hr, h1, h2, h3, h4⟩ := hy
  unfold Oper.wp
  rw [he, Sem.run_bind, hr]
  exact hn v u w' M' H' h1 h2 h3 h4
theorem evs_out {gl : Nat → AV} {N : Nat} {T : Nat → AV} {a : Act} (hG : Gam gl M w H) (hT : TR M H.length w N T a) : ∀ l : List Operand, VRt M H.length w (l.map (ev gl T)) (l.map a.eval)
  | [] => by simp [VRt]
  | x :: l => by
    simp only [List.map_cons]
    unfold VRt
    exact ⟨_, _, rfl, ev_out hG hT x, evs_out hG hT l⟩
theorem opt_out {gl : Nat → AV} {N : Nat} {T : Nat → AV} {a : Act} (hG : Gam gl M w H) (hT : TR M H.length w N T a) (x : Option Operand) :
    (∀ b, x.map (ev gl T) = some b → ∃ u, x.map a.eval = some u ∧ VR M H.length w b u) ∧ (x.map (ev gl T) = none → x.map a.eval = none) := by
  cases x with
  | none => exact ⟨(fun b h => by cases h), (fun _ => rfl)⟩
  | some y => exact ⟨(fun b h => by cases h; exact ⟨_, rfl, ev_out hG hT y⟩), (fun h => by cases h)⟩
theorem equal_run {P : Program} {t : TypeId} {x y : Value} {b : Bool} {w : World} (h : ∀ n, (Op.equalIn (n + 1) t x y).run P w = .ok b w) : (Op.equal t x y).run P w = .ok b w := h 9999
theorem both_run {P : Program} {t : TypeId} {x y : Value} {b : Bool} {w : World} {p q : Operand} (h : ∀ n, (Op.equalIn (n + 1) t x y).run P w = .ok b w) (hg : ∀ op, eqGuard op t p q x y = pure () ∨ op ≠ .eql ∧ op ≠ .neq) (h1 : binOp .eql t x y = (do pure (.bool (← Op.equal t x y)))) (h2 : binOp .neq t x y = (do pure (.bool (!(← Op.equal t x y))))) :
    (do eqGuard .eql t p q x y; binOp .eql t x y : Sem Value).run P w = .ok (.bool b) w ∧ (do eqGuard .neq t p q x y; binOp .neq t x y : Sem Value).run P w = .ok (.bool (!b)) w := by
  have e := equal_run h
  refine ⟨?_, ?_⟩
  · rcases hg .eql with g | g
    · rw [g, h1]; simp only [Sem.run_bind, Sem.run_pure, Result.andThen_ok, e]
    · exact absurd rfl g.1
  · rcases hg .neq with g | g
    · rw [g, h2]; simp only [Sem.run_bind, Sem.run_pure, Result.andThen_ok, e]
    · exact absurd rfl g.2
theorem aeq_sound {t : TypeId} {d : TypeDesc} {a b : AV} {u x : Value} {y z : Operand} {k : Bool → Prop} (hu : E.P.underlying t = some d) (ha : VR M H.length w a u) (hb : VR M H.length w b x) (h : aeq d a b k) :
    ∃ s, k s ∧ (do eqGuard .eql t y z u x; binOp .eql t u x : Sem Value).run E.P w = .ok (.bool s) w ∧ (do eqGuard .neq t y z u x; binOp .neq t u x : Sem Value).run E.P w = .ok (.bool (!s)) w := by
  have hS : ∀ {b : AV} {x : Value}, nilS b = true → VR M H.length w b x → ∃ n c, x = .slice none n c := by
    intro b x h1 h2
    unfold nilS at h1
    split at h1
    · unfold VR at h2; exact ⟨_, _, h2⟩
    · cases h1
  have hP : ∀ {b : AV} {x : Value}, nilP b = true → VR M H.length w b x → x = .pointer none := by
    intro b x h1 h2
    unfold nilP at h1
    split at h1
    · unfold VR at h2; exact h2
    · cases h1
  have hF : ∀ {b : AV} {x : Value}, nilF b = true → VR M H.length w b x → x = .nilFunc := by
    intro b x h1 h2
    unfold nilF at h1
    split at h1
    · unfold VR at h2; exact h2
    · cases h1
  have hQ : ∀ {b : AV} {x : Value}, surePtr b = true → VR M H.length w b x → ∃ p, x = .pointer (some p) := by
    intro b x h1 h2
    cases b with
    | ptr r off => unfold VR at h2; obtain ⟨_, c, _, rfl⟩ := h2; exact ⟨_, rfl⟩
    | rp r sz i off => unfold VR at h2; obtain ⟨_, c, _, rfl⟩ := h2; exact ⟨_, rfl⟩
    | cptr cs => unfold VR at h2; obtain ⟨b, of, us, rfl, _⟩ := h2; exact ⟨_, rfl⟩
    | _ => cases h1
  cases d with
  | slice e =>
    obtain ⟨h1, h2⟩ := h
    obtain ⟨n, c, rfl⟩ := hS h1 hb
    have key : ∃ ao m cap, u = .slice ao m cap ∧ k ao.isNone := by
      cases a with
      | sl sz es =>
        unfold VR at ha
        obtain ⟨ao, cap, us, rfl, _, h3⟩ := ha
        refine ⟨ao, _, cap, rfl, h2 _ (fun hh => ?_)⟩
        rcases h3.at_ with ⟨h4, _⟩ | ⟨b, off, rfl, _⟩
        · exact List.eq_nil_of_length_eq_zero h4
        · cases hh
      | mt =>
        unfold VR at ha
        obtain ⟨ao, rfl⟩ := ha
        exact ⟨ao, _, _, rfl, h2 _⟩
      | hs r sz off n =>
        unfold VR at ha
        obtain ⟨_, ao, cap, rfl, k1, k2, k3, _⟩ := ha
        refine ⟨ao, _, cap, rfl, h2 _ (fun hh => ?_)⟩
        cases ao with
        | none => have := k3 rfl; omega
        | some a => cases hh
      | _ => exact h2.elim
    obtain ⟨ao, m, cap, rfl, hk⟩ := key
    refine ⟨ao.isNone, hk, both_run (fun n => ?_) (fun op => .inl ?_) rfl rfl⟩
    · cases ao <;> simp [Op.equalIn, run_underlying hu]
    · cases op <;> rfl
  | pointer e =>
    obtain ⟨h1, h2⟩ := h
    rcases h1 with ⟨h1, h3⟩ | ⟨h1, h3⟩
    · obtain ⟨p, rfl⟩ := hQ h1 ha
      have := hP h3 hb
      subst this
      refine ⟨false, h2, both_run (fun n => ?_) (fun op => .inl ?_) rfl rfl⟩
      · simp [Op.equalIn, run_underlying hu]
      · cases op <;> rfl
    · obtain ⟨p, rfl⟩ := hQ h1 hb
      have := hP h3 ha
      subst this
      refine ⟨false, h2, both_run (fun n => ?_) (fun op => .inl ?_) rfl rfl⟩
      · simp [Op.equalIn, run_underlying hu]
      · cases op <;> rfl
  | func ps rs v =>
    obtain ⟨h1, h2, h3⟩ := h
    have := hF h2 hb
    subst this
    cases a with
    | fn f first caps =>
      unfold VR at ha
      obtain ⟨us, ks, rfl, _⟩ := ha
      refine ⟨false, h3, both_run (fun n => ?_) (fun op => .inl ?_) rfl rfl⟩
      · simp [Op.equalIn, run_underlying hu]
      · cases op <;> rfl
    | _ => cases h1
  | map kt et =>
    obtain ⟨h1, h2, h3⟩ := h
    have hb' : x = .map none := by
      unfold nilM at h2
      split at h2
      · unfold VR at hb; exact hb
      · cases h2
    subst hb'
    cases a with
    | mp r =>
      unfold VR at ha
      obtain ⟨_, b, _, rfl⟩ := ha
      refine ⟨false, h3, both_run (fun n => ?_) (fun op => .inl ?_) rfl rfl⟩
      · simp [Op.equalIn, run_underlying hu]
      · cases op <;> rfl
    | _ => cases h1
  | _ => exact h.elim
theorem ptI_out {P : Program} {t e : TypeId} (h : ptI P t = some e) : P.underlying t = some (.pointer e) := by
  unfold ptI at h
  split at h
  · next e' he => cases h; exact he
  · cases h
/-- Which function a method is. -/
theorem methI_out {P : Program} {t : TypeId} {m : String} {g : FuncId} {q : Option TypeId} (h : methI P t m = some (g, q)) (k : Nat) (a : Addr) (w : World) :
    match q with
    | none => (method (k + 1) t (.pointer (some a)) m).run P w = .ok (g, .pointer (some a)) w
    | some e => ∀ u, (loadVar e a).run P w = .ok u w → (method (k + 1) t (.pointer (some a)) m).run P w = .ok (g, u) w := by
  unfold methI at h
  split at h
  case h_2 => cases h
  case h_1 i hi =>
  split at h
  case h_2 => cases h
  case h_1 ms hm =>
  have hti : (typeInfo t).run P w = .ok i w := by
    simp [typeInfo, Sem.run_bind, run_program, hi]
  split at h
  · next e hp hf hu =>
    cases h
    simp only
    unfold method
    have hul : (underlying t).run P w = .ok (.pointer e) w := run_underlying hu w
    simp [Sem.run_bind, hti, hm, hp, follow, hf, receiverAt, hul, Place.get]
  · next e hp hf hu =>
    cases h
    simp only
    intro u hl
    unfold method
    have hul : (underlying t).run P w = .ok (.pointer e) w := run_underlying hu w
    have hpp : ms.path = #[] := by simpa using hp
    have hw : ∀ nm, (Builtin.ssaWrapNilChk_ #[t] t #[.pointer (some a), strVal "", strVal nm]).run P w = .ok (.pointer (some a)) w := fun nm => rfl
    simp [Sem.run_bind, hti, hm, hpp, follow, hf, receiverAt, hul, Place.get, hw, asAddr, hl]
  · cases h
theorem op_sound {o : Oper} {a : Act} {T : Nat → AV} {N : Nat} {K : AV → Heap → Prop} {next : Act → World → Prop} {Q : Exit → Act → World → Prop} (hG : Gam E.gl M w H) (hT : TR M H.length w N T a) (h : aop E o.op o.type (ev E.gl T) H K)
    (hn : ∀ v u w' M' H', K v H' → Gam E.gl M' w' H' → VR M' H'.length w' v u → Ext M w H M' w' H' → next (a.put o.dst u) w') : o.wp E.P a w next Q := by
  have hev := ev_out hG hT
  cases ho : o.op with
  | move x =>
    rw [ho] at h
    unfold Oper.wp execOp
    simp only [ho]
    exact hn _ _ w M H h hG (hev x) (Ext.refl _ _ _)
  | assign x =>
    rw [ho] at h
    unfold Oper.wp execOp
    simp only [ho]
    exact hn _ _ w M H h hG (hev x) (Ext.refl _ _ _)
  | pick c x y =>
    rw [ho] at h
    have h' : (match ev E.gl T c with
      | .v (.bool t) => apick t (ev E.gl T x) (ev E.gl T y) fun v => K v H
      | _ => False) := h
    clear h
    split at h'
    case h_2 => exact h'.elim
    case h_1 t h1 =>
    obtain ⟨h2, h3⟩ := h'
    have hc := hev c
    rw [h1] at hc
    unfold VR at hc
    unfold Oper.wp execOp
    simp only [ho, hc, asBool, Sem.run_bind, Sem.run_pure, Result.andThen_ok, Oper.upon_value]
    cases t with
    | true => exact hn _ _ w M H (h2 rfl) hG (hev x) (Ext.refl _ _ _)
    | false => exact hn _ _ w M H (h3 rfl) hG (hev y) (Ext.refl _ _ _)
  | alloc t =>
    rw [ho] at h
    have h' : (match tyI E.P t with
      | some (_, _, z) => K (.ptr H.length 0) (H ++ [some (.obj z)])
      | none => False) := h
    clear h
    split at h'
    case h_2 => exact h'.elim
    case h_1 s g z h1 =>
    exact yields_wp (m := Instr.alloc t true (.tuple #[])) (by unfold execOp; simp only [ho]) (alloc_sound hG h1 h') hn
  | box t x =>
    rw [ho] at h
    have h' : (match cells1 (ev E.gl T x) with
      | some cs => K (.ptr H.length 0) (H ++ [some (.obj cs)])
      | none => False) := h
    clear h
    split at h'
    case h_2 => exact h'.elim
    case h_1 cs h1 =>
    exact yields_wp (m := Instr.box t (a.eval x)) (by unfold execOp; simp only [ho]) (box_sound hG (hev x) h1 h') hn
  | build t ps =>
    rw [ho] at h
    exact yields_wp (by unfold execOp; simp only [ho]) (build_sound hG hev h) hn
  | buildSlice t len ps =>
    rw [ho] at h
    exact yields_wp (by unfold execOp; simp only [ho]) (buildSlice_sound hG hev h) hn
  | load t x =>
    rw [ho] at h
    obtain ⟨s, g, z, h1, cs, h2, h3⟩ := h
    obtain ⟨b, of, us, h4, h5, h6⟩ := place_out hG (hev x) h2
    refine yields_wp (m := Instr.loadAt t (a.eval x)) (by unfold execOp; simp only [ho]) ?_ hn
    rw [h4]
    exact load_sound hG h1 h5 h6 h3
  | store t x y =>
    rw [ho] at h
    obtain ⟨w', M', H', h1, h2, h3, h4⟩ := store_sound hG (hev x) (hev y) h
    unfold Oper.wp execOp
    simp only [ho, Sem.run_bind, h1, Result.andThen_ok, Sem.run_pure, Oper.upon_skip]
    exact hn _ _ w' M' H' h2 h3 (by unfold VR; rfl) h4
  | nilCheck x =>
    rw [ho] at h
    obtain ⟨h1, h2⟩ := h
    have hx := hev x
    unfold Oper.wp execOp
    simp only [ho]
    generalize ev E.gl T x = v at hx h1 h2
    generalize a.eval x = u at hx
    cases v with
    | ptr r off => have hx' := hx; unfold VR at hx; obtain ⟨_, b, _, rfl⟩ := hx; exact hn _ _ w M H h2 hG hx' (Ext.refl _ _ _)
    | rp r sz i off => have hx' := hx; unfold VR at hx; obtain ⟨_, b, _, rfl⟩ := hx; exact hn _ _ w M H h2 hG hx' (Ext.refl _ _ _)
    | cptr cs => have hx' := hx; unfold VR at hx; obtain ⟨b, of, us, rfl, _⟩ := hx; exact hn _ _ w M H h2 hG hx' (Ext.refl _ _ _)
    | fn f first caps => have hx' := hx; unfold VR at hx; obtain ⟨us, ks, rfl, _⟩ := hx; exact hn _ _ w M H h2 hG hx' (Ext.refl _ _ _)
    | _ => cases h1
  | binOp op t x y yt =>
    rw [ho] at h
    have he : execOp a.eval o = (do pure (Next.value (← (do eqGuard op t x y (a.eval x) (a.eval y); binOp op t (a.eval x) (a.eval y) : Sem Value)))) := by unfold execOp; simp only [ho]
    have h0 : abin E.P op t x y (ev E.gl T x) (ev E.gl T y) (fun v => K v H) := h
    clear h
    unfold abin at h0
    have h := h0
    clear h0
    split at h
    · next u v hu hv =>
      obtain ⟨r, h1, h2⟩ := h
      refine yields_wp he ?_ hn
      rw [conc_out hu (hev x), conc_out hv (hev y)]
      exact .ret hG h1 h2
    · obtain ⟨d, hd, h⟩ := h
      split at h
      · obtain ⟨s, h1, h2, h3⟩ := aeq_sound (y := x) (z := y) hd (hev x) (hev y) h
        exact yields_wp he (.pure hG (u := .bool s) h2 (by unfold VR; rfl) h1) hn
      · obtain ⟨s, h1, h2, h3⟩ := aeq_sound (y := x) (z := y) hd (hev x) (hev y) h
        exact yields_wp he (.pure hG (u := .bool (!s)) h3 (by unfold VR; rfl) h1) hn
      · exact h.elim
  | unOp op t x =>
    rw [ho] at h
    obtain ⟨u, h1, r, h2, h3⟩ := h
    refine yields_wp (m := Op.unary op (a.eval x)) (by unfold execOp; simp only [ho]) ?_ hn
    rw [conc_out h1 (hev x)]
    exact .ret hG h2 h3
  | convert src dst x =>
    rw [ho] at h
    exact yields_wp (m := convert src dst (a.eval x)) (by unfold execOp; simp only [ho]) (conv_sound hG (hev x) h) hn
  | makeFunc f first caps =>
    rw [ho] at h
    cases f with
    | func f =>
      refine yields_wp (m := Instr.makeFunc (.func f) (first.map a.eval) (caps.map a.eval)) (by unfold execOp; simp only [ho]) ?_ hn
      refine .pure hG (u := .func (.func f) (first.map a.eval) (caps.map a.eval)) rfl ?_ h
      unfold VR
      exact ⟨first.toList.map a.eval, caps.toList.map a.eval, by congr 1 <;> (apply Array.ext'; simp), evs_out hG hT _, evs_out hG hT _⟩
    | _ => exact h.elim
  | makeSlice t l c =>
    rw [ho] at h
    exact yields_wp (m := Instr.makeSlice t (a.eval l) (a.eval c)) (by unfold execOp; simp only [ho]) (makeSlice_sound hG (hev l) (hev c) h) hn
  | slice t x lo hi mx =>
    rw [ho] at h
    exact yields_wp (m := Instr.sliceAt t (a.eval x) (lo.map a.eval) (hi.map a.eval) (mx.map a.eval)) (by unfold execOp; simp only [ho]) (slice_sound hG (hev x) (opt_out hG hT lo) (opt_out hG hT hi) (opt_out hG hT mx) h) hn
  | fieldAddr t x f =>
    rw [ho] at h
    exact yields_wp (m := Instr.fieldAt t (a.eval x) f) (by unfold execOp; simp only [ho]) (fieldAddr_sound hG (hev x) h) hn
  | field t x f =>
    rw [ho] at h
    exact yields_wp (m := Instr.field t (a.eval x) f) (by unfold execOp; simp only [ho]) (field_sound hG (hev x) h) hn
  | indexAddr t x i =>
    rw [ho] at h
    exact yields_wp (m := Instr.indexAt t (a.eval x) (a.eval i)) (by unfold execOp; simp only [ho]) (indexAddr_sound hG (hev x) (hev i) h) hn
  | index t x i =>
    rw [ho] at h
    exact yields_wp (m := Instr.index t (a.eval x) (a.eval i)) (by unfold execOp; simp only [ho]) (index_sound hG (hev x) (hev i) h) hn
  | makeMap t r =>
    rw [ho] at h
    refine yields_wp (m := Instr.makeMap t (r.map a.eval)) (by unfold execOp; simp only [ho]) (makeMap_sound hG (fun hr => ?_) h) hn
    cases r with
    | none => rfl
    | some x => cases hr
  | lookup t x k ok =>
    rw [ho] at h
    exact yields_wp (m := Instr.lookup t (a.eval x) (a.eval k) ok) (by unfold execOp; simp only [ho]) (lookup_sound hG (hev x) (hev k) h) hn
  | mapUpdate t x k y =>
    rw [ho] at h
    obtain ⟨w', M', H', h1, h2, h3, h4⟩ := mapUpdate_sound hG (hev x) (hev k) (hev y) h
    unfold Oper.wp execOp
    simp only [ho, Sem.run_bind, h1, Result.andThen_ok, Sem.run_pure, Oper.upon_skip]
    exact hn _ _ w' M' H' h2 h3 (by unfold VR; rfl) h4
  | range t x =>
    rw [ho] at h
    exact yields_wp (m := Instr.range t (a.eval x)) (by unfold execOp; simp only [ho]) (range_sound hG (hev x) h) hn
  | next x str =>
    rw [ho] at h
    exact yields_wp (m := Instr.next (a.eval x) str o.type) (by unfold execOp; simp only [ho]) (next_sound hG (hev x) h) hn
  | entry x =>
    rw [ho] at h
    exact yields_wp (m := Instr.entry (a.eval x)) (by unfold execOp; simp only [ho]) (entry_sound hG (hev x) h) hn
  | extract x i =>
    rw [ho] at h
    have h' : (match ev E.gl T x with
      | .tup vs => (match vs[i]? with
        | some a => K a H
        | none => False)
      | _ => False) := h
    clear h
    split at h'
    case h_2 => exact h'.elim
    case h_1 vs h1 =>
    split at h'
    case h_2 => exact h'.elim
    case h_1 b h2 =>
    have h3 := h'
    have hx := hev x
    rw [h1] at hx
    unfold VR at hx
    obtain ⟨us, h4, h5⟩ := hx
    obtain ⟨u, h6, h7⟩ := VRt.get h5 h2
    refine yields_wp (m := Instr.extract (a.eval x) i) (by unfold execOp; simp only [ho]) (.pure hG (u := u) ?_ h7 h3) hn
    rw [h4]
    simp [Instr.extract, h6]
  | call c =>
    rw [ho] at h
    have h0 : acall E (ev E.gl T) c o.type H K := h
    clear h
    have hargs := evs_out hG hT c.args.toList
    have hargs2 : (c.args.map a.eval) = (c.args.toList.map a.eval).toArray := by apply Array.ext'; simp
    obtain ⟨callee, args, argTypes⟩ := c
    cases callee with
    | invoke x m =>
      have hx := hev x
      have h1 : ainvoke E (ev E.gl T x) m (args.toList.map (ev E.gl T)) H K := h0
      clear h0
      generalize ev E.gl T x = v at hx h1
      unfold ainvoke at h1
      split at h1
      case h_2 => exact h1.elim
      case h_1 t r off =>
      unfold VR at hx
      obtain ⟨hr, b, hb, hxe⟩ := hx
      have hptr : VR M H.length w (.ptr r off) (.pointer (some ⟨b, off, none⟩)) := by
        unfold VR
        exact ⟨hr, b, hb, rfl⟩
      obtain ⟨k, hk⟩ : ∃ k, E.P.types.size + Made.depth = k + 1 := ⟨E.P.types.size + 99, rfl⟩
      have key : ∀ (g : FuncId) (av : AV) (u : Value), VR M H.length w av u → acallF E g (av :: args.toList.map (ev E.gl T)) H K → (method (k + 1) t (.pointer (some ⟨b, off, none⟩)) m).run E.P w = .ok (g, u) w → o.wp E.P a w next Q := by
        rintro g av u hvr ⟨R, ⟨⟨fn, hfn, hnm, hbd⟩, hc⟩, hK⟩ hmeth
        have hall : VRt M H.length w (av :: args.toList.map (ev E.gl T)) (u :: args.toList.map a.eval) := by
          unfold VRt
          exact ⟨u, _, rfl, hvr, hargs⟩
        have hcall := hc w M _ hG hall
        have hrun : (execOp a.eval o).run E.P w = .ok (.enter g (u :: args.toList.map a.eval).toArray) w := by
          unfold execOp
          simp only [ho, resolve, hxe, Sem.run_bind, Sem.run_pure, Result.andThen_ok, invoke]
          have ha : (#[Value.iface t (.pointer (some ⟨b, off, none⟩))] ++ args.map a.eval)[0]? = some (Value.iface t (.pointer (some ⟨b, off, none⟩))) := by
            rw [Array.getElem?_append_left (by simp)]
            rfl
          have hb2 : (#[Value.iface t (.pointer (some ⟨b, off, none⟩))] ++ args.map a.eval).extract 1 (#[Value.iface t (.pointer (some ⟨b, off, none⟩))] ++ args.map a.eval).size = args.map a.eval := by simp
          rw [ha]
          simp only [hb2, callMethod, Sem.run_bind, run_program, Result.andThen_ok, hk, hmeth, callFunc, hfn, hnm, hbd, Bool.false_eq_true, if_false, Sem.run_pure]
          rw [hargs2]
          simp
        unfold Oper.wp
        rw [hrun, Oper.upon_enter]
        refine hcall.mono ?_
        rintro e w' ⟨r, H', v, M', rfl, h4, h5, h6, h7⟩
        exact hn _ _ w' M' H' (hK r H' h4) h5 h6 h7
      split at h1
      · next g hm => exact key g _ _ hptr h1 (methI_out hm k _ w)
      · next g e hm =>
        obtain ⟨s, gg, z, q1, cs, q2, q3⟩ := h1
        obtain ⟨b2, of, us, q4, q5, q6⟩ := place_out hG hptr q2
        cases q4
        obtain ⟨u, v, q7, q8, q9⟩ := load_pure q1 q5 q6 q3
        exact key g v u q8 q9 (methI_out hm k _ w u q7)
      · exact h1.elim
    | builtin b =>
      have h1 : abuiltin E.P b argTypes.toList o.type (args.toList.map (ev E.gl T)) H K := h0
      have he : ∀ m, builtin b argTypes o.type (args.map fun | .const _ => true | _ => false) (args.toList.map a.eval).toArray = (do pure (Next.value (← m))) → execOp a.eval o = (do pure (Next.value (← m))) := by
        intro m hm
        unfold execOp
        simp only [ho, resolve]
        rw [hargs2]
        exact hm
      cases b with
      | len => exact yields_wp (he _ rfl) (lenM_sound hG hargs h1) hn
      | delete => exact yields_wp (he _ rfl) (delete_sound hG hargs h1) hn
      | append => exact yields_wp (he _ rfl) (append_sound hG hargs h1) hn
      | copy => exact yields_wp (he _ rfl) (copy_sound hG hargs h1) hn
      | cap =>
        have h2 : (match argTypes.toList, args.toList.map (ev E.gl T) with
          | [t], [.mt] => (∃ e sz, slI E.P t = some (e, sz)) ∧ K (.v (.int .i64 0)) H
          | [t], [.v (.slice none 0 0)] => (∃ e sz, slI E.P t = some (e, sz)) ∧ K (.v (.int .i64 0)) H
          | _, _ => False) := h1
        clear h1
        refine yields_wp (he _ rfl) ?_ hn
        have hat : argTypes = argTypes.toList.toArray := by simp
        split at h2
        · next t heq1 heq2 =>
          obtain ⟨⟨e, sz, hs⟩, hK⟩ := h2
          obtain ⟨hu, _⟩ := slI_out hs
          rw [heq2] at hargs
          unfold VRt at hargs
          obtain ⟨u, r, hur, k1, k2⟩ := hargs
          unfold VRt at k2
          subst k2
          unfold VR at k1
          obtain ⟨ao, rfl⟩ := k1
          rw [hat, heq1, hur]
          exact .pure hG (u := goInt 0) (by simp [Builtin.cap_, run_underlying hu]) (by unfold VR; rfl) hK
        · next t heq1 heq2 =>
          obtain ⟨⟨e, sz, hs⟩, hK⟩ := h2
          obtain ⟨hu, _⟩ := slI_out hs
          rw [heq2] at hargs
          unfold VRt at hargs
          obtain ⟨u, r, hur, k1, k2⟩ := hargs
          unfold VRt at k2
          subst k2
          unfold VR at k1
          subst k1
          rw [hat, heq1, hur]
          exact .pure hG (u := goInt 0) (by simp [Builtin.cap_, run_underlying hu]) (by unfold VR; rfl) hK
        · exact h2.elim
      | min =>
        obtain ⟨us, h2, r, h3, h4⟩ := h1
        refine yields_wp (he _ rfl) ?_ hn
        rw [concl_out h2 hargs]
        exact .ret hG h3 h4
      | max =>
        obtain ⟨us, h2, r, h3, h4⟩ := h1
        refine yields_wp (he _ rfl) ?_ hn
        rw [concl_out h2 hargs]
        exact .ret hG h3 h4
      | _ => exact h1.elim
    | value f =>
      have hf := hev f
      have h1 : (match ev E.gl T f with
        | .fn g first caps => acallF E g (first ++ args.toList.map (ev E.gl T) ++ caps) H K
        | _ => False) := h0
      clear h0
      generalize ev E.gl T f = v at hf h1
      cases v with
      | fn g first caps =>
        obtain ⟨R, ⟨⟨fn, hfn, hnm, hbd⟩, hc⟩, hK⟩ := h1
        unfold VR at hf
        obtain ⟨us, ks, hfe, h2, h3⟩ := hf
        have hall := VRt.append (VRt.append h2 hargs) h3
        have hcall := hc w M _ hG hall
        have hrun : (execOp a.eval o).run E.P w = .ok (.enter g (us ++ args.toList.map a.eval ++ ks).toArray) w := by
          unfold execOp
          simp only [ho, resolve, hfe, Deferred.ofValue, Sem.run_bind, Sem.run_pure, Result.andThen_ok, invoke, callFunc, run_program, hfn, hnm, hbd, Bool.false_eq_true, if_false]
          rw [hargs2]
          simp
        unfold Oper.wp
        rw [hrun, Oper.upon_enter]
        refine hcall.mono ?_
        rintro e w' ⟨r, H', v, M', rfl, h4, h5, h6, h7⟩
        exact hn _ _ w' M' H' (hK r H' h4) h5 h6 h7
      | _ => exact h1.elim
  | makeInterface t x =>
    rw [ho] at h
    have h1 : amkI E.P t (ev E.gl T x) fun v => K v H := h
    clear h
    have hx := hev x
    unfold amkI at h1
    split at h1
    · next e r off hp hxe =>
      rw [hxe] at hx
      unfold VR at hx
      obtain ⟨hr, b, hb, hue⟩ := hx
      refine yields_wp (m := Instr.makeInterface t (a.eval x)) (by unfold execOp; simp only [ho]) (.pure hG (u := .iface t (a.eval x)) ?_ (v := .ifp t r off) ?_ h1) hn
      · simp [Instr.makeInterface, Sem.run_bind, run_underlying (ptI_out hp)]
      · unfold VR
        exact ⟨hr, b, hb, by rw [hue]⟩
    · exact h1.elim
  | typeAssert x xt t ok =>
    rw [ho] at h
    have h1 : atyA E.P (ev E.gl T x) t ok fun v => K v H := h
    clear h
    have hx := hev x
    unfold atyA at h1
    split at h1
    · next t' r off e hxe hp =>
      obtain ⟨rfl, hK⟩ := h1
      rw [hxe] at hx
      unfold VR at hx
      obtain ⟨hr, b, hb, hue⟩ := hx
      have hv : VR M H.length w (.tup [.ptr r off, .v (.bool true)]) (.tuple #[.pointer (some ⟨b, off, none⟩), .bool true]) := by
        unfold VR
        refine ⟨[.pointer (some ⟨b, off, none⟩), .bool true], by simp, ?_⟩
        unfold VRt VRt VRt
        refine ⟨_, _, rfl, ?_, _, _, rfl, ?_, rfl⟩
        · unfold VR; exact ⟨hr, b, hb, rfl⟩
        · unfold VR; rfl
      refine yields_wp (m := Instr.typeAssert (a.eval x) xt t' true) (by unfold execOp; simp only [ho]) (.pure hG ?_ hv hK) hn
      simp [Instr.typeAssert, Sem.run_bind, run_underlying (ptI_out hp), hue]
    · exact h1.elim
  | _ => rw [ho] at h; exact h.elim
end
end Go.Am

namespace Go.Am
open Go.RowKit Go.Cx

mutual
/-- Names below n alone. -/
def nb (n : Nat) : AV → Prop
  | .any => True
  | .v _ => True
  | .mt => True
  | .sl _ es => nbss n es
  | .hs r _ _ _ => r < n
  | .os r _ _ _ => r < n
  | .ptr r _ => r < n
  | .rp r _ _ _ => r < n
  | .cptr cs => nbs n cs
  | .agg cs => nbs n cs
  | .tup vs => nbs n vs
  | .fn _ a b => nbs n a ∧ nbs n b
  | .mp r => r < n
  | .ifp _ r _ => r < n
def nbs (n : Nat) : List AV → Prop
  | [] => True
  | a :: as => nb n a ∧ nbs n as
def nbss (n : Nat) : List (List AV) → Prop
  | [] => True
  | e :: es => nbs n e ∧ nbss n es
end

def nbB (n : Nat) : Blk → Prop
  | .obj cs => nbs n cs
  | .row _ _ es => nbss n es
  | .map _ vs _ => nbs n vs
  | .iter m _ _ _ => m < n
theorem nbs_iff {n : Nat} : ∀ {l : List AV}, nbs n l ↔ ∀ a ∈ l, nb n a
  | [] => by simp [nbs]
  | a :: l => by unfold nbs; rw [nbs_iff (l := l)]; simp
section
variable {M : Mem} {n n' : Nat} {w : World}
mutual
theorem VR.nbOf : ∀ {a : AV} {u : Value}, VR M n w a u → nb n a
  | .any, _, _ => trivial
  | .v _, _, _ => trivial
  | .mt, _, _ => trivial
  | .sl sz es, u, h => by unfold VR at h; unfold nb; obtain ⟨_, _, _, _, h2, _⟩ := h; exact VRss.nbOf h2
  | .hs .., u, h => by unfold VR at h; unfold nb; exact h.1
  | .os .., u, h => by unfold VR at h; unfold nb; exact h.1
  | .ptr .., u, h => by unfold VR at h; unfold nb; exact h.1
  | .rp .., u, h => by unfold VR at h; unfold nb; exact h.1
  | .cptr cs, u, h => by unfold VR at h; unfold nb; obtain ⟨_, _, _, _, _, h2, _⟩ := h; exact VRs.nbOf h2
  | .agg cs, u, h => by unfold VR at h; unfold nb; obtain ⟨_, _, h2⟩ := h; exact VRs.nbOf h2
  | .tup cs, u, h => by unfold VR at h; unfold nb; obtain ⟨_, _, h2⟩ := h; exact VRt.nbOf h2
  | .fn _ a b, u, h => by unfold VR at h; unfold nb; obtain ⟨_, _, _, h2, h3⟩ := h; exact ⟨VRt.nbOf h2, VRt.nbOf h3⟩
  | .mp .., u, h => by unfold VR at h; unfold nb; exact h.1
  | .ifp .., u, h => by unfold VR at h; unfold nb; exact h.1
theorem VRs.nbOf : ∀ {as : List AV} {us : List Value}, VRs M n w as us → nbs n as
  | [], _, _ => by unfold nbs; trivial
  | a :: as, us, h => by unfold VRs at h; unfold nbs; obtain ⟨_, _, _, _, h2, h3⟩ := h; exact ⟨VR.nbOf h2, VRs.nbOf h3⟩
theorem VRt.nbOf : ∀ {as : List AV} {us : List Value}, VRt M n w as us → nbs n as
  | [], _, _ => by unfold nbs; trivial
  | a :: as, us, h => by unfold VRt at h; unfold nbs; obtain ⟨_, _, _, h2, h3⟩ := h; exact ⟨VR.nbOf h2, VRt.nbOf h3⟩
theorem VRss.nbOf {sz : Nat} : ∀ {es : List (List AV)} {us : List Value}, VRss M n w sz es us → nbss n es
  | [], _, _ => by unfold nbss; trivial
  | a :: as, us, h => by unfold VRss at h; unfold nbss; obtain ⟨_, _, _, _, h2, h3⟩ := h; exact ⟨VRs.nbOf h2, VRss.nbOf h3⟩
end
mutual
theorem VR.down : ∀ {a : AV} {u : Value}, nb n' a → VR M n w a u → VR M n' w a u
  | .any, _, _, _ => trivial
  | .v _, _, _, h => h
  | .mt, _, _, h => by unfold VR at h ⊢; exact h
  | .sl sz es, u, k, h => by unfold VR at h ⊢; unfold nb at k; obtain ⟨h1, h2, h3, h4, h5, h6⟩ := h; exact ⟨h1, h2, h3, h4, VRss.down k h5, h6⟩
  | .hs .., u, k, h => by unfold VR at h ⊢; unfold nb at k; exact ⟨k, h.2⟩
  | .os .., u, k, h => by unfold VR at h ⊢; unfold nb at k; exact ⟨k, h.2⟩
  | .ptr .., u, k, h => by unfold VR at h ⊢; unfold nb at k; exact ⟨k, h.2⟩
  | .rp .., u, k, h => by unfold VR at h ⊢; unfold nb at k; exact ⟨k, h.2⟩
  | .cptr cs, u, k, h => by unfold VR at h ⊢; unfold nb at k; obtain ⟨h1, h2, h3, h4, h5, h6, h7⟩ := h; exact ⟨h1, h2, h3, h4, h5, VRs.down k h6, h7⟩
  | .agg cs, u, k, h => by unfold VR at h ⊢; unfold nb at k; obtain ⟨h1, h2, h3⟩ := h; exact ⟨h1, h2, VRs.down k h3⟩
  | .tup cs, u, k, h => by unfold VR at h ⊢; unfold nb at k; obtain ⟨h1, h2, h3⟩ := h; exact ⟨h1, h2, VRt.down k h3⟩
  | .fn _ a b, u, k, h => by unfold VR at h ⊢; unfold nb at k; obtain ⟨h1, h2, h3, h4, h5⟩ := h; exact ⟨h1, h2, h3, VRt.down k.1 h4, VRt.down k.2 h5⟩
  | .mp .., u, k, h => by unfold VR at h ⊢; unfold nb at k; exact ⟨k, h.2⟩
  | .ifp .., u, k, h => by unfold VR at h ⊢; unfold nb at k; exact ⟨k, h.2⟩
theorem VRs.down : ∀ {as : List AV} {us : List Value}, nbs n' as → VRs M n w as us → VRs M n' w as us
  | [], _, _, h => by unfold VRs at h ⊢; exact h
  | a :: as, us, k, h => by unfold VRs at h ⊢; unfold nbs at k; obtain ⟨h1, h2, h3, h4, h5, h6⟩ := h; exact ⟨h1, h2, h3, h4, VR.down k.1 h5, VRs.down k.2 h6⟩
theorem VRt.down : ∀ {as : List AV} {us : List Value}, nbs n' as → VRt M n w as us → VRt M n' w as us
  | [], _, _, h => by unfold VRt at h ⊢; exact h
  | a :: as, us, k, h => by unfold VRt at h ⊢; unfold nbs at k; obtain ⟨h1, h2, h3, h5, h6⟩ := h; exact ⟨h1, h2, h3, VR.down k.1 h5, VRt.down k.2 h6⟩
theorem VRss.down {sz : Nat} : ∀ {es : List (List AV)} {us : List Value}, nbss n' es → VRss M n w sz es us → VRss M n' w sz es us
  | [], _, _, h => by unfold VRss at h ⊢; exact h
  | a :: as, us, k, h => by unfold VRss at h ⊢; unfold nbss at k; obtain ⟨h1, h2, h3, h4, h5, h6⟩ := h; exact ⟨h1, h2, h3, h4, VRs.down k.1 h5, VRss.down k.2 h6⟩
end

theorem BR.nbOf {r : Nat} {B : Blk} (h : BR M n w r B) : nbB n B := by
  cases B with
  | obj cs => obtain ⟨_, _, _, _, _, _, _, _, h⟩ := h; exact VRs.nbOf h
  | row hot sz es =>
    rcases h with ⟨_, rfl⟩ | ⟨_, _, _, _, _, _, _, _, _, h, _⟩
    · simp [nbB, nbss]
    · exact VRss.nbOf h
  | map ks vs st => obtain ⟨_, _, _, _, _, _, _, _, _, h, _⟩ := h; exact VRt.nbOf h
  | iter m bs c seen => exact h.1
theorem BR.down {r : Nat} {B : Blk} (k : nbB n' B) (h : BR M n w r B) : BR M n' w r B := by
  cases B with
  | obj cs => obtain ⟨h1, h2, h3, h4, h5, h6, h7, h8, h9⟩ := h; exact ⟨h1, h2, h3, h4, h5, h6, h7, h8, VRs.down k h9⟩
  | row hot sz es =>
    rcases h with h | ⟨h1, h2, h3, h4, h5, h6, h7, h8, h9, h10, h11⟩
    · exact .inl h
    · exact .inr ⟨h1, h2, h3, h4, h5, h6, h7, h8, h9, VRss.down k h10, h11⟩
  | map ks vs st => obtain ⟨h1, h2, h3, h4, h5, h6, h7, h8, h9, h10, h11⟩ := h; exact ⟨h1, h2, h3, h4, h5, h6, h7, h8, h9, VRt.down k h10, h11⟩
  | iter m bs c seen => exact ⟨k, h.2⟩
end

/-- Rows of the function's own (names from N on, in L), as they read. -/
def frz : Nat → Heap → Nat → AV → AV
  | 0, _, _, a => a
  | d + 1, L, N, .hs r sz off k => if r < N then .hs r sz off k else match L[r - N]? with
    | some (some (.row _ sz' es)) => if sz' = sz ∧ off + k ≤ es.length then .sl sz (((es.drop off).take k).map fun e => e.map (frz d L N)) else .any
    | _ => .any
  | d + 1, L, N, .agg cs => .agg (cs.map (frz d L N))
  | d + 1, L, N, .tup vs => .tup (vs.map (frz d L N))
  | _ + 1, _, _, a => a
theorem map_frz0 (L : Heap) (N : Nat) (l : List AV) : l.map (frz 0 L N) = l := by
  have : frz 0 L N = id := by funext a; rfl
  rw [this, List.map_id]
theorem maps_frz0 (L : Heap) (N : Nat) (l : List (List AV)) : (l.map fun e => e.map (frz 0 L N)) = l := by
  simp only [map_frz0, List.map_id']
section
variable {E : Env} {M M2 : Mem} {w : World} {H1 L : Heap}

theorem frz_out (hG : Gam E.gl M w (H1 ++ L)) (h2 : ∀ b, M.G b → M2.G b) (hb : ∀ r, M2.blk r = M.blk r ∧ M2.bsz r = M.bsz r) (hloc : ∀ r B b, H1.length ≤ r → (H1 ++ L)[r]? = some (some B) → M.blk r = some b → M2.G b) :
    ∀ (d : Nat) {a : AV} {u : Value}, VR M (H1 ++ L).length w a u → VR M2 (H1 ++ L).length w (frz d L H1.length a) u := by
  have keep : ∀ {a : AV} {u : Value}, VR M (H1 ++ L).length w a u → VR M2 (H1 ++ L).length w a u := fun h => VR.mono h2 (fun _ _ => rfl) (Nat.le_refl _) (fun r _ => hb r) h
  intro d
  induction d with
  | zero => intro a u h; unfold frz; exact keep h
  | succ d ih =>
    intro a u h
    have ihs : ∀ {as : List AV} {us : List Value}, VRs M (H1 ++ L).length w as us → VRs M2 (H1 ++ L).length w (as.map (frz d L H1.length)) us := by
      intro as
      induction as with
      | nil => intro us h; unfold VRs at h; simp [VRs, h]
      | cons a as ih2 =>
        intro us h
        unfold VRs at h
        obtain ⟨x, r, rfl, k1, k2, k3⟩ := h
        simp only [List.map_cons]
        unfold VRs
        exact ⟨x, r, rfl, k1, ih k2, ih2 k3⟩
    have iht : ∀ {as : List AV} {us : List Value}, VRt M (H1 ++ L).length w as us → VRt M2 (H1 ++ L).length w (as.map (frz d L H1.length)) us := by
      intro as
      induction as with
      | nil => intro us h; unfold VRt at h; simp [VRt, h]
      | cons a as ih2 =>
        intro us h
        unfold VRt at h
        obtain ⟨x, r, rfl, k2, k3⟩ := h
        simp only [List.map_cons]
        unfold VRt
        exact ⟨x, r, rfl, ih k2, ih2 k3⟩
    have ihss : ∀ {sz : Nat} {es : List (List AV)} {us : List Value}, VRss M (H1 ++ L).length w sz es us → VRss M2 (H1 ++ L).length w sz (es.map fun e => e.map (frz d L H1.length)) us := by
      intro sz es
      induction es with
      | nil => intro us h; unfold VRss at h; simp [VRss, h]
      | cons a as ih2 =>
        intro us h
        unfold VRss at h
        obtain ⟨x, r, rfl, k1, k2, k3⟩ := h
        simp only [List.map_cons]
        unfold VRss
        exact ⟨x, r, rfl, k1, ihs k2, ih2 k3⟩
    cases a with
    | hs r sz off k =>
      unfold frz
      split
      · exact keep h
      · next hr =>
        split
        case h_2 => simp [VR]
        case h_1 hot sz' es hL =>
        split
        case isFalse => simp [VR]
        case isTrue hc =>
        obtain ⟨rfl, hle⟩ := hc
        have hr2 : (H1 ++ L)[r]? = some (some (.row hot sz' es)) := by rw [List.getElem?_append_right (by omega)]; exact hL
        have hlen : ((es.drop off).take k).length = k := by simp; omega
        unfold VR at h ⊢
        obtain ⟨h0, ao, cap, rfl, k1, k2, k3, k4⟩ := h
        have hl2 : (((es.drop off).take k).map fun e => e.map (frz d L H1.length)).length = k := by simp; omega
        rw [hl2]
        rcases hG.blks r _ hr2 with ⟨j1, j2⟩ | ⟨b, cur, e, fr, us, j1, j2, j3, j4, j5, j6, j7⟩
        · subst j2
          have hk : k = 0 := by have h3 : off + k ≤ 0 := hle; omega
          subst hk
          exact ⟨ao, cap, [], rfl, by simp [VRss], ⟨by simp, k1, k2, by simp, .inl ⟨rfl, k3⟩⟩⟩
        · have hd := VRss.take k (VRss.drop off j5)
          refine ⟨ao, cap, _, rfl, ihss hd, ⟨?_, k1, k2, VRss.one hd, ?_⟩⟩
          · rw [VRss.len hd, hlen]
          · rcases k4 with ⟨k4, _⟩ | ⟨k4, _⟩ | ⟨b', k5, k6, k7⟩
            · exact .inl ⟨k4, k3⟩
            · exact .inl ⟨k4, k3⟩
            · rw [k5] at j1
              cases j1
              refine .inr ⟨b, off * sz', k6, hloc r _ b (by omega) hr2 k5, fun j v hj => ?_⟩
              rw [cell_of_row w b _ cur e fr j2]
              rw [List.getElem?_take] at hj
              split at hj
              · rw [List.getElem?_drop, ← j6, List.getElem?_take] at hj
                split at hj
                · simpa using hj
                · cases hj
              · cases hj
    | agg cs =>
      unfold frz
      unfold VR at h ⊢
      obtain ⟨us, h3, h4⟩ := h
      exact ⟨us, h3, ihs h4⟩
    | tup cs =>
      unfold frz
      unfold VR at h ⊢
      obtain ⟨us, h3, h4⟩ := h
      exact ⟨us, h3, iht h4⟩
    | _ => exact keep h
end

section
variable {gl : Nat → AV} {M : Mem} {w : World} {H1 L : Heap}

/-- .. once what the own blocks hold is frozen. -/
def Mem.shut (M : Mem) (H1 L : Heap) : Mem := { M with G := fun b => M.G b ∨ ∃ (r : Nat) (B : Blk), H1.length ≤ r ∧ (H1 ++ L)[r]? = some (some B) ∧ M.blk r = some b }
theorem Gam.drop (hG' : Gam gl M w (H1 ++ L)) (hB : ∀ (k : Nat) (B : Blk), H1[k]? = some (some B) → nbB H1.length B) : Gam gl (M.shut H1 L) w H1 := by
  have hsub : ∀ b, M.G b → (M.shut H1 L).G b := fun b hb => .inl hb
  have hget : ∀ (k : Nat) (B : Blk), H1[k]? = some (some B) → (H1 ++ L)[k]? = some (some B) := by
    intro k B hk
    rw [List.getElem?_append_left (List.getElem?_eq_some_iff.1 hk).1]
    exact hk
  have hlt : ∀ (k : Nat) (B : Blk), H1[k]? = some (some B) → k < H1.length := fun k B hk => (List.getElem?_eq_some_iff.1 hk).1
  refine ⟨fun g => VR.mono (M := M) (M' := M.shut H1 L) (n := 0) (w := w) hsub (fun _ _ => rfl) (Nat.le_refl _) (fun _ _ => ⟨rfl, rfl⟩) (hG'.glob g), fun b hb => ?_, fun k B hk => ?_, fun k B b hk hh hb => ?_, fun k k' B B' b hk hk' => hG'.far k k' B B' b (hget k B hk) (hget k' B' hk')⟩
  · rcases hb with hb | ⟨r, B, q1, q2, q3⟩
    · exact hG'.inG b hb
    · exact (hG'.blks r B q2).lt q3
  · exact BR.down (hB k B hk) (BR.mono (M := M) (n := (H1 ++ L).length) (w := w) (r := k) hsub (fun _ _ => rfl) (Nat.le_refl _) (fun _ _ => ⟨rfl, rfl⟩) rfl rfl (fun _ _ => rfl) (hG'.blks k B (hget k B hk)))
  · rintro (q | ⟨r, B', q1, q2, q3⟩)
    · exact hG'.sep k B b (hget k B hk) hh hb q
    · exact hG'.far k r B B' b (hget k B hk) q2 hh (by have := hlt k B hk; omega) hb q3
theorem VR.frz {E : Env} (hG' : Gam E.gl M w (H1 ++ L)) (d : Nat) {a : AV} {u : Value} (h : VR M (H1 ++ L).length w a u) : VR (M.shut H1 L) (H1 ++ L).length w (frz d L H1.length a) u :=
  frz_out (E := E) (M2 := M.shut H1 L) hG' (fun _ hb => .inl hb) (fun _ => ⟨rfl, rfl⟩) (fun r B b q1 q2 q3 => .inr ⟨r, B, q1, q2, q3⟩) d h
/-- A block of the heap: frozen before, or one that might be written, or new. -/
theorem shut_hot {E : Env} {M M' : Mem} {w w' : World} {H H' : Heap} {r b : Nat} {B : Blk} (hG' : Gam E.gl M' w' H') (hE : Ext M w H M' w' H') (h : H'[r]? = some (some B)) (hb : M'.blk r = some b) : M.G b ∨ Hot M H b ∨ w.heap.size ≤ b := by
  cases hh : B.isHot with
  | true =>
    rcases hE.hot b ⟨r, B, h, hh, hb⟩ with q | q
    · exact .inr (.inl q)
    · exact .inr (.inr q)
  | false =>
    have hB := hG'.blks r B h
    cases B with
    | obj cs => simp [Blk.isHot] at hh
    | map ks vs st => simp [Blk.isHot] at hh
    | iter m bs c seen => simp [Blk.isHot] at hh
    | row hot sz es =>
      rcases hB with ⟨q1, _⟩ | ⟨b', cur, e, fr, us, q1, _, _, _, _, _, q7⟩
      · rw [q1] at hb; cases hb
      · rw [q1] at hb
        cases hb
        exact hE.gnew _ (q7 (by simpa [Blk.isHot] using hh))
end
end Go.Am

namespace Go.Am
open Go.RowKit Go.Cx

/-! ### which operation waits for which -/
def dirs (o : Oper) : List Nat := (o.after.toList.filter (Region.binds .any ·)).map (·.on)
def insAll : List Nat → List Nat → List Nat
  | [], l => l
  | x :: xs, l => insAll xs (if l.contains x then l else x :: l)
def ancOf (acc : List (List Nat)) : List Nat → List Nat → List Nat
  | [], l => l
  | k :: ks, l => ancOf acc ks (insAll (k :: acc.getD k []) l)
def ancs : List Oper → List (List Nat) → List (List Nat)
  | [], acc => acc
  | o :: os, acc => ancs os (acc ++ [ancOf acc (dirs o) []])
theorem mem_insAll {x : Nat} : ∀ {xs l : List Nat}, x ∈ insAll xs l → x ∈ xs ∨ x ∈ l
  | [], l, h => .inr h
  | y :: ys, l, h => by
    unfold insAll at h
    rcases mem_insAll h with h | h
    · exact .inl (List.mem_cons_of_mem _ h)
    · split at h
      · exact .inr h
      · rcases List.mem_cons.1 h with h | h
        · exact .inl (by rw [h]; exact List.mem_cons_self)
        · exact .inr h
theorem mem_ancOf {x : Nat} {acc : List (List Nat)} : ∀ {ks l : List Nat}, x ∈ ancOf acc ks l → (∃ k ∈ ks, x = k ∨ x ∈ acc.getD k []) ∨ x ∈ l
  | [], l, h => .inr h
  | k :: ks, l, h => by
    unfold ancOf at h
    rcases mem_ancOf h with ⟨k', h1, h2⟩ | h
    · exact .inl ⟨k', List.mem_cons_of_mem _ h1, h2⟩
    · rcases mem_insAll h with h | h
      · rcases List.mem_cons.1 h with h | h
        · exact .inl ⟨k, List.mem_cons_self, .inl h⟩
        · exact .inl ⟨k, List.mem_cons_self, .inr h⟩
      · exact .inr h
theorem ancs_shut {ops : Array Oper} {S : Nat → Bool} (hS : ∀ i o, ops[i]? = some o → S i = true → ∀ j ∈ dirs o, S j = true) : ∀ (l : List Oper) (acc : List (List Nat)), ops.toList.drop acc.length = l →
    (∀ i, i < acc.length → S i = true → ∀ j ∈ acc.getD i [], S j = true) → ∀ i, S i = true → ∀ j ∈ (ancs l acc).getD i [], S j = true
  | [], acc, _, h, i, hi, j, hj => by
    unfold ancs at hj
    by_cases hlt : i < acc.length
    · exact h i hlt hi j hj
    · rw [List.getD_eq_getElem?_getD, List.getElem?_eq_none (by omega)] at hj
      simp at hj
  | o :: l, acc, hl, h, i, hi, j, hj => by
    unfold ancs at hj
    have ho : ops[acc.length]? = some o := by
      have : (ops.toList.drop acc.length)[0]? = some o := by rw [hl]; rfl
      simpa using this
    refine ancs_shut hS l _ ?_ ?_ i hi j hj
    · rw [List.length_append, List.length_singleton, ← List.drop_drop, hl]
      rfl
    · intro k hk hSk x hx
      by_cases hkl : k < acc.length
      · rw [List.getD_eq_getElem?_getD, List.getElem?_append_left hkl, ← List.getD_eq_getElem?_getD] at hx
        exact h k hkl hSk x hx
      · have hke : k = acc.length := by rw [List.length_append, List.length_singleton] at hk; omega
        subst hke
        rw [List.getD_eq_getElem?_getD, List.getElem?_append_right (Nat.le_refl _)] at hx
        simp at hx
        rcases mem_ancOf hx with ⟨q, h1, h2⟩ | h2
        · have hq := hS _ o ho hSk q h1
          rcases h2 with h2 | h2
          · rw [h2]; exact hq
          · by_cases hql : q < acc.length
            · exact h q hql hq x h2
            · rw [List.getD_eq_getElem?_getD, List.getElem?_eq_none (by omega)] at h2
              simp at h2
        · simp at h2
/-- What an operation looks at, and writes. -/
def names (ops : Array Oper) (o : Oper) : List Tmp := o.looksAt ops ++ o.dst.toList
/-- It neither looks into memory nor writes. -/
def still : Op → Bool
  | .move _ | .assign _ | .pick .. | .build .. | .nilCheck _ | .binOp .. | .unOp .. | .makeFunc .. | .slice .. | .fieldAddr .. | .field .. | .indexAddr .. | .index .. | .extract .. => true
  | _ => false
/-- How an operation stands in a statement whose order Go leaves open: q leaves the memory as it is; l also, and what it gives hangs on nothing that others add; e writes; g adds one block; b makes a row that nobody will write; m r loads out of the block r; f rs writes, but leaves the blocks rs as they are. -/
inductive Kd where
  | q | l | e | g | b | m (r : Nat) | f (rs : List Nat) | p (l : List Int) | c (j : Nat) (l : List Int)
  deriving DecidableEq
def Kd.eff : Kd → Bool
  | .e => true
  | .g => true
  | .f _ => true
  | _ => false
def Kd.isQ : Kd → Bool
  | .q => true
  | _ => false
def Kd.isL : Kd → Bool
  | .l => true
  | _ => false
def Kd.isB : Kd → Bool
  | .b => true
  | .p _ => true
  | .c _ _ => true
  | _ => false
def Kd.isP : Kd → Bool
  | .p _ => true
  | .c _ _ => true
  | _ => false
def bcN (n : Int) : List AV := [.v (.int .u8 n)]
/-- A row of bytes that is born here and marked by a conversion behind: nobody else touches it. -/
def pendOk (ops : Array Oper) (ks : List Kd) : Bool :=
  let A := ancs ops.toList []
  (List.range ops.size).all fun i => match ops[i]? with
    | none => true
    | some o => match ks.getD i .q with
      | .p l => o.guard.isNone && decide (0 < l.length) && (List.range ops.size).all fun j => i == j || match ops[j]? with
        | none => true
        | some q => !(match ks.getD j .q with | .p _ => true | _ => false) && (match o.dst, q.dst with | some d, some d' => !(d == d') | some _, none => true | none, _ => false)
      | .c j l => o.guard.isNone && decide (j < i) && (A.getD i []).contains j && (match ks.getD j .q with | .p l' => l' == l | _ => false) && ((List.range ops.size).all fun k => i == k || !(match ks.getD k .q with | .c _ _ => true | _ => false)) && match ops[j]? with
        | none => false
        | some q => match o.op, q.dst, q.op with
          | .convert s _ (.tmp d), some d', .buildSlice t _ _ => d == d' && s == t
          | _, _, _ => false
      | _ => true
/-- The conversion of a row of bytes to its own type. -/
def convT (P : Program) (o : Op) : Prop :=
  match o with
  | .convert s t _ => s = t ∧ (match P.underlying s with
    | some (.slice e) => P.underlying e = some (.int .u8)
    | _ => False)
  | _ => False
def Kd.isG : Kd → Bool
  | .g => true
  | _ => false
/-- The first loads out of a block that the second leaves alone. -/
def Kd.apart : Kd → Kd → Bool
  | .m r, .f s => s.contains r
  | _, _ => false
/-- The region's edges order whatever must be ordered. -/
def drawOk (ops : Array Oper) (ks : List Kd) : Bool :=
  let A := ancs ops.toList []
  let ord (i j : Nat) : Bool := ((A.getD i []).contains j && decide (j < i)) || ((A.getD j []).contains i && decide (i < j))
  pendOk ops ks && (ks.length == ops.size) &&
  (List.range ops.size).all fun i => match ops[i]? with
    | none => true
    | some o => let k := ks.getD i .q
      (dirs o).all (fun j => decide (j < i)) &&
      (List.range ops.size).all fun j => i == j || match ops[j]? with
        | none => true
        | some p => let m := ks.getD j .q
          (match p.dst with
          | some d => !(names ops o).contains d || ord i j
          | none => true) && (!m.eff || k.isB || (k.isQ && still o.op) || k.apart m || (k.isL && (m.isG || ((A.getD j []).contains i && decide (i < j)))) || (!k.isL && ord i j))
/-! ### the rule -/
/-- Whether the operation's guard lets it. -/
def lets (ops : Array Oper) (o : Oper) (T : Nat → AV) : Option Bool :=
  match o.guard with
  | none => some true
  | some (j, want) => match ayield ops T j with
    | some (some b) => some (b == want)
    | some none => some false
    | none => none
/-- A row that nobody will write. -/
def aborn (P : Program) (o : Op) (ρ : Operand → AV) (K : AV → Prop) : Prop :=
  match o with
  | .buildSlice t len parts => ∃ e sz, slI P t = some (e, sz) ∧ ∃ g z, tyI P e = some (sz, g, z) ∧ 0 < sz ∧ len * sz ≤ 16777216 ∧ ∃ es, bfill sz (List.replicate len z) (parts.toList.map fun p => (p.1, ρ p.2)) = some es ∧
      (if len = 0 then K .mt else K (.sl sz es))
  | _ => False
/-- The block that an address leads into; 999: none that is written. -/
def locOf : AV → Option Nat
  | .ptr r _ => some r
  | .rp r _ _ _ => some r
  | .cptr _ => some 999
  | _ => none
def locCv : AV → Option Nat
  | .v (.int _ _) => some 999
  | _ => none
/-- The block that an operation loads from. -/
def loadsOf (o : Op) (ρ : Operand → AV) : Option Nat :=
  match o with
  | .load _ x => locOf (ρ x)
  | .convert _ _ x => locCv (ρ x)
  | _ => none
theorem place_loc {H H2 : Heap} {a : AV} {r : Nat} (h : locOf a = some r) (he : H2[r]? = H[r]?) : place H2 a = place H a := by
  cases a <;> simp only [locOf, Option.some.injEq, reduceCtorEq] at h
  · subst h; simp only [place, he]
  · subst h; simp only [place, he]
  · simp only [place]
theorem aconv_int {P : Program} {src dst : TypeId} {k : IntKind} {n : Int} {H H2 : Heap} {v : AV} (h : aconv P src dst (.v (.int k n)) H fun v' H' => v' = v ∧ H' = H) : aconv P src dst (.v (.int k n)) H2 fun v' H' => v' = v ∧ H' = H2 := by
  unfold aconv at h ⊢
  split at h
  · exact h.elim
  · exact h.2.2.elim
  · obtain ⟨_, l, h1, _⟩ := h
    simp [elems] at h1
  · exact ⟨h.1, rfl⟩
  · obtain ⟨u, h1, r, h2, h3⟩ := h
    exact ⟨u, h1, r, h2, h3.1, rfl⟩
theorem aop_load {E : Env} {o : Op} {ty : TypeId} {ρ : Operand → AV} {H H2 : Heap} {v : AV} {r : Nat} (hs : loadsOf o ρ = some r) (he : H2[r]? = H[r]?) (h : aop E o ty ρ H fun v' H' => v' = v ∧ H' = H) : aop E o ty ρ H2 fun v' H' => v' = v ∧ H' = H2 := by
  cases o with
  | load t x =>
    simp only [aop, and_true] at h ⊢
    unfold aload at h ⊢
    rw [place_loc hs he]
    exact h
  | convert src dst x =>
    simp only [loadsOf] at hs
    simp only [aop] at h ⊢
    cases hx : ρ x with
    | v u =>
      rw [hx] at hs h
      cases u <;> simp [locCv] at hs
      exact aconv_int h
    | _ => rw [hx] at hs; cases hs
  | _ => cases hs
/-- The same blocks in two heaps. -/
def keepB : List Nat → Heap → Heap → Prop
  | [], _, _ => True
  | r :: rs, H1, H => H1[r]? = H[r]? ∧ keepB rs H1 H
theorem keepB_mem {H1 H : Heap} : ∀ {rs : List Nat}, keepB rs H1 H → ∀ r ∈ rs, H1[r]? = H[r]?
  | [], _, r, hr => absurd hr (by simp)
  | s :: rs, h, r, hr => by
    rcases List.mem_cons.1 hr with e | e
    · rw [e]; exact h.1
    · exact keepB_mem h.2 r e
/-- The operations, one behind the other. -/
def adraw (E : Env) (all : Array Oper) (H0 : Heap) : List Oper → List Kd → (Nat → AV) → Heap → ((Nat → AV) → Heap → Prop) → Prop
  | [], _, T, H, K => K T H
  | _ :: _, [], _, _, _ => False
  | o :: os, k :: ks, T, H, K =>
    match lets all o T with
    | some true => match k with
      | .q => ∃ v, aop E o.op o.type (ev E.gl T) H (fun v' H' => v' = v ∧ H' = H) ∧ adraw E all H0 os ks (aput T o.dst v) H K
      | .l => ∃ v, (∀ L, aop E o.op o.type (ev E.gl T) (H0 ++ L) (fun v' H' => v' = v ∧ H' = H0 ++ L)) ∧ adraw E all H0 os ks (aput T o.dst v) H K
      | .b => ∃ v, aborn E.P o.op (ev E.gl T) (fun v' => v' = v) ∧ adraw E all H0 os ks (aput T o.dst v) H K
      | .g => ∃ v B, aop E o.op o.type (ev E.gl T) H (fun v' H' => v' = v ∧ H' = H ++ [B]) ∧ adraw E all H0 os ks (aput T o.dst v) (H ++ [B]) K
      | .e => ∃ v H1, aop E o.op o.type (ev E.gl T) H (fun v' H' => v' = v ∧ H' = H1) ∧ adraw E all H0 os ks (aput T o.dst v) H1 K
      | .m r => loadsOf o.op (ev E.gl T) = some r ∧ ∃ v, aop E o.op o.type (ev E.gl T) H (fun v' H' => v' = v ∧ H' = H) ∧ adraw E all H0 os ks (aput T o.dst v) H K
      | .f r => ∃ v H1, aop E o.op o.type (ev E.gl T) H (fun v' H' => v' = v ∧ H' = H1) ∧ keepB r H1 H ∧ adraw E all H0 os ks (aput T o.dst v) H1 K
      | .p l => aborn E.P o.op (ev E.gl T) (fun v' => v' = .sl 1 (l.map bcN)) ∧ adraw E all H0 os ks (aput T o.dst .any) H K
      | .c _ l => convT E.P o.op ∧ adraw E all H0 os ks (aput T o.dst (.sl 1 (l.map bcN))) H K
    | some false => adraw E all H0 os ks (aput T o.dst (.v undef)) H K
    | none => False
theorem aop_congr {E : Env} {o : Op} {ty : TypeId} {ρ ρ' : Operand → AV} {H : Heap} {K : AV → Heap → Prop} (h : ∀ x ∈ o.operands, ρ x = ρ' x) : aop E o ty ρ H K = aop E o ty ρ' H K := by
  have e : ∀ (l : List Operand), (∀ x ∈ l, ρ x = ρ' x) → l.map ρ = l.map ρ' := fun l hl => List.map_congr_left hl
  have eo : ∀ (x : Option Operand), (∀ y ∈ x.toArray, ρ y = ρ' y) → x.map ρ = x.map ρ' := by
    intro x hx
    cases x with
    | none => rfl
    | some y => simp at hx; simp [hx]
  have e2 : ∀ (l : List (Nat × Operand)), (∀ x ∈ l, ρ x.2 = ρ' x.2) → (l.map fun p => (p.1, ρ p.2)) = l.map fun p => (p.1, ρ' p.2) := fun l hl => List.map_congr_left fun p hp => by rw [hl p hp]
  cases o with
  | move x | assign x | box t x | load t x | nilCheck x | unOp op t x | convert s d x | fieldAddr t x f | field t x f | extract x i | range t x | next x s | entry x | makeInterface t x | typeAssert x xt t ok => simp only [aop, h x (by simp [Op.operands])]
  | pick c x y => simp only [aop, h c (by simp [Op.operands]), h x (by simp [Op.operands]), h y (by simp [Op.operands])]
  | makeMap t r =>
    simp only [aop]
    rw [eo r (fun y hy => h y (by simp only [Op.operands]; exact hy))]
  | mapUpdate t x k y => simp only [aop, h x (by simp [Op.operands]), h k (by simp [Op.operands]), h y (by simp [Op.operands])]
  | store t x y | binOp op t x y u | makeSlice t x y | indexAddr t x y | index t x y | lookup t x y c => simp only [aop, h x (by simp [Op.operands]), h y (by simp [Op.operands])]
  | build t ps | buildSlice t n ps =>
    simp only [aop]
    rw [e2 ps.toList (fun p hp => h p.2 (by simp only [Op.operands, List.mem_toArray, List.mem_map]; exact ⟨p, hp, rfl⟩))]
  | makeFunc f a b =>
    cases f <;> simp only [aop]
    rw [e a.toList (fun x hx => h x (by simp [Op.operands]; exact .inl (by simpa using hx))), e b.toList (fun x hx => h x (by simp [Op.operands]; exact .inr (by simpa using hx)))]
  | slice t x lo hi mx =>
    simp only [aop]
    rw [h x (by simp [Op.operands]), eo lo (fun y hy => h y (by simp [Op.operands]; simp at hy; simp [hy])), eo hi (fun y hy => h y (by simp [Op.operands]; simp at hy; simp [hy])), eo mx (fun y hy => h y (by simp [Op.operands]; simp at hy; simp [hy]))]
  | call c =>
    obtain ⟨callee, args, ts⟩ := c
    have ha := e args.toList (fun x hx => h x (by simp [Op.operands, Call.operands]; exact .inr (by simpa using hx)))
    cases callee with
    | builtin b => show abuiltin _ _ _ _ _ _ _ = abuiltin _ _ _ _ _ _ _; rw [ha]
    | invoke x m =>
      show ainvoke _ _ _ _ _ _ = ainvoke _ _ _ _ _ _
      rw [ha, h x (by simp [Op.operands, Call.operands])]
    | value f =>
      show (match ρ f with | .fn g first caps => acallF E g (first ++ args.toList.map ρ ++ caps) H K | _ => False) = (match ρ' f with | .fn g first caps => acallF E g (first ++ args.toList.map ρ' ++ caps) H K | _ => False)
      rw [ha, h f (by simp [Op.operands, Call.operands])]
  | _ => rfl
theorem aop_quiet {E : Env} {o : Op} {ty : TypeId} {ρ : Operand → AV} {H H2 : Heap} {v : AV} (hs : still o = true) (h : aop E o ty ρ H fun v' H' => v' = v ∧ H' = H) : aop E o ty ρ H2 fun v' H' => v' = v ∧ H' = H2 := by
  have e : ∀ (H : Heap), (fun v' => v' = v ∧ H = H) = fun v' => v' = v := fun H => by funext v'; simp
  cases o with
  | move x | assign x => exact ⟨h.1, rfl⟩
  | nilCheck x => exact ⟨h.1, h.2.1, rfl⟩
  | pick c x y =>
    simp only [aop] at h ⊢
    exact h
  | build t ps =>
    simp only [aop] at h ⊢
    exact h
  | binOp op t x y u => simp only [aop] at h ⊢; exact h
  | unOp op t x => simp only [aop, and_true] at h ⊢; exact h
  | makeFunc f a b => cases f <;> simp only [aop, and_true] at h ⊢ <;> exact h
  | slice t x lo hi mx => simp only [aop] at h ⊢; exact h
  | fieldAddr t x f => simp only [aop] at h ⊢; exact h
  | field t x f => simp only [aop] at h ⊢; exact h
  | indexAddr t x y => simp only [aop] at h ⊢; exact h
  | index t x y => simp only [aop] at h ⊢; exact h
  | extract x i => simp only [aop, and_true] at h ⊢; exact h
  | _ => cases hs
theorem aborn_congr {P : Program} {o : Op} {ρ ρ' : Operand → AV} {K : AV → Prop} (h : ∀ x ∈ o.operands, ρ x = ρ' x) : aborn P o ρ K = aborn P o ρ' K := by
  cases o with
  | buildSlice t n ps =>
    have e2 : (ps.toList.map fun p => (p.1, ρ p.2)) = ps.toList.map fun p => (p.1, ρ' p.2) := List.map_congr_left fun p hp => by
      rw [h p.2 (by simp only [Op.operands, List.mem_toArray, List.mem_map]; exact ⟨p, hp, rfl⟩)]
    simp only [aborn, e2]
  | _ => rfl
/-- The slots, when those of S among the first m have had their turn. -/
def Tof (ops : Array Oper) (T : Nat → AV) (v : Nat → AV) (S : Nat → Bool) : Nat → Nat → AV
  | 0 => T
  | m + 1 => if S m then aput (Tof ops T v S m) ((ops[m]?).bind (·.dst)) (v m) else Tof ops T v S m
theorem aput_at (T : Nat → AV) (d : Option Tmp) (v : AV) (t : Nat) : aput T d v t = if d = some t then v else T t := by
  cases d with
  | none => rfl
  | some d =>
    simp only [aput, put, Option.some.injEq]
    by_cases h : t = d
    · subst h; simp
    · rw [if_neg h, if_neg (fun e => h e.symm)]
theorem Tof_agree {ops : Array Oper} {T v : Nat → AV} {S S2 : Nat → Bool} {t : Nat} : ∀ (m : Nat), (∀ j, j < m → (ops[j]?).bind (·.dst) = some t → S j = S2 j) → Tof ops T v S m t = Tof ops T v S2 m t
  | 0, _ => rfl
  | m + 1, h => by
    have ih := Tof_agree (T := T) (v := v) m (fun j hj hd => h j (by omega) hd)
    unfold Tof
    by_cases hd : (ops[m]?).bind (·.dst) = some t
    · rw [h m (by omega) hd]
      split
      · rw [aput_at, aput_at, if_pos hd, if_pos hd]
      · exact ih
    · split <;> split
      · rw [aput_at, aput_at, if_neg hd, if_neg hd]; exact ih
      · rw [aput_at, if_neg hd]; exact ih
      · rw [aput_at, if_neg hd]; exact ih
      · exact ih
theorem Tof_stop {ops : Array Oper} {T v : Nat → AV} {i : Nat} : ∀ (m : Nat), i ≤ m → Tof ops T v (fun j => decide (j < i)) m = Tof ops T v (fun j => decide (j < i)) i
  | 0, h => by rw [Nat.le_zero.1 h]
  | m + 1, h => by
    by_cases he : i = m + 1
    · rw [he]
    · have : ¬ m < i := by omega
      conv => lhs; unfold Tof
      simp only [this, decide_false, Bool.false_eq_true, if_false]
      exact Tof_stop m (by omega)
theorem Tof_eq {ops : Array Oper} {T v v2 : Nat → AV} {S S2 : Nat → Bool} : ∀ (m : Nat), (∀ j, j < m → S j = S2 j ∧ v j = v2 j) → Tof ops T v S m = Tof ops T v2 S2 m
  | 0, _ => rfl
  | m + 1, h => by
    unfold Tof
    rw [Tof_eq m (fun j hj => h j (by omega)), (h m (by omega)).1, (h m (by omega)).2]
/-- What an operation of its kind does, from X to X'. -/
def RunAt (E : Env) (k : Kd) (o : Oper) (ρ : Operand → AV) (x : AV) (X X' : Heap) : Prop :=
  match k with
  | .b => X' = X ∧ aborn E.P o.op ρ (fun v' => v' = x)
  | .p l => X' = X ∧ x = .any ∧ aborn E.P o.op ρ (fun v' => v' = .sl 1 (l.map bcN))
  | .c _ l => X' = X ∧ x = .sl 1 (l.map bcN) ∧ convT E.P o.op
  | _ => aop E o.op o.type ρ X (fun v' H' => v' = x ∧ H' = X')
/-- What holds of operation j in its place. -/
def Fact (E : Env) (ops : Array Oper) (ks : List Kd) (T : Nat → AV) (v : Nat → AV) (hp : Nat → Heap) (j : Nat) (o : Oper) : Prop :=
  ((ks.getD j .q).eff = false → hp (j + 1) = hp j) ∧ (((ks.getD j .q).isG = true → ∃ L, hp (j + 1) = hp j ++ L) ∧ ∀ s, ks.getD j .q = .f s → ∀ r ∈ s, (hp (j + 1))[r]? = (hp j)[r]?) ∧ ∃ r, lets ops o (Tof ops T v (fun q => decide (q < j)) j) = some r ∧
    (r = true → (∀ s, ks.getD j .q = .m s → loadsOf o.op (ev E.gl (Tof ops T v (fun q => decide (q < j)) j)) = some s) ∧ if (ks.getD j .q).isL then ∀ L, RunAt E (ks.getD j .q) o (ev E.gl (Tof ops T v (fun q => decide (q < j)) j)) (v j) (hp 0 ++ L) (hp 0 ++ L)
      else RunAt E (ks.getD j .q) o (ev E.gl (Tof ops T v (fun q => decide (q < j)) j)) (v j) (hp j) (hp (j + 1))) ∧ (r = false → v j = .v undef ∧ hp (j + 1) = hp j)
/-- What the operations one behind the other give. -/
theorem adraw_out {E : Env} {ops : Array Oper} {ks : List Kd} {T : Nat → AV} {K : (Nat → AV) → Heap → Prop} {H0 : Heap} : ∀ (l : List Oper) (i : Nat) (v0 : Nat → AV) (h0 : Nat → Heap), i ≤ ops.size → ops.toList.drop i = l → h0 0 = H0 →
    adraw E ops H0 l (ks.drop i) (Tof ops T v0 (fun j => decide (j < i)) i) (h0 i) K →
    ∃ (v : Nat → AV) (hp : Nat → Heap), (∀ j, j < i → v j = v0 j) ∧ (∀ j, j ≤ i → hp j = h0 j) ∧ K (Tof ops T v (fun j => decide (j < ops.size)) ops.size) (hp ops.size) ∧
      ∀ j o, i ≤ j → ops[j]? = some o → Fact E ops ks T v hp j o
  | [], i, v0, h0, hi, hl, hh0, h => by
    have hle : i = ops.size := by
      have := congrArg List.length hl
      simp at this
      omega
    unfold adraw at h
    refine ⟨v0, h0, fun _ _ => rfl, fun _ _ => rfl, by rw [← hle]; exact h, fun j o hj ho => ?_⟩
    have := (Array.getElem?_eq_some_iff.1 ho).1
    omega
  | o :: l, i, v0, h0, hi, hl, hh0, h => by
    have hlt : i < ops.size := by
      have := congrArg List.length hl
      simp at this
      omega
    have ho : ops[i]? = some o := by
      have : (ops.toList.drop i)[0]? = some o := by rw [hl]; rfl
      simpa using this
    have hnext : ops.toList.drop (i + 1) = l := by
      rw [← List.drop_drop, hl]
      rfl
    generalize hkd : ks.drop i = kd at h
    match kd, h with
    | [], h => unfold adraw at h; exact h.elim
    | k :: kr, h =>
    have hki : ks.getD i .q = k := by
      have : (ks.drop i)[0]? = some k := by rw [hkd]; rfl
      rw [List.getElem?_drop, Nat.add_zero] at this
      rw [List.getD_eq_getElem?_getD, this]
      rfl
    have hkn : ks.drop (i + 1) = kr := by
      rw [← List.drop_drop, hkd]
      rfl
    subst hkn
    have go : ∀ (x : AV) (H1 : Heap), adraw E ops H0 l (ks.drop (i + 1)) (aput (Tof ops T v0 (fun j => decide (j < i)) i) o.dst x) H1 K →
        (k.eff = false → H1 = h0 i) → ((k.isG = true → ∃ L, H1 = h0 i ++ L) ∧ ∀ s, k = .f s → ∀ r ∈ s, H1[r]? = (h0 i)[r]?) → (∃ r, lets ops o (Tof ops T v0 (fun q => decide (q < i)) i) = some r ∧
          (r = true → (∀ s, k = .m s → loadsOf o.op (ev E.gl (Tof ops T v0 (fun q => decide (q < i)) i)) = some s) ∧ if k.isL then ∀ L, RunAt E k o (ev E.gl (Tof ops T v0 (fun q => decide (q < i)) i)) x (H0 ++ L) (H0 ++ L)
            else RunAt E k o (ev E.gl (Tof ops T v0 (fun q => decide (q < i)) i)) x (h0 i) H1) ∧ (r = false → x = .v undef ∧ H1 = h0 i)) →
        ∃ (v : Nat → AV) (hp : Nat → Heap), (∀ j, j < i → v j = v0 j) ∧ (∀ j, j ≤ i → hp j = h0 j) ∧ K (Tof ops T v (fun j => decide (j < ops.size)) ops.size) (hp ops.size) ∧
          ∀ j o, i ≤ j → ops[j]? = some o → Fact E ops ks T v hp j o := by
      intro x H1 h1 h2 h2g h3
      have hT : aput (Tof ops T v0 (fun j => decide (j < i)) i) o.dst x = Tof ops T (fun j => if j = i then x else v0 j) (fun j => decide (j < i + 1)) (i + 1) := by
        conv => rhs; unfold Tof
        simp only [Nat.lt_succ_self, decide_true, if_true, ho, Option.bind_some]
        rw [Tof_eq (v2 := fun j => if j = i then x else v0 j) (S2 := fun j => decide (j < i + 1)) i (fun j hj => ⟨by simp; omega, by rw [if_neg (by omega)]⟩)]
      rw [hT] at h1
      have h1' : adraw E ops H0 l (ks.drop (i + 1)) (Tof ops T (fun j => if j = i then x else v0 j) (fun j => decide (j < i + 1)) (i + 1)) ((fun j => if j = i + 1 then H1 else h0 j) (i + 1)) K := by simpa using h1
      obtain ⟨v, hp, k1, k2, k3, k4⟩ := adraw_out l (i + 1) _ (fun j => if j = i + 1 then H1 else h0 j) (by omega) hnext (by simpa using hh0) h1'
      have kv : ∀ j, j < i → v j = v0 j := fun j hj => by rw [k1 j (by omega), if_neg (by omega)]
      have kh : ∀ j, j ≤ i → hp j = h0 j := fun j hj => by rw [k2 j (by omega), if_neg (by omega)]
      have kvi : v i = x := by rw [k1 i (by omega), if_pos rfl]
      have khi : hp (i + 1) = H1 := by rw [k2 (i + 1) (Nat.le_refl _), if_pos rfl]
      refine ⟨v, hp, kv, kh, k3, fun j o' hj ho' => ?_⟩
      by_cases hji : j = i
      · subst hji
        rw [ho] at ho'
        cases ho'
        have hTi : Tof ops T v (fun q => decide (q < j)) j = Tof ops T v0 (fun q => decide (q < j)) j := Tof_eq j (fun q hq => ⟨rfl, kv q hq⟩)
        unfold Fact
        rw [hTi, kvi, khi, kh j (Nat.le_refl _), kh 0 (Nat.zero_le _), hh0, hki]
        exact ⟨h2, h2g, h3⟩
      · exact k4 j o' (by omega) ho'
    unfold adraw at h
    split at h
    · next hr =>
      cases k with
      | q =>
        obtain ⟨x, h1, h2⟩ := h
        exact go x _ h2 (fun _ => rfl) ⟨fun hh => (by cases hh), fun s hh => (by cases hh)⟩ ⟨true, hr, fun _ => ⟨fun s hh => (by cases hh), h1⟩, fun hh => by cases hh⟩
      | l =>
        obtain ⟨x, h1, h2⟩ := h
        exact go x _ h2 (fun _ => rfl) ⟨fun hh => (by cases hh), fun s hh => (by cases hh)⟩ ⟨true, hr, fun _ => ⟨fun s hh => (by cases hh), h1⟩, fun hh => by cases hh⟩
      | b =>
        obtain ⟨x, h1, h2⟩ := h
        exact go x _ h2 (fun _ => rfl) ⟨fun hh => (by cases hh), fun s hh => (by cases hh)⟩ ⟨true, hr, fun _ => ⟨fun s hh => (by cases hh), rfl, h1⟩, fun hh => by cases hh⟩
      | g =>
        obtain ⟨x, B, h1, h2⟩ := h
        exact go x _ h2 (fun hh => by cases hh) ⟨fun _ => ⟨_, rfl⟩, fun s hh => (by cases hh)⟩ ⟨true, hr, fun _ => ⟨fun s hh => (by cases hh), h1⟩, fun hh => by cases hh⟩
      | e =>
        obtain ⟨x, H1, h1, h2⟩ := h
        exact go x _ h2 (fun hh => by cases hh) ⟨fun hh => (by cases hh), fun s hh => (by cases hh)⟩ ⟨true, hr, fun _ => ⟨fun s hh => (by cases hh), h1⟩, fun hh => by cases hh⟩
      | m r =>
        obtain ⟨h3, x, h1, h2⟩ := h
        exact go x _ h2 (fun _ => rfl) ⟨fun hh => (by cases hh), fun s hh => (by cases hh)⟩ ⟨true, hr, fun _ => ⟨fun s hh => (by cases hh; exact h3), h1⟩, fun hh => by cases hh⟩
      | f r =>
        obtain ⟨x, H1, h1, h3, h2⟩ := h
        exact go x _ h2 (fun hh => by cases hh) ⟨fun hh => (by cases hh), fun s hh => (by cases hh; exact keepB_mem h3)⟩ ⟨true, hr, fun _ => ⟨fun s hh => (by cases hh), h1⟩, fun hh => by cases hh⟩
      | p l =>
        obtain ⟨h1, h2⟩ := h
        exact go _ _ h2 (fun _ => rfl) ⟨fun hh => (by cases hh), fun s hh => (by cases hh)⟩ ⟨true, hr, fun _ => ⟨fun s hh => (by cases hh), rfl, rfl, h1⟩, fun hh => by cases hh⟩
      | c j l =>
        obtain ⟨h1, h2⟩ := h
        exact go _ _ h2 (fun _ => rfl) ⟨fun hh => (by cases hh), fun s hh => (by cases hh)⟩ ⟨true, hr, fun _ => ⟨fun s hh => (by cases hh), rfl, rfl, h1⟩, fun hh => by cases hh⟩
    · next hr => exact go (.v undef) (h0 i) h (fun _ => rfl) ⟨fun _ => ⟨[], by simp⟩, fun _ _ _ _ => rfl⟩ ⟨false, hr, fun hh => (by cases hh), fun _ => ⟨rfl, rfl⟩⟩
    · exact h.elim
end Go.Am
