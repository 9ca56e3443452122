/- What slices in memory read as, and the laws on append that the walks use. No condition. -/
import Derived.WalkKit
import Derived.WalkSpells
import Derived.WalkLawsBesides
import Derived.Deep.AppendSrc
import Derived.Lib.Hide
import Derived.Lib.MinMax
import Derived.Deep.Draws
import Derived.WalkSmall
set_option linter.unusedSectionVars false
set_option linter.unusedVariables false
set_option linter.unusedSimpArgs false
set_option linter.deprecated false
namespace Go.Cx
open Go.RowKit

/-- n elements of sz cells each lie behind the address ao; the block is one of G. -/
structure RowAt (G : Nat → Prop) (w : World) (ao : Option Addr) (n cap sz : Nat) (cells : List Value) : Prop where
  len : cells.length = n * sz
  cle : n ≤ cap
  max : cap ≤ maxLen
  one : ∀ u ∈ cells, u.oneCell' = true
  at_ : (n = 0 ∧ (ao = none → cap = 0)) ∨ ∃ b off, ao = some ⟨b, off, none⟩ ∧ G b ∧ ∀ j u, cells[j]? = some u → w.cell? ⟨b, off + j, none⟩ = some u

/-- A type of data, and how its values lie in cells. -/
class Rep (α : Type) where
  sz : Nat
  rd : (Nat → Prop) → World → List Value → α → Prop
  len : ∀ {G w cs x}, rd G w cs x → cs.length = sz
  one : ∀ {G w cs x}, rd G w cs x → ∀ u ∈ cs, u.oneCell' = true
  mono : ∀ {G G' : Nat → Prop} {w w' : World} {cs x}, (∀ b, G b → G' b) → (∀ b, G b → w'.heap[b]? = w.heap[b]?) → rd G w cs x → rd G' w' cs x

open Rep (sz rd)

def RAll {α : Type} [Rep α] (G : Nat → Prop) (w : World) : List Value → List α → Prop
  | cs, [] => cs = []
  | cs, x :: xs => ∃ c r, cs = c ++ r ∧ rd G w c x ∧ RAll G w r xs

/-- The slice value v reads as the list xs. -/
def RSl {α : Type} [Rep α] (G : Nat → Prop) (w : World) (v : Value) (xs : List α) : Prop :=
  ∃ ao cap cells, v = .slice ao xs.length cap ∧ RowAt G w ao xs.length cap (sz α) cells ∧ RAll G w cells xs

section
variable {α : Type} [Rep α] {G G' : Nat → Prop} {w w' : World}

theorem RowAt.mono {ao : Option Addr} {n cap s : Nat} {cells : List Value} (hG : ∀ b, G b → G' b) (hw : ∀ b, G b → w'.heap[b]? = w.heap[b]?)
    (h : RowAt G w ao n cap s cells) : RowAt G' w' ao n cap s cells := by
  refine ⟨h.len, h.cle, h.max, h.one, ?_⟩
  rcases h.at_ with h0 | ⟨b, off, rfl, hg, hc⟩
  · exact .inl h0
  · refine .inr ⟨b, off, rfl, hG b hg, fun j u hj => ?_⟩
    rw [World.cell?_of_block (w := w) (hw b hg)]
    exact hc j u hj

theorem RAll.mono (hG : ∀ b, G b → G' b) (hw : ∀ b, G b → w'.heap[b]? = w.heap[b]?) :
    ∀ {xs : List α} {cs : List Value}, RAll G w cs xs → RAll G' w' cs xs
  | [], _, h => h
  | _ :: _, _, ⟨c, r, e, h1, h2⟩ => ⟨c, r, e, Rep.mono hG hw h1, RAll.mono hG hw h2⟩

theorem RSl.mono {v : Value} {xs : List α} (hG : ∀ b, G b → G' b) (hw : ∀ b, G b → w'.heap[b]? = w.heap[b]?) (h : RSl G w v xs) : RSl G' w' v xs := by
  obtain ⟨ao, cap, cells, e, h1, h2⟩ := h
  exact ⟨ao, cap, cells, e, h1.mono hG hw, h2.mono hG hw⟩

theorem RAll.len : ∀ {xs : List α} {cs : List Value}, RAll G w cs xs → cs.length = xs.length * sz α
  | [], _, h => by simp [RAll] at h; subst h; simp
  | x :: xs, _, ⟨c, r, e, h1, h2⟩ => by
    subst e
    rw [List.length_append, Rep.len h1, RAll.len h2, List.length_cons, Nat.add_mul, Nat.one_mul, Nat.add_comm]

theorem RAll.one : ∀ {xs : List α} {cs : List Value}, RAll G w cs xs → ∀ u ∈ cs, u.oneCell' = true
  | [], _, h => by simp [RAll] at h; subst h; simp
  | x :: xs, _, ⟨c, r, e, h1, h2⟩ => by
    subst e
    intro u hu
    rcases List.mem_append.1 hu with hu | hu
    · exact Rep.one h1 u hu
    · exact RAll.one h2 u hu

theorem RAll.append : ∀ {xs ys : List α} {cs ds : List Value}, RAll G w cs xs → RAll G w ds ys → RAll G w (cs ++ ds) (xs ++ ys)
  | [], ys, cs, ds, h, k => by simp [RAll] at h; subst h; simpa using k
  | x :: xs, ys, _, ds, ⟨c, r, e, h1, h2⟩, k => by
    subst e
    exact ⟨c, r ++ ds, by simp, h1, RAll.append h2 k⟩

theorem RAll.single {x : α} {c : List Value} (h : rd G w c x) : RAll G w c [x] := ⟨c, [], by simp, h, rfl⟩

theorem RAll.drop : ∀ {xs : List α} {cs : List Value} (k : Nat), RAll G w cs xs → RAll G w (cs.drop (k * sz α)) (xs.drop k)
  | xs, cs, 0, h => by simpa using h
  | [], cs, k + 1, h => by simp [RAll] at h; subst h; simp [RAll]
  | x :: xs, _, k + 1, ⟨c, r, e, h1, h2⟩ => by
    subst e
    have hl := Rep.len h1
    rw [List.drop_succ_cons, Nat.add_mul, Nat.one_mul, Nat.add_comm, ← List.drop_drop, ← hl, List.drop_left, hl]
    exact RAll.drop k h2

theorem RAll.take : ∀ {xs : List α} {cs : List Value} (k : Nat), RAll G w cs xs → RAll G w (cs.take (k * sz α)) (xs.take k)
  | xs, cs, 0, h => by simp [RAll]
  | [], cs, k + 1, h => by simp [RAll] at h; subst h; simp [RAll]
  | x :: xs, _, k + 1, ⟨c, r, e, h1, h2⟩ => by
    subst e
    have hl := Rep.len h1
    refine ⟨c, r.take (k * sz α), ?_, h1, RAll.take k h2⟩
    rw [Nat.add_mul, Nat.one_mul, Nat.add_comm, ← hl, List.take_append, List.take_of_length_le (by omega)]
    congr 2
    omega

theorem RAll.get : ∀ {xs : List α} {cs : List Value} {i : Nat} {x : α}, RAll G w cs xs → xs[i]? = some x → rd G w ((cs.drop (i * sz α)).take (sz α)) x
  | [], cs, i, x, h, hi => by simp at hi
  | x :: xs, _, 0, y, ⟨c, r, e, h1, h2⟩, hi => by
    subst e
    simp at hi
    subst hi
    rw [Nat.zero_mul, List.drop_zero, ← Rep.len h1, List.take_left]
    exact h1
  | x :: xs, _, k + 1, y, ⟨c, r, e, h1, h2⟩, hi => by
    subst e
    have hl := Rep.len h1
    rw [Nat.add_mul, Nat.one_mul, Nat.add_comm, ← List.drop_drop, ← hl, List.drop_left, hl]
    exact RAll.get h2 (by simpa using hi)
end

/-! ### Types of one cell -/
instance : Rep UInt8 where
  sz := 1
  rd _ _ cs x := cs = [.int .u8 (x.toNat : Int)]
  len h := by subst h; rfl
  one h := by subst h; simp [Value.oneCell']
  mono _ _ h := h

instance : Rep UInt16 where
  sz := 1
  rd _ _ cs x := cs = [.int .u16 (x.toNat : Int)]
  len h := by subst h; rfl
  one h := by subst h; simp [Value.oneCell']
  mono _ _ h := h

instance : Rep UInt32 where
  sz := 1
  rd _ _ cs x := cs = [.int .u32 (x.toNat : Int)]
  len h := by subst h; rfl
  one h := by subst h; simp [Value.oneCell']
  mono _ _ h := h

instance : Rep UInt64 where
  sz := 1
  rd _ _ cs x := cs = [.int .u64 (x.toNat : Int)]
  len h := by subst h; rfl
  one h := by subst h; simp [Value.oneCell']
  mono _ _ h := h

instance : Rep Int where
  sz := 1
  rd _ _ cs x := cs = [.int .i64 x] ∧ -9223372036854775808 ≤ x ∧ x ≤ 9223372036854775807
  len h := by rw [h.1]; rfl
  one h := by rw [h.1]; simp [Value.oneCell']
  mono _ _ h := h

instance : Rep Bool where
  sz := 1
  rd _ _ cs x := cs = [.bool x]
  len h := by subst h; rfl
  one h := by subst h; simp [Value.oneCell']
  mono _ _ h := h

instance : Rep ByteArray where
  sz := 1
  rd _ _ cs x := cs = [.string x] ∧ x.size ≤ maxLen
  len h := by rw [h.1]; rfl
  one h := by rw [h.1]; simp [Value.oneCell']
  mono _ _ h := h

/-- Slices: one cell; what it leads to reads in G. -/
instance {α : Type} [Rep α] : Rep (List α) where
  sz := 1
  rd G w cs xs := ∃ v, cs = [v] ∧ RSl G w v xs
  len := by rintro _ _ _ _ ⟨v, rfl, _⟩; rfl
  one := by
    rintro _ _ _ _ ⟨v, rfl, ao, cap, cells, rfl, _⟩
    simp [Value.oneCell']
  mono hG hw := by
    rintro ⟨v, rfl, h⟩
    exact ⟨v, rfl, h.mono hG hw⟩

/-! ### Bytes -/
def bv (b : UInt8) : Value := .int .u8 (b.toNat : Int)

theorem RAll_bytes {G : Nat → Prop} {w : World} : ∀ {l : List UInt8} {cs : List Value}, RAll G w cs l ↔ cs = l.map bv
  | [], cs => by simp [RAll]
  | x :: xs, cs => by
    constructor
    · rintro ⟨c, r, rfl, h1, h2⟩
      have h1' : c = [.int .u8 (x.toNat : Int)] := h1
      subst h1'
      rw [RAll_bytes] at h2
      subst h2
      rfl
    · rintro rfl
      exact ⟨[bv x], xs.map bv, rfl, rfl, RAll_bytes.2 rfl⟩

/-- What a slice of bytes gives to a walk. -/
theorem RSl.bytes {G : Nat → Prop} {w : World} {v : Value} {l : List UInt8} (h : RSl G w v l) :
    ∃ ao cap, v = .slice ao l.length cap ∧ RowAt G w ao l.length cap 1 (l.map bv) := by
  obtain ⟨ao, cap, cells, rfl, h1, h2⟩ := h
  rw [RAll_bytes] at h2
  subst h2
  exact ⟨ao, cap, rfl, h1⟩

theorem RSl.of_bytes {G : Nat → Prop} {w : World} {ao : Option Addr} {cap n : Nat} {l : List UInt8} (hn : l.length = n) (h : RowAt G w ao n cap 1 (l.map bv)) :
    RSl G w (.slice ao n cap) l := by
  subst hn
  exact ⟨ao, cap, _, rfl, h, RAll_bytes.2 rfl⟩

theorem heap_at_new {w : World} {o : Obj} {n : Nat} (h : n = w.heap.size) : (w.alloc o).heap[n]? = some o := by
  subst h
  exact heap_alloc_new w o

/-! ### append onto a row of the call's own -/
section
variable {P : Program} {w : World}

theorem run_append_src {t tx ty e : TypeId} {i : TypeInfo} {z : Value} {size bytes base : Nat} (ht : P.underlying t = some (.slice e)) (hi : P.info? e = some i) (hz : i.zero = some z)
    (hsize : i.size = size) (hby : i.bytes = bytes) (hzs : z.cells.size = size)
    {v : Value} {n : Nat} {xs : List Value} (hown : w.ownsRow base e size v n xs) {x : Value} {m : Nat} {news : List Value} (hs : Src P size tx x m news w)
    (h63 : n + m ≤ maxLen) (hbytes : (n + m) * bytes ≤ 140737488355328) (hbase : base ≤ w.heap.size) :
    ∃ v' w', (Builtin.append_ #[t, tx] ty #[v, x]).run P w = .ok v' w' ∧ w'.ownsRow base e size v' (n + m) (xs ++ news) ∧ w.grownBy w' v.ownBlock ∧
      (v'.ownBlock = v.ownBlock ∨ v'.ownBlock = some w.heap.size ∧ w.heap.size < w'.heap.size) ∧ w'.heap.size ≤ w.heap.size + 1 ∧
      (∀ g j, v.ownBlock = some g → j < n * size → w'.cell? ⟨g, j, none⟩ = w.cell? ⟨g, j, none⟩) := by
  subst hsize
  subst hby
  have hsmall : n + m ≤ 9223372036854775807 := by simp only [maxLen] at h63; omega
  have hlen : (xs ++ news).length = (n + m) * i.size := by rw [List.length_append, hown.1, hs.newsLen, Nat.add_mul]
  have grown : ∀ (old : Nat), old < n + m → ∀ (row : Option Nat),
      (w.drew.alloc (.cells ((xs ++ news).toArray ++ Builtin.zeroCells z.cells (grownCap w (n + m) old e - (n + m))) e)).ownsRow base e i.size
        (.slice (some ⟨w.heap.size, 0, none⟩) (n + m) (grownCap w (n + m) old e)) (n + m) (xs ++ news) ∧
      w.grownBy (w.drew.alloc (.cells ((xs ++ news).toArray ++ Builtin.zeroCells z.cells (grownCap w (n + m) old e - (n + m))) e)) row := by
    intro old ho row
    have hge := grownCap_ge w (n + m) old e
    have hcm : grownCap w (n + m) old e ≤ maxLen := grownCap_le_maxLen w (n + m) old e h63
    refine ⟨⟨hlen, .inr ⟨w.heap.size, _, _, rfl, hbase, heap_alloc_new w.drew _, hge, hcm, ?_, ?_⟩⟩, ⟨rfl, rfl, rfl, by simp, fun k hk _ => Go.heap_alloc_old w.drew _ hk⟩⟩
    · rw [Array.size_append, List.size_toArray, size_zeroCells, hzs, hlen, ← Nat.add_mul]
      congr 1
      omega
    · rw [Array.toList_append, ← hlen]
      exact List.take_left
  rcases hown.2 with ⟨rfl, rfl⟩ | ⟨g, cap, cur, rfl, hbg, hg, hnc, hcm, hcs, htake⟩
  · have hx : xs = [] := List.eq_nil_of_length_eq_zero (by simpa using hown.1)
    subst hx
    by_cases hm : m = 0
    · subst hm
      have hn : news = [] := List.eq_nil_of_length_eq_zero (by simpa using hs.newsLen)
      subst hn
      refine ⟨.slice none 0 0, w, ?_, World.ownsRow_nil w base e i.size, ⟨rfl, rfl, rfl, Nat.le_refl _, fun _ _ _ => rfl⟩, .inl rfl, by omega, fun _ _ _ _ => rfl⟩
      have hl := hs.len
      have hc := hs.cells
      rcases hs.kind with ⟨e', hk⟩ | hk <;> simp [Builtin.append_, run_underlying ht, run_underlying hk, sizeOf, typeInfo, hi, hl, hc]
    · have hr := run_append_grow_src (P := P) w t tx ty e i z ht hi hz none 0 0 [] (run_firstCells_none w.drew i.size 0 0 0) x m news hs (by omega) (by omega)
        (growslice_fits (by omega) (by simpa using hbytes))
      have hgr := grown 0 (by omega) (Value.ownBlock (.slice none 0 0))
      simp only [Nat.zero_add, List.nil_append] at hgr hr ⊢
      exact ⟨_, _, hr, hgr.1, hgr.2, .inr ⟨rfl, by simp⟩, by simp, fun g j hg _ => by simp [Value.ownBlock] at hg⟩
  · by_cases hroom : n + m ≤ cap
    · have hfit : n * i.size + news.length ≤ cur.size := by rw [hs.newsLen, hcs, ← Nat.add_mul]; exact Nat.mul_le_mul_right _ hroom
      have hst := run_storeCells_at P g (n * i.size) e news 0 cur w hg (by simpa using hfit) hs.one
      simp only [Nat.add_zero] at hst
      have hr : (Builtin.append_ #[t, tx] ty #[.slice (some ⟨g, 0, none⟩) n cap, x]).run P w =
          .ok (.slice (some ⟨g, 0, none⟩) (n + m) cap) (w.setRow g (cur.toList.take (n * i.size) ++ news ++ cur.toList.drop (n * i.size + news.length)).toArray) := by
        have hl := hs.len
        have hc := hs.cells
        rcases hs.kind with ⟨e', hk⟩ | hk <;> simp [Builtin.append_, run_underlying ht, run_underlying hk, sizeOf, typeInfo, hi, hl, hroom, hc, Addr.add_lit, hst]
      refine ⟨_, _, hr, ⟨hlen, .inr ⟨g, cap, _, rfl, hbg, setRow_heap w g cur _ e _ hg, hroom, hcm, ?_, ?_⟩⟩, ⟨rfl, rfl, rfl, by simp, fun k _ hk => setRow_other w g k _ (fun e => hk (by simp [Value.ownBlock, e]))⟩, .inl rfl, by simp, ?_⟩
      · simp only [List.size_toArray, List.length_append, List.length_take, List.length_drop, Array.length_toList]
        omega
      · rw [htake, ← hlen]
        exact List.take_left
      · intro g' j hg' hj
        simp only [Value.ownBlock, Option.some.injEq] at hg'
        subst hg'
        rw [cell_of_row _ g j _ e _ (setRow_heap w g cur _ e _ hg), cell_of_row w g j cur e _ hg, List.getElem?_toArray, List.append_assoc, List.getElem?_append_left (by simp; omega), List.getElem?_take, if_pos hj]
        simp
    · have holds : ∀ j u, xs[j]? = some u → w.drew.cell? ((⟨g, 0, none⟩ : Addr).add j) = some u := hown.cells (g := g) rfl
      have hr := run_append_grow_src (P := P) w t tx ty e i z ht hi hz (some ⟨g, 0, none⟩) n cap xs
        (run_firstCells_some w.drew i.size n ⟨g, 0, none⟩ n cap xs hown.1 holds) x m news hs (by omega) (by omega) (growslice_fits (by omega) hbytes)
      have hgr := grown cap (by omega) (Value.ownBlock (.slice (some ⟨g, 0, none⟩) n cap))
      exact ⟨_, _, hr, hgr.1, hgr.2, .inr ⟨rfl, by simp⟩, by simp, fun g' j hg' _ => by
        simp only [Value.ownBlock, Option.some.injEq] at hg'
        subst hg'
        exact World.cell?_alloc_lt w.drew _ ⟨g, j, none⟩ (Array.getElem?_eq_some_iff.1 hg).1⟩
end

/-- v is a row of the call's own, from block base on, that may be appended to: it reads as xs; what its elements lead to lies in other blocks. -/
def Own {α : Type} [Rep α] (w : World) (base : Nat) (e : TypeId) (v : Value) (xs : List α) (lo : Nat := 0) : Prop :=
  ∃ cells, w.ownsRow base e (sz α) v xs.length cells ∧ RAll (fun b => b < w.heap.size ∧ some b ≠ v.ownBlock ∧ lo ≤ b) w cells xs

/-- What append takes. -/
def Srcs {α : Type} [Rep α] (P : Program) (G : Nat → Prop) (w : World) (tx : TypeId) (v : Value) (ys : List α) : Prop :=
  ∃ cells, Src P (sz α) tx v ys.length cells w ∧ RAll G w cells ys

theorem Appended_ne {w w' : World} {v v' : Value} (h : v'.ownBlock = v.ownBlock ∨ v'.ownBlock = some w.heap.size ∧ w.heap.size < w'.heap.size) {b : Nat} (hb : b < w.heap.size) (hne : some b ≠ v.ownBlock) : some b ≠ v'.ownBlock := by
  rcases h with h | ⟨h, _⟩
  · rw [h]; exact hne
  · rw [h]; intro he; simp at he; omega

section
variable {P : Program} {w : World} {α : Type} [Rep α]

theorem Own.nil (w : World) (base : Nat) (e : TypeId) (lo : Nat := 0) : Own w base e (.slice none 0 0) ([] : List α) lo :=
  ⟨[], World.ownsRow_nil w base e (sz α), rfl⟩

theorem Own.empty {base g lo : Nat} {e : TypeId} (hg : w.heap[g]? = some (.cells #[] e (0, 0))) (hb : base ≤ g) : Own w base e (.slice (some ⟨g, 0, none⟩) 0 0) ([] : List α) lo :=
  ⟨[], ⟨by simp, .inr ⟨g, 0, #[], rfl, hb, hg, Nat.le_refl _, Nat.zero_le _, by simp, by simp⟩⟩, rfl⟩

/-- A row of the call's own as a result. -/
theorem Own.rsl {base lo : Nat} {e : TypeId} {v : Value} {xs : List α} (h : Own w base e v xs lo) : RSl (fun b => b < w.heap.size) w v xs := by
  obtain ⟨cells, ⟨hl, ho⟩, ha⟩ := h
  rcases ho with ⟨rfl, hn⟩ | ⟨g, cap, cur, rfl, hb, hg, h1, h2, h3, h4⟩
  · have hx : xs = [] := List.eq_nil_of_length_eq_zero hn
    subst hx
    refine ⟨none, 0, cells, rfl, ⟨hl, Nat.le_refl _, Nat.zero_le _, ha.one, .inl ⟨rfl, fun _ => rfl⟩⟩, ha.mono (fun b hb => hb.1) (fun _ _ => rfl)⟩
  · refine ⟨_, _, cells, rfl, ⟨hl, h1, h2, ha.one, .inr ⟨g, 0, rfl, (Array.getElem?_eq_some_iff.1 hg).1, fun j u hj => ?_⟩⟩, ha.mono (fun b hb => hb.1) (fun _ _ => rfl)⟩
    rw [Nat.zero_add, cell_of_row w g j cur e (0, 0) hg]
    rw [← h4, List.getElem?_take] at hj
    split at hj
    · simpa using hj
    · cases hj

/-- A row of the call's own, as a result in new memory. -/
theorem Own.fresh_any {base : Nat} {e : TypeId} {v : Value} {xs : List α} (h : Own w base e v xs base) : RSl (fun b => base ≤ b ∧ b < w.heap.size) w v xs := by
  obtain ⟨cells, ⟨hl, ho⟩, ha⟩ := h
  rcases ho with ⟨rfl, hn⟩ | ⟨g, cap, cur, rfl, hb, hg, h1, h2, h3, h4⟩
  · have hx : xs = [] := List.eq_nil_of_length_eq_zero hn
    subst hx
    refine ⟨none, 0, cells, rfl, ⟨hl, Nat.le_refl _, Nat.zero_le _, ha.one, .inl ⟨rfl, fun _ => rfl⟩⟩, ha.mono (fun b hb => ⟨hb.2.2, hb.1⟩) (fun _ _ => rfl)⟩
  · refine ⟨_, _, cells, rfl, ⟨hl, h1, h2, ha.one, .inr ⟨g, 0, rfl, ⟨hb, (Array.getElem?_eq_some_iff.1 hg).1⟩, fun j u hj => ?_⟩⟩, ha.mono (fun b hb => ⟨hb.2.2, hb.1⟩) (fun _ _ => rfl)⟩
    rw [Nat.zero_add, cell_of_row w g j cur e (0, 0) hg]
    rw [← h4, List.getElem?_take] at hj
    split at hj
    · simpa using hj
    · cases hj

theorem Own.bytes_lo {base lo lo' : Nat} {e : TypeId} {v : Value} {xs : List UInt8} (h : Own w base e v xs lo) : Own w base e v xs lo' := by
  obtain ⟨cells, h1, ha⟩ := h
  rw [RAll_bytes] at ha
  exact ⟨cells, h1, RAll_bytes.2 ha⟩

theorem Own.fresh {base : Nat} {e : TypeId} {v : Value} {xs : List UInt8} (h : Own w base e v xs) : RSl (fun b => base ≤ b ∧ b < w.heap.size) w v xs := (Own.bytes_lo h).fresh_any

theorem addr_add (b off j : Nat) : (⟨b, off, none⟩ : Addr).add j = ⟨b, off + j, none⟩ := by
  unfold Addr.add
  split <;> simp_all

theorem RowAt.src {G : Nat → Prop} {ao : Option Addr} {n cap s : Nat} {cells : List Value} {tx e' : TypeId} (hk : P.underlying tx = some (.slice e')) (h : RowAt G w ao n cap s cells) :
    Src P s tx (.slice ao n cap) n cells w := by
  rcases h.at_ with ⟨rfl, hz⟩ | ⟨b, off, rfl, _, hc⟩
  · have : cells = [] := List.eq_nil_of_length_eq_zero (by simpa using h.len)
    subst this
    cases ao with
    | none => exact Src.ofNil w hk cap
    | some a => exact Src.ofSlice w hk a 0 cap [] (by simp) (fun j u hj => by simp at hj) (by simp)
  · exact Src.ofSlice w hk _ n cap cells h.len (fun j u hj => by rw [addr_add]; exact hc j u hj) h.one

theorem RSl.srcs {G : Nat → Prop} {v : Value} {ys : List α} {tx e' : TypeId} (hk : P.underlying tx = some (.slice e')) (h : RSl G w v ys) : Srcs P G w tx v ys := by
  obtain ⟨ao, cap, cells, rfl, h1, h2⟩ := h
  exact ⟨cells, h1.src hk, h2⟩

/-- Behind an append: the row, and which block it is. -/
structure Appended (w w' : World) (v v' : Value) (k : Nat) : Prop where
  by_ : w.grownBy w' v.ownBlock
  blk : v'.ownBlock = v.ownBlock ∨ v'.ownBlock = some w.heap.size ∧ w.heap.size < w'.heap.size
  few : w'.heap.size ≤ w.heap.size + 1
  old : ∀ g j, v.ownBlock = some g → j < k → w'.cell? ⟨g, j, none⟩ = w.cell? ⟨g, j, none⟩

theorem Appended.ne {w' : World} {v v' : Value} {k : Nat} (h : Appended w w' v v' k) {b : Nat} (hb : b < w.heap.size) (hne : some b ≠ v.ownBlock) : some b ≠ v'.ownBlock := Appended_ne h.blk hb hne
theorem Appended.keep {w' : World} {v v' : Value} {k : Nat} (h : Appended w w' v v' k) {b : Nat} {o : Obj} (hx : w.heap[b]? = some o) (hne : some b ≠ v.ownBlock) : w'.heap[b]? = some o :=
  (h.by_.block b (Array.getElem?_eq_some_iff.1 hx).1 hne).trans hx

theorem run_append {t tx ty e : TypeId} {z : Value} {bytes base lo : Nat} (ht : P.underlying t = some (.slice e))
    (hi : (P.info? e).map (fun i => (i.zero, i.size, i.bytes)) = some (some z, sz α, bytes)) (hzs : z.cells.size = sz α)
    {v : Value} {xs : List α} (hown : Own w base e v xs lo) {x : Value} {ys : List α} (hs : Srcs P (fun b => b < w.heap.size ∧ some b ≠ v.ownBlock ∧ lo ≤ b) w tx x ys)
    (hn : xs.length + ys.length ≤ 137438953472) (hb : bytes ≤ 1024) (hbase : base ≤ w.heap.size) :
    ∃ v' w', (Builtin.append_ #[t, tx] ty #[v, x]).run P w = .ok v' w' ∧ Own w' base e v' (xs ++ ys) lo ∧ Appended w w' v v' (xs.length * sz α) := by
  obtain ⟨i, hi1, hz1, hz2, hz3⟩ := info_parts hi
  obtain ⟨cells, ho, ha⟩ := hown
  obtain ⟨news, hs, hn'⟩ := hs
  obtain ⟨v', w', hr, h1, h2, h3, h4, h5⟩ := run_append_src (ty := ty) ht hi1 hz1 hz2 hz3 hzs ho hs (by unfold maxLen; omega)
    (Nat.le_trans (Nat.mul_le_mul hn hb) (by omega)) hbase
  refine ⟨v', w', hr, ⟨cells ++ news, by rw [List.length_append]; exact h1, ?_⟩, ⟨h2, h3, h4, h5⟩⟩
  have hG : ∀ b, (b < w.heap.size ∧ some b ≠ v.ownBlock ∧ lo ≤ b) → (b < w'.heap.size ∧ some b ≠ v'.ownBlock ∧ lo ≤ b) := by
    rintro b ⟨hb1, hb2, hb3⟩
    refine ⟨Nat.lt_of_lt_of_le hb1 h2.size, ?_, hb3⟩
    rcases h3 with h3 | ⟨h3, _⟩
    · rw [h3]; exact hb2
    · rw [h3]; intro hc; simp at hc; omega
  have hw : ∀ b, (b < w.heap.size ∧ some b ≠ v.ownBlock ∧ lo ≤ b) → w'.heap[b]? = w.heap[b]? := fun b hb => h2.block b hb.1 hb.2.1
  exact (ha.mono hG hw).append (hn'.mono hG hw)

theorem wpList_append {ops : Array Oper} {rest : List Oper} {o : Oper} {a : Act} {Q : Exit → Act → World → Prop} (hgd : o.guard = none) {s x : Operand} {t tx e : TypeId}
    (ho : o.op = .call { callee := .builtin .append, args := #[s, x], argTypes := #[t, tx] })
    {z : Value} {bytes base lo : Nat} (ht : P.underlying t = some (.slice e)) (hi : (P.info? e).map (fun i => (i.zero, i.size, i.bytes)) = some (some z, sz α, bytes)) (hzs : z.cells.size = sz α)
    {v vx : Value} {xs ys : List α} (hs : a.eval s = v) (hx : a.eval x = vx) (hown : Own w base e v xs lo) (hsrc : Srcs P (fun b => b < w.heap.size ∧ some b ≠ v.ownBlock ∧ lo ≤ b) w tx vx ys)
    (hn : xs.length + ys.length ≤ 137438953472) (hb : bytes ≤ 1024) (hbase : base ≤ w.heap.size)
    (h : ∀ v' w', Own w' base e v' (xs ++ ys) lo → Appended w w' v v' (xs.length * Rep.sz α) → wpList P ops Q rest (a.put o.dst v') w') : wpList P ops Q (o :: rest) a w :=
  wpList_plain hgd fun _ hK => by
    obtain ⟨v', w', hr, h2, h3⟩ := run_append (P := P) (ty := o.type) ht hi hzs hown hsrc hn hb hbase
    unfold Oper.wp execOp
    simp only [ho, resolve, invoke, builtin, Sem.run_bind, Sem.run_pure, Result.andThen_ok, List.map_toArray, List.map_cons, List.map_nil, hs, hx, hr]
    exact hK _ _ (h v' w' h2 h3)
end

theorem bv_one (l : List UInt8) : ∀ u ∈ l.map bv, u.oneCell' = true := by
  intro u hu
  obtain ⟨x, _, rfl⟩ := List.mem_map.1 hu
  rfl

/-- What an append of bytes takes, by their cells. -/
theorem srcs_bytes {P : Program} {G : Nat → Prop} {w : World} {tx e' : TypeId} (hk : P.underlying tx = some (.slice e')) {b off n c : Nat} {l : List UInt8} (hn : n = l.length)
    (hc : ∀ j u, (l.map bv)[j]? = some u → w.cell? ⟨b, off + j, none⟩ = some u) : Srcs P G w tx (.slice (some ⟨b, off, none⟩) n c) l := by
  subst hn
  exact ⟨l.map bv, Src.ofSlice w hk _ _ c _ (by simp [Rep.sz]) (fun j u hj => by rw [addr_add]; exact hc j u hj) (bv_one l), RAll_bytes.2 rfl⟩

/-- Bytes that are the head of a block. -/
theorem rsl_block {G : Nat → Prop} {w : World} {g n cap : Nat} {cur : Array Value} {e : TypeId} {fr : Nat × Nat} {l : List UInt8} (hg : w.heap[g]? = some (.cells cur e fr))
    (hc : cur.toList.take n = l.map bv) (hn : n = l.length) (h1 : n ≤ cap) (h2 : cap ≤ maxLen) (hG : G g) : RSl G w (.slice (some ⟨g, 0, none⟩) n cap) l := by
  subst hn
  refine RSl.of_bytes rfl ⟨by simp, h1, h2, bv_one l, .inr ⟨g, 0, rfl, hG, fun j u hj => ?_⟩⟩
  rw [Nat.zero_add, cell_of_row w g j cur e fr hg]
  rw [← hc, List.getElem?_take] at hj
  split at hj
  · simpa using hj
  · cases hj

/-- One element that lies in a block of its own ('append(out, x)'). -/
theorem srcs_one {α : Type} [Rep α] {P : Program} {G : Nat → Prop} {w : World} {tx e' : TypeId} (hk : P.underlying tx = some (.slice e')) {g c : Nat} {cs : Array Value} {t : TypeId} {fr : Nat × Nat} {x : α}
    (hg : w.heap[g]? = some (.cells cs t fr)) (hr : Rep.rd G w cs.toList x) : Srcs P G w tx (.slice (some ⟨g, 0, none⟩) 1 c) [x] :=
  ⟨cs.toList, Src.ofSlice w hk _ 1 c _ (by rw [Rep.len hr, Nat.one_mul]) (fun j u hj => by rw [addr_add, Nat.zero_add, cell_of_row w g j cs t fr hg]; simpa using hj) (Rep.one hr), RAll.single hr⟩

theorem Own.grown {α : Type} [Rep α] {w w' : World} {base lo : Nat} {e : TypeId} {v : Value} {xs : List α} {row : Option Nat} (h : Own w base e v xs lo) (hg : w.grownBy w' row)
    (hne : v.ownBlock = none ∨ v.ownBlock ≠ row) (hr : ∀ b, b < w.heap.size → some b ≠ v.ownBlock → w'.heap[b]? = w.heap[b]?) : Own w' base e v xs lo := by
  obtain ⟨cells, ho, ha⟩ := h
  exact ⟨cells, ho.kept hg hne, ha.mono (fun b hb => ⟨Nat.lt_of_lt_of_le hb.1 hg.size, hb.2⟩) (fun b hb => hr b hb.1 hb.2.1)⟩

theorem Own.alloc {α : Type} [Rep α] {w : World} {base lo : Nat} {e : TypeId} {v : Value} {xs : List α} (h : Own w base e v xs lo) (o : Obj) : Own (w.alloc o) base e v xs lo :=
  h.grown (World.grownBy_alloc w o none) (by cases hv : v.ownBlock <;> simp) (fun b hb _ => heap_alloc_old w o hb)

theorem Own.drew {α : Type} [Rep α] {w : World} {base lo : Nat} {e : TypeId} {v : Value} {xs : List α} (h : Own w base e v xs lo) : Own w.drew base e v xs lo := by
  obtain ⟨cells, ho, ha⟩ := h
  exact ⟨cells, ho, RAll.mono (G := fun b => b < w.heap.size ∧ some b ≠ v.ownBlock ∧ lo ≤ b) (w := w) (w' := w.drew) (fun _ h => h) (fun _ _ => rfl) ha⟩

/-- behind a call that leaves all older blocks alone -/
theorem Own.below {α : Type} [Rep α] {w w' : World} {base lo : Nat} {e : TypeId} {v : Value} {xs : List α} (h : Own w base e v xs lo) (hb : Below w.heap.size w w') : Own w' base e v xs lo :=
  h.grown (row := none) ⟨hb.os, hb.tape, hb.output, hb.size, fun k hk _ => hb.block k hk⟩ (by cases hv : v.ownBlock <;> simp) (fun b h1 _ => hb.block b h1)

theorem Own.lt {α : Type} [Rep α] {w : World} {base lo : Nat} {e : TypeId} {v : Value} {xs : List α} (h : Own w base e v xs lo) : ∀ k, v.ownBlock = some k → base ≤ k ∧ k < w.heap.size := by
  obtain ⟨cells, ho, _⟩ := h
  exact ho.lt

/-- The value, written out. -/
theorem Own.val {α : Type} [Rep α] {w : World} {base lo : Nat} {e : TypeId} {v : Value} {xs : List α} (h : Own w base e v xs lo) : ∃ ao cap, v = .slice ao xs.length cap := by
  obtain ⟨cells, ⟨_, h⟩, _⟩ := h
  rcases h with ⟨rfl, hn⟩ | ⟨g, cap, cur, rfl, _⟩
  · exact ⟨none, 0, by rw [hn]⟩
  · exact ⟨_, cap, rfl⟩

/-- What was appended to still reads as it did, by its old value. -/
theorem Appended.stay {α : Type} [Rep α] {w w' : World} {base lo : Nat} {e : TypeId} {v v' : Value} {xs : List α} (h : Appended w w' v v' (xs.length * Rep.sz α)) (ho : Own w base e v xs lo) :
    RSl (fun b => b < w'.heap.size) w' v xs := by
  obtain ⟨cells, ⟨hl, ho⟩, ha⟩ := ho
  have ha' : RAll (fun b => b < w'.heap.size) w' cells xs := ha.mono (fun b hb => Nat.lt_of_lt_of_le hb.1 h.by_.size) (fun b hb => h.by_.block b hb.1 hb.2.1)
  rcases ho with ⟨rfl, hn⟩ | ⟨g, cap, cur, rfl, hb, hg, h1, h2, h3, h4⟩
  · have hx : xs = [] := List.eq_nil_of_length_eq_zero hn
    subst hx
    exact ⟨none, 0, cells, rfl, ⟨hl, Nat.le_refl _, Nat.zero_le _, ha.one, .inl ⟨rfl, fun _ => rfl⟩⟩, ha'⟩
  · refine ⟨_, _, cells, rfl, ⟨hl, h1, h2, ha.one, .inr ⟨g, 0, rfl, Nat.lt_of_lt_of_le (Array.getElem?_eq_some_iff.1 hg).1 h.by_.size, fun j u hj => ?_⟩⟩, ha'⟩
    have hjl : j < xs.length * Rep.sz α := by
      have := (List.getElem?_eq_some_iff.1 hj).1
      omega
    rw [Nat.zero_add, h.old g j rfl hjl, cell_of_row w g j cur e (0, 0) hg]
    rw [← h4, List.getElem?_take, if_pos hjl] at hj
    simpa using hj

theorem step_append {α : Type} [Rep α] {P : Program} {w : World} {ops : Array Oper} {o : Oper} {a : Act} {K : Act → World → Prop} {Q : Exit → Act → World → Prop} {E : Prop} (hgd : o.guard = none) {s x : Operand} {t tx e : TypeId}
    (ho : o.op = .call { callee := .builtin .append, args := #[s, x], argTypes := #[t, tx] })
    {z : Value} {bytes base lo : Nat} (ht : P.underlying t = some (.slice e)) (hi : (P.info? e).map (fun i => (i.zero, i.size, i.bytes)) = some (some z, Rep.sz α, bytes)) (hzs : z.cells.size = Rep.sz α)
    {v vx : Value} {xs ys : List α} (hs : a.eval s = v) (hx : a.eval x = vx) (hown : Own w base e v xs lo) (hsrc : Srcs P (fun b => b < w.heap.size ∧ some b ≠ v.ownBlock ∧ lo ≤ b) w tx vx ys)
    (hn : xs.length + ys.length ≤ 137438953472) (hb : bytes ≤ 1024) (hbase : base ≤ w.heap.size)
    (h : ∀ v' w', Own w' base e v' (xs ++ ys) lo → Appended w w' v v' (xs.length * Rep.sz α) → K (a.put o.dst v') w') :
    if Region.wanted o (yielded ops a.tmps) = true then Oper.wp P o a w K Q else E := by
  rw [if_pos (by simp [Region.wanted, hgd])]
  obtain ⟨v', w', hr, h2, h3⟩ := run_append (P := P) (ty := o.type) ht hi hzs hown hsrc hn hb hbase
  unfold Oper.wp execOp
  simp only [ho, resolve, invoke, builtin, Sem.run_bind, Sem.run_pure, Result.andThen_ok, List.map_toArray, List.map_cons, List.map_nil, hs, hx, hr]
  exact h v' w' h2 h3

/-- Blocks from before the call are none of a row of the call's own. -/
theorem Own.avoid {α : Type} [Rep α] {w : World} {base lo : Nat} {e : TypeId} {v : Value} {xs : List α} (h : Own w base e v xs lo) (hB : base ≤ w.heap.size) : ∀ b, b < base → b < w.heap.size ∧ some b ≠ v.ownBlock := by
  intro b hb
  refine ⟨by omega, fun he => ?_⟩
  have := (h.lt b he.symm).1
  omega

theorem RowAt.front {G : Nat → Prop} {w : World} {ao : Option Addr} {n cap s : Nat} {cells : List Value} (h : RowAt G w ao n cap s cells) {m : Nat} (hm : m ≤ n) :
    RowAt G w ao m cap s (cells.take (m * s)) := by
  refine ⟨?_, Nat.le_trans hm h.cle, h.max, fun u hu => h.one u (List.mem_of_mem_take hu), ?_⟩
  · rw [List.length_take, h.len]
    exact Nat.min_eq_left (Nat.mul_le_mul_right _ hm)
  · rcases h.at_ with ⟨h1, h2⟩ | ⟨b, off, h1, h2, h3⟩
    · exact .inl ⟨by omega, h2⟩
    · refine .inr ⟨b, off, h1, h2, fun j u hj => ?_⟩
      rw [List.getElem?_take] at hj
      split at hj
      · exact h3 j u hj
      · cases hj

theorem RSl.srcsB {P : Program} {G G' : Nat → Prop} {w : World} {v : Value} {l : List UInt8} {tx e' : TypeId} (hk : P.underlying tx = some (.slice e')) (h : RSl G w v l) : Srcs P G' w tx v l := by
  obtain ⟨ao, cap, rfl, h1⟩ := h.bytes
  exact ⟨_, h1.src hk, RAll_bytes.2 rfl⟩

theorem RowAt.srcsB {P : Program} {G G' : Nat → Prop} {w : World} {ao : Option Addr} {n cap : Nat} {l : List UInt8} {tx e' : TypeId} (hk : P.underlying tx = some (.slice e')) (hn : n = l.length) (h : RowAt G w ao n cap 1 (l.map bv)) :
    Srcs P G' w tx (.slice ao n cap) l := by
  subst hn
  exact ⟨_, h.src hk, RAll_bytes.2 rfl⟩

theorem RSl.nil {α : Type} [Rep α] (G : Nat → Prop) (w : World) : RSl G w (.slice none 0 0) ([] : List α) :=
  ⟨none, 0, [], rfl, ⟨by simp, Nat.le_refl _, Nat.zero_le _, by simp, .inl ⟨rfl, fun _ => rfl⟩⟩, rfl⟩

/-- Behind a call that leaves all older blocks alone: rules for the walk. -/
theorem bcell {W w1 : World} (hb : Below W.heap.size W w1) : (∀ b o, b < W.heap.size → w1.cell? ⟨b, o, none⟩ = W.cell? ⟨b, o, none⟩) ∧ (∀ b o, b < W.heap.size → w1.frozen? ⟨b, o, none⟩ = W.frozen? ⟨b, o, none⟩) :=
  ⟨fun b o h => hb.cell (p := ⟨b, o, none⟩) h, fun b o h => hb.frozen (p := ⟨b, o, none⟩) h⟩

theorem or256 (x y : UInt8) : bits .or .i64 ((x.toNat : Int) * 256) (y.toNat : Int) = ((256 * x.toNat + y.toNat : Nat) : Int) := by
  have hx := x.toNat_lt
  have hy := y.toNat_lt
  rw [bits_join .i64 62 (by decide) (fun n h1 h2 => IntWalk.i64_in n (by omega)) 8 _ _ (by omega) (by omega) (by omega) (by omega) (by omega) (by omega)]
  omega

/-- A slice over a whole block. -/
theorem rsl_whole {α : Type} [Rep α] {G : Nat → Prop} {w : World} {g n : Nat} {cur : Array Value} {e : TypeId} {fr : Nat × Nat} {xs : List α} (hg : w.heap[g]? = some (.cells cur e fr)) (ha : RAll G w cur.toList xs)
    (hn : n = xs.length) (h2 : n ≤ maxLen) (hG : G g) : RSl G w (.slice (some ⟨g, 0, none⟩) n n) xs := by
  subst hn
  refine ⟨_, _, cur.toList, rfl, ⟨ha.len, Nat.le_refl _, h2, ha.one, .inr ⟨g, 0, rfl, hG, fun j u hj => ?_⟩⟩, ha⟩
  rw [Nat.zero_add, cell_of_row w g j cur e fr hg]
  simpa using hj

/-- The text of bytes. -/
def str (l : List UInt8) : ByteArray := ⟨l.toArray⟩
theorem str_toList (l : List UInt8) : (str l).toList = l := by simp [str]

theorem RowAt.conv {P : Program} {G : Nat → Prop} {w : World} {ao : Option Addr} {n cap : Nat} {l : List UInt8} {src dst e : TypeId} (hs : P.underlying src = some (.slice e)) (he : P.underlying e = some (.int .u8)) (hd : P.underlying dst = some .string)
    (hn : l.length = n) (h : RowAt G w ao n cap 1 (l.map bv)) : (convert src dst (.slice ao n cap)).run P w = .ok (.string (str l)) w := by
  subst hn
  rcases h.at_ with ⟨h0, _⟩ | ⟨b, off, rfl, _, hc⟩
  · have : l = [] := List.eq_nil_of_length_eq_zero h0
    subst this
    cases ao with
    | none => exact run_convert_bytes_nil w src e hs he _ cap dst hd
    | some a =>
      rw [run_convert_bytes_string w src dst e _ _ cap hs he hd]
      exact run_bytesToString w a 0 cap [] (by simp [loadCells, loadCellsFrom])
  · have hx := run_convert_bytes_arg (P := P) w src e hs he b off l.length cap (l.map fun b => (b.toNat : Int)) (by simp) (fun i hi => by
      have h1 := hc i (bv l[i]) (by simp [hi])
      rw [h1]
      simp [List.getD, hi, bv]) dst hd
    rw [hx]
    congr 2
    apply ByteArray.ext
    apply Array.ext'
    rw [strOfNums_data, List.map_map]
    simp only [str]
    rw [List.map_congr_left (g := id)]
    · simp
    · intro x _
      simp

theorem RSl.conv {P : Program} {G : Nat → Prop} {w : World} {v : Value} {l : List UInt8} {src dst e : TypeId} (hs : P.underlying src = some (.slice e)) (he : P.underlying e = some (.int .u8)) (hd : P.underlying dst = some .string)
    (h : RSl G w v l) : (convert src dst v).run P w = .ok (.string (str l)) w := by
  obtain ⟨ao, cap, rfl, hr⟩ := h.bytes
  exact hr.conv hs he hd rfl

/-- What was read is still there behind a call that leaves all older blocks alone. -/
theorem RSl.now {α : Type} [Rep α] {w w' : World} {v : Value} {xs : List α} (h : RSl (fun b => b < w.heap.size) w v xs) (hb : Below w.heap.size w w') : RSl (fun b => b < w'.heap.size) w' v xs :=
  h.mono (fun _ hg => Nat.lt_of_lt_of_le hg hb.size) (fun b hg => hb.block b hg)
/-- A result in new memory, without the word on where it lies. -/
theorem RSl.old {α : Type} [Rep α] {w : World} {B : Nat} {v : Value} {xs : List α} (h : RSl (fun b => B ≤ b ∧ b < w.heap.size) w v xs) : RSl (fun b => b < w.heap.size) w v xs :=
  h.mono (fun _ hg => hg.2) (fun _ _ => rfl)
/-- To a later world that leaves all older blocks alone. -/
theorem RSl.below {α : Type} [Rep α] {G : Nat → Prop} {w w' : World} {B : Nat} {v : Value} {xs : List α} (h : RSl G w v xs) (hb : Below B w w') (hG : ∀ b, G b → b < B) : RSl (fun _ => True) w' v xs :=
  h.mono (fun _ _ => trivial) (fun b hg => hb.block b (hG b hg))

theorem RowAt.drewN {G : Nat → Prop} {w : World} {ao : Option Addr} {n cap s : Nat} {cells : List Value} (h : RowAt G w ao n cap s cells) (q : Nat) : RowAt G (w.drewN q) ao n cap s cells :=
  RowAt.mono (w := w) (w' := w.drewN q) (fun _ h => h) (fun _ _ => rfl) h

/-- The length of a slice value: for a loop's measure. -/
def slen : Value → Nat | .slice _ n _ => n | _ => 0

/-- What 's[lo:hi]' reads as. -/
theorem RowAt.sub {G : Nat → Prop} {w : World} {b off n cap s : Nat} {cells : List Value} (h : RowAt G w (some ⟨b, off, none⟩) n cap s cells) {lo hi : Nat} (h1 : lo ≤ hi) (h2 : hi ≤ n) :
    RowAt G w (some (if cap = lo then ⟨b, off, none⟩ else ⟨b, off + lo * s, none⟩)) (hi - lo) (cap - lo) s ((cells.take (hi * s)).drop (lo * s)) := by
  have hl := h.len
  have hc := h.cle
  have hM := h.max
  have hmul : hi * s ≤ n * s := Nat.mul_le_mul_right _ h2
  refine ⟨?_, by omega, by omega, fun u hu => h.one u (List.mem_of_mem_take (List.mem_of_mem_drop hu)), ?_⟩
  · rw [List.length_drop, List.length_take, hl, Nat.min_eq_left hmul, Nat.sub_mul]
  · rcases h.at_ with ⟨h0, _⟩ | ⟨b', off', h0, hg, hx⟩
    · exact .inl ⟨by omega, fun hno => by cases hno⟩
    · simp only [Option.some.injEq, Addr.mk.injEq, and_true] at h0
      obtain ⟨rfl, rfl⟩ := h0
      by_cases he : cap = lo
      · rw [if_pos he]
        refine .inr ⟨b, off, rfl, hg, fun j u hj => ?_⟩
        have : ((cells.take (hi * s)).drop (lo * s)).length = 0 := by
          rw [List.length_drop, List.length_take, hl, Nat.min_eq_left hmul, ← Nat.sub_mul, show hi - lo = 0 from by omega, Nat.zero_mul]
        rw [List.eq_nil_of_length_eq_zero this] at hj
        simp at hj
      · rw [if_neg he]
        refine .inr ⟨b, off + lo * s, rfl, hg, fun j u hj => ?_⟩
        rw [List.getElem?_drop, List.getElem?_take] at hj
        split at hj
        · rw [Nat.add_assoc]; exact hx _ _ hj
        · cases hj

/-- .. for a walk: the address that the walk writes as an 'if', by a name. -/
theorem RowAt.cut {G : Nat → Prop} {w : World} {b off n cap s : Nat} {cells : List Value} (h : RowAt G w (some ⟨b, off, none⟩) n cap s cells) {lo hi : Nat} (h1 : lo ≤ hi) (h2 : hi ≤ n) :
    ∃ A : Nat, (if cap = lo then some ⟨b, off, none⟩ else some ⟨b, off + lo * s, none⟩ : Option Addr) = some ⟨b, A, none⟩ ∧ RowAt G w (some ⟨b, A, none⟩) (hi - lo) (cap - lo) s ((cells.take (hi * s)).drop (lo * s)) := by
  have h3 := h.sub h1 h2
  by_cases he : cap = lo
  · rw [if_pos he] at h3 ⊢
    exact ⟨_, rfl, h3⟩
  · rw [if_neg he] at h3 ⊢
    exact ⟨_, rfl, h3⟩

/-! ### numbers as bytes -/
/-- The k lowest bytes of n, the highest first. -/
def be (k n : Nat) : List UInt8 := (List.range k).map fun i => UInt8.ofNat (n / 256 ^ (k - 1 - i))
theorem be_length (k n : Nat) : (be k n).length = k := by simp [be]
def putV (n i : Nat) : Value := .int .u8 ((n : Int) / 2 ^ (8 * i) % 256)
def putA (n j : Nat) : Array Value := #[if 7 < j then putV n 7 else .int .u8 0, if 6 < j then putV n 6 else .int .u8 0, if 5 < j then putV n 5 else .int .u8 0, if 4 < j then putV n 4 else .int .u8 0,
  if 3 < j then putV n 3 else .int .u8 0, if 2 < j then putV n 2 else .int .u8 0, if 1 < j then putV n 1 else .int .u8 0, if 0 < j then putV n 0 else .int .u8 0]
theorem putA_get (n j : Nat) (h : j < 8) : (putA n j)[7 - j]? = some (.int .u8 0) := by
  unfold putA
  match j, h with
  | 0, _ => simp | 1, _ => simp | 2, _ => simp | 3, _ => simp | 4, _ => simp | 5, _ => simp | 6, _ => simp | 7, _ => simp
theorem putA_set (n j : Nat) (h : j < 8) : (putA n j).setIfInBounds (7 - j) (.int .u8 ((n : Int) / 2 ^ (8 * j) % 256)) = putA n (j + 1) := by
  unfold putA putV
  match j, h with
  | 0, _ => simp | 1, _ => simp | 2, _ => simp | 3, _ => simp | 4, _ => simp | 5, _ => simp | 6, _ => simp | 7, _ => simp
theorem putV_bv (n i : Nat) : putV n i = bv (UInt8.ofNat (n / 256 ^ i)) := by
  unfold putV bv
  rw [show (256 : Nat) = 2 ^ 8 from rfl, ← Nat.pow_mul]
  simp
theorem putA_8 (n k : Nat) (h1 : 1 ≤ k) (h8 : k ≤ 8) : (putA n 8).toList.drop (8 - k) = (be k n).map bv := by
  unfold putA be
  match k, h1, h8 with
  | 1, _, _ => simp [putV_bv, List.range_succ] | 2, _, _ => simp [putV_bv, List.range_succ] | 3, _, _ => simp [putV_bv, List.range_succ] | 4, _, _ => simp [putV_bv, List.range_succ]
  | 5, _, _ => simp [putV_bv, List.range_succ] | 6, _, _ => simp [putV_bv, List.range_succ] | 7, _, _ => simp [putV_bv, List.range_succ] | 8, _, _ => simp [putV_bv, List.range_succ]

def rA (n k i : Nat) : Array Value := ((List.range k).map fun j => if k - 1 - j < i then putV n (k - 1 - j) else Value.int .u8 0).toArray
theorem rA_0 (n k : Nat) : madeCells #[.int .u8 0] k = rA n k 0 := by
  apply Array.ext'
  simp [madeCells, rA, Array.toList_range, Nat.mod_one]
theorem rA_get (n k i : Nat) (h : i < k) : (rA n k i)[k - 1 - i]? = some (.int .u8 0) := by
  simp only [rA, List.getElem?_toArray, List.getElem?_map]
  rw [List.getElem?_range (by omega), Option.map_some, if_neg (by omega)]
theorem rA_set (n k i : Nat) (h : i < k) : (rA n k i).setIfInBounds (k - 1 - i) (putV n i) = rA n k (i + 1) := by
  apply Array.ext_getElem?
  intro j
  rw [Array.getElem?_setIfInBounds]
  simp only [rA, List.size_toArray, List.length_map, List.length_range, List.getElem?_toArray, List.getElem?_map]
  by_cases hj : j < k
  · rw [List.getElem?_range hj]
    simp only [Option.map_some]
    by_cases e : k - 1 - i = j
    · subst e
      rw [if_pos rfl, if_pos (by omega), if_pos (by omega), show k - 1 - (k - 1 - i) = i from by omega]
    · rw [if_neg e]
      by_cases h2 : k - 1 - j < i
      · rw [if_pos h2, if_pos (by omega)]
      · rw [if_neg h2, if_neg (by omega)]
  · rw [List.getElem?_eq_none (by simp; omega)]
    rw [if_neg (by omega)]
    rfl
theorem rA_k (n k : Nat) : (rA n k k).toList = (be k n).map bv := by
  simp only [rA, be, List.map_map]
  apply List.map_congr_left
  intro j hj
  have := List.mem_range.1 hj
  simp only [Function.comp]
  rw [if_pos (by omega), putV_bv]

end Go.Cx
