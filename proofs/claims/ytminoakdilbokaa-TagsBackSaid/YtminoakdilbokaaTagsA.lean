/- The walks of the packages tags and conciergeref05: what each call answers. -/
import Derived.Test.YtminoakdilbokaaOctet
import Derived.StillTailTactics
import Derived.Deep.RegionHeld3
set_option linter.unusedSectionVars false
set_option linter.unusedVariables false
set_option linter.unusedSimpArgs false
set_option linter.deprecated false
namespace Go.Proofs.Ytminoakdilbokaa.Raw
open Go.RowKit Go.Cx

structure Tag where
  typ : Int
  val : List UInt8

instance : Rep Tag where
  sz := 2
  rd G w cs t := ∃ v, cs = [.int .i64 t.typ, v] ∧ (-9223372036854775808 ≤ t.typ ∧ t.typ ≤ 9223372036854775807) ∧ RSl G w v t.val
  len := by rintro _ _ _ _ ⟨v, rfl, _⟩; rfl
  one := by
    rintro _ _ _ _ ⟨v, rfl, _, ao, cap, cells, rfl, _⟩
    simp [Value.oneCell']
  mono hG hw := by
    rintro ⟨v, rfl, h1, h⟩
    exact ⟨v, rfl, h1, h.mono hG hw⟩

theorem Try.infoTag : (Try.prog.info? 34).map (fun i => (i.zero, i.size, i.bytes)) = some (some (.agg #[.int .i64 0, .slice none 0 0]), 2, 32) := by kernel_rfl

theorem RAll.tag {G : Nat → Prop} {w : World} {cells : List Value} {ts : List Tag} (h : RAll G w cells ts) {k : Nat} (hk : k < ts.length) :
    ∃ ao n cap, cells[k * 2]? = some (.int .i64 ts[k].typ) ∧ cells[k * 2 + 1]? = some (.slice ao n cap) ∧ n = ts[k].val.length ∧ (-9223372036854775808 ≤ ts[k].typ ∧ ts[k].typ ≤ 9223372036854775807) ∧
      RowAt G w ao n cap 1 (ts[k].val.map bv) := by
  obtain ⟨v, e, hr, hv⟩ := h.get (i := k) (x := ts[k]) (List.getElem?_eq_getElem hk)
  obtain ⟨ao, cap, rfl, hrow⟩ := hv.bytes
  refine ⟨ao, _, cap, ?_, ?_, rfl, hr, hrow⟩
  · have := congrArg (fun l : List Value => l[0]?) e
    simpa [Rep.sz] using this
  · have := congrArg (fun l : List Value => l[1]?) e
    simpa [Rep.sz] using this

/-- may a tag be? -/
def okB (t : Int) (n : Nat) : Bool := decide (1 ≤ t ∧ t ≤ 65535 ∧ n ≤ 65535)
def okTag (t : Tag) : Bool := okB t.typ t.val.length
theorem okB_le {t : Int} {n : Nat} (h : okB t n = true) : 1 ≤ t ∧ t ≤ 65535 ∧ n ≤ 65535 := by simpa [okB] using h
def encOne (t : Tag) : List UInt8 := be 2 t.typ.toNat ++ be 2 t.val.length ++ t.val
def encAll (ts : List Tag) : List UInt8 := ts.flatMap encOne
def enc (ts : List Tag) : List UInt8 × Int := if 64 < ts.length then ([], 3) else if ts.all okTag = false then ([], 50) else if 1494 < (encAll ts).length then ([], 2) else (encAll ts, 0)

theorem encOne_length (t : Tag) : (encOne t).length = 4 + t.val.length := by simp [encOne, be_length]; omega
theorem encAll_snoc (ts : List Tag) (t : Tag) : encAll (ts ++ [t]) = encAll ts ++ encOne t := by simp [encAll, List.flatMap_append]
theorem encAll_le : ∀ (ts : List Tag), ts.all okTag = true → (encAll ts).length ≤ ts.length * 65539
  | [], _ => by simp [encAll]
  | t :: ts, h => by
    simp only [List.all_cons, Bool.and_eq_true] at h
    have h1 := encAll_le ts h.2
    have h2 : t.val.length ≤ 65535 := by have := h.1; simp [okTag, okB] at this; omega
    have h3 : encAll (t :: ts) = encOne t ++ encAll ts := by simp [encAll]
    rw [h3, List.length_append, encOne_length, List.length_cons]
    omega

def cutTag (t : Tag) : Tag := ⟨t.typ, t.val.take 1600⟩
def few (ts : List Tag) : List Tag := (ts.take 70).map cutTag

set_option maxHeartbeats 400000 in
theorem few_any (v : Value) (ts : List Tag) (w : World) (h : RSl (fun b => b < w.heap.size) w v ts) :
    Calls Try.prog 9 #[v] w fun e w' => ∃ v, e = .returned v ∧ RSl (fun b => b < w'.heap.size) w' v (few ts) ∧ Below w.heap.size w w' := by
  obtain ⟨ao, cap, cells, rfl, hr, ha⟩ := h
  have hm := hr.cle
  have hM := hr.max
  unfold maxLen at hM
  go_enter Try.func9, Try.ntmps9
  go_wp2
  go_loopw [3, 4] (fun out i wr => ∃ k : Nat, k ≤ ts.length ∧ k ≤ 70 ∧ i = .int .i64 k ∧ Own wr w.heap.size 34 out ((ts.take k).map cutTag) ∧ Below w.heap.size w wr) (fun _ i _ => 70 - (intOf i).toNat)
  case atStart => exact ⟨0, by omega, by omega, rfl, Own.nil _ _ _, Below.refl _ _⟩
  case round =>
    obtain ⟨k, hk, hk7, rfl, hown, hb⟩ := hrel
    by_cases hlt : k < ts.length
    · by_cases hlt7 : k < 70
      · obtain ⟨vo, n, vc, h1, h2, hn, h3, h4⟩ := RAll.tag ha hlt
        rcases hr.at_ with ⟨h0, _⟩ | ⟨b, off, rfl, hgb, hc⟩
        · omega
        have c1 : wr.cell? ⟨b, off + k * 2, none⟩ = some (.int .i64 ts[k].typ) := (hb.cell hgb).trans (hc _ _ h1)
        have c2 : wr.cell? ⟨b, off + k * 2 + 1, none⟩ = some (.slice vo n vc) := (hb.cell hgb).trans (by rw [Nat.add_assoc]; exact hc _ _ h2)
        have m0 : (0 : Int) ≤ min (n : Int) 1600 := by omega
        have m1 : min (n : Int) 1600 ≤ (vc : Int) := by have := h4.cle; omega
        have m2 : (min (n : Int) 1600).toNat = min n 1600 := by omega
        have Hn := Lib.hid hn
        clear hn
        have hrd : ∀ o, Rep.rd (fun b => b < (wr.alloc o).drew.heap.size ∧ some b ≠ u3.ownBlock ∧ 0 ≤ b) (wr.alloc o).drew [.int .i64 ts[k].typ, .slice vo (min n 1600) vc] (cutTag ts[k]) := by
          intro o
          have hp := h4.front (m := min n 1600) (by omega)
          have hbr : w.heap.size ≤ wr.heap.size := hb.size
          refine ⟨_, rfl, h3, RSl.of_bytes (by simp [cutTag, Hn.out, Nat.min_comm]) ?_⟩
          rw [show (cutTag ts[k]).val.map bv = (ts[k].val.map bv).take (min n 1600 * 1) from by rw [Hn.out, Nat.mul_one, Nat.min_comm, ← List.take_take, List.take_of_length_le (l := ts[k].val.map bv) (by simp)]; simp [cutTag, List.map_take]]
          refine hp.mono (fun b h => ?_) (fun b h => ?_)
          · have := hown.avoid hbr b h
            exact ⟨by simp; omega, this.2, Nat.zero_le _⟩
          · exact (heap_alloc_old wr o (by omega)).trans (hb.block b h)
        have hne : some b ≠ u3.ownBlock := (hown.avoid hb.size b hgb).2
        have k1 : ∀ o, (wr.alloc o).drew.cell? ⟨b, off + k * 2, none⟩ = some (.int .i64 ts[k].typ) := fun o => (World.cell?_alloc_lt _ _ _ (block_lt_of_cell c1)).trans c1
        have k2 : ∀ o, (wr.alloc o).drew.cell? ⟨b, off + k * 2 + 1, none⟩ = some (.slice vo n vc) := fun o => (World.cell?_alloc_lt _ _ _ (block_lt_of_cell c2)).trans c2
        go_wp2_with fail
        go_region_held3 (fun w' => w'.cell? ⟨b, off + k * 2, none⟩ = some (.int .i64 ts[k].typ) ∧ w'.cell? ⟨b, off + k * 2 + 1, none⟩ = some (.slice vo n vc))
          (first | go_keep | exact ⟨happ.by_.cell (k1 _) hne, happ.by_.cell (k2 _) hne⟩)
          ((refine step_append (α := Tag) (base := w.heap.size) (ys := [cutTag ts[k]]) (by rfl) (by rfl) Try.underlying22 Try.infoTag rfl (by rfl) (by rfl) (hown.alloc _).drew (srcs_one Try.underlying22 (heap_alloc_new wr _) (hrd _)) (by simp; omega) (by decide) (by have := hb.size; simp; omega) ?_; intro v1 w1 hown1 happ))
        have hb' : Below w.heap.size w w1 := ((hb.alloc hb.size _).drew).grown happ.by_ (by have := hb.size; simp; omega) (fun j hj => (hown.lt j hj).1)
        clear hown happ hrd k1 k2 c1 c2 hc h1 h2 h4
        go_wp2
        go_roundw
        case rel => exact ⟨k + 1, by omega, by omega, by go_num, by rw [List.take_succ_eq_append_getElem hlt, List.map_append]; exact hown1, hb'⟩
        case measure => simp [intOf]; omega
      · have h70 : k = 70 := by omega
        have hle : ¬ ((k : Int) < 70) := by omega
        have H70 := Lib.hid h70
        clear h70
        go_wp2
        go_ret
        refine ⟨_, rfl, ?_, hb⟩
        have := hown.rsl
        rw [H70.out] at this
        exact this
    · have hkl : ts.take k = ts := List.take_of_length_le (by omega)
      have hfew : few ts = (ts.take k).map cutTag := by rw [few, hkl, List.take_of_length_le (by omega)]
      have Hf := Lib.hid hfew
      clear hfew hkl
      go_wp2
      go_ret
      refine ⟨_, rfl, ?_, hb⟩
      rw [Hf.out]
      exact hown.rsl

set_option maxHeartbeats 400000 in
theorem may_any (t : Int) (a : Option Addr) (n cap : Nat) (w : World) :
    Calls Try.prog 23 #[.agg #[.int .i64 t, .slice a n cap]] w fun e w' => e = .returned (.bool (okB t n)) ∧ Below w.heap.size w w' := by
  go_enter Try.func23, Try.ntmps23
  go_wp2
  all_goals
    go_ret
    refine ⟨?_, (Below.refl _ _).alloc (Nat.le_refl _) _⟩
    simp [okB]
    first | omega | (rw [Bool.eq_iff_iff]; simp; omega)

set_option maxHeartbeats 400000 in
theorem is_any (t : Int) (a : Option Addr) (n cap : Nat) (w : World) :
    Calls Try.prog 25 #[.agg #[.int .i64 t, .slice a n cap]] w fun e w' => e = .returned (.bool (okB t n)) ∧ Below w.heap.size w w' := by
  go_enter Try.func25, Try.ntmps25
  go_wp2
  all_goals
    go_ret
    refine ⟨?_, (Below.refl _ _).alloc (Nat.le_refl _) _⟩
    simp [okB]
    first | omega | (rw [Bool.eq_iff_iff]; simp; omega)

end Go.Proofs.Ytminoakdilbokaa.Raw
