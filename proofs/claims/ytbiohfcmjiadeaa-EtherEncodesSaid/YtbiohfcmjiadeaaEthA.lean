/- Ethernet's frames as data; the walks of Check, Same. No condition. -/
import Derived.Test.YtbiohfcmjiadeaaSlices
import Derived.Test.YtbiohfcmjiadeaaLib2
namespace Go.Proofs.Ytbiohfcmjiadeaa
open Go.RowKit Go.Cx

structure Mac where
  (x0 x1 x2 x3 x4 x5 : UInt8)

structure Eth where
  (dst src : Mac)
  typ : Int
  pay : List UInt8

def Mac.l (m : Mac) : List UInt8 := [m.x0, m.x1, m.x2, m.x3, m.x4, m.x5]
def Mac.v (m : Mac) : Value := .agg #[.int .u8 m.x0.toNat, .int .u8 m.x1.toNat, .int .u8 m.x2.toNat, .int .u8 m.x3.toNat, .int .u8 m.x4.toNat, .int .u8 m.x5.toNat]

def ethC (e : Eth) (pv : Value) : Array Value := #[.int .u8 e.dst.x0.toNat, .int .u8 e.dst.x1.toNat, .int .u8 e.dst.x2.toNat, .int .u8 e.dst.x3.toNat, .int .u8 e.dst.x4.toNat, .int .u8 e.dst.x5.toNat,
  .int .u8 e.src.x0.toNat, .int .u8 e.src.x1.toNat, .int .u8 e.src.x2.toNat, .int .u8 e.src.x3.toNat, .int .u8 e.src.x4.toNat, .int .u8 e.src.x5.toNat, .int .i64 e.typ, pv]
def ethV (e : Eth) (pv : Value) : Value := .agg (ethC e pv)

def chk (t : Int) (n : Nat) : Int := if t < 1536 then 40 else if 65535 < t then 40 else if 1500 < n then 2 else 0

set_option maxHeartbeats 800000 in
theorem check_any (e : Eth) (ao : Option Addr) (n c : Nat) (w : World) (hn : n ≤ 9223372036854775807) :
    Calls Try.prog 12 #[ethV e (.slice ao n c)] w fun r w' => r = .returned (.int .i64 (chk e.typ n)) ∧ Below w.heap.size w w' := by
  unfold ethV ethC
  unfold chk
  by_cases h1 : e.typ < 1536
  · go_enter Try.func12, Try.ntmps12
    go_wp2
    go_ret
    exact ⟨rfl, (Below.refl _ _).alloc (Nat.le_refl _) _⟩
  · by_cases h2 : 65535 < e.typ
    · go_enter Try.func12, Try.ntmps12
      go_wp2
      go_ret
      exact ⟨rfl, (Below.refl _ _).alloc (Nat.le_refl _) _⟩
    · by_cases h3 : 1500 < (n : Int)
      · go_enter Try.func12, Try.ntmps12
        go_wp2
        go_ret
        exact ⟨rfl, (Below.refl _ _).alloc (Nat.le_refl _) _⟩
      · go_enter Try.func12, Try.ntmps12
        go_wp2
        go_ret
        exact ⟨rfl, (Below.refl _ _).alloc (Nat.le_refl _) _⟩

set_option maxHeartbeats 800000 in
theorem rcheck_any (e : Eth) (ao : Option Addr) (n c : Nat) (w : World) (hn : n ≤ 9223372036854775807) :
    Calls Try.prog 13 #[ethV e (.slice ao n c)] w fun r w' => r = .returned (.int .i64 (chk e.typ n)) ∧ Below w.heap.size w w' := by
  unfold ethV ethC
  unfold chk
  by_cases h1 : e.typ < 1536
  · go_enter Try.func13, Try.ntmps13
    go_wp2
    go_ret
    exact ⟨rfl, (Below.refl _ _).alloc (Nat.le_refl _) _⟩
  · by_cases h2 : 65535 < e.typ
    · go_enter Try.func13, Try.ntmps13
      go_wp2
      go_ret
      exact ⟨rfl, (Below.refl _ _).alloc (Nat.le_refl _) _⟩
    · by_cases h3 : 1500 < (n : Int)
      · go_enter Try.func13, Try.ntmps13
        go_wp2
        go_ret
        exact ⟨rfl, (Below.refl _ _).alloc (Nat.le_refl _) _⟩
      · go_enter Try.func13, Try.ntmps13
        go_wp2
        go_ret
        exact ⟨rfl, (Below.refl _ _).alloc (Nat.le_refl _) _⟩

set_option maxHeartbeats 800000 in
theorem same_yes (e : Eth) (p q : Value) (w : World) (hp : RSl (fun b => b < w.heap.size) w p e.pay) (hq : RSl (fun b => b < w.heap.size) w q e.pay) :
    Calls Try.prog 17 #[ethV e p, ethV e q] w fun r w' => r = .returned (.bool true) ∧ Below w.heap.size w w' := by
  obtain ⟨pa, pc, rfl, hp1⟩ := hp.bytes
  obtain ⟨qa, qc, rfl, hq1⟩ := hq.bytes
  unfold ethV ethC
  have cv1 := fun w' (hb : Below w.heap.size w w') => (RowAt.mono (G' := fun _ => True) (w' := w') (fun _ _ => trivial) (fun k hk => hb.block k hk) hp1).conv Try.underlying24 Try.underlying5 Try.underlying9 rfl
  have cv2 := fun w' (hb : Below w.heap.size w w') => (RowAt.mono (G' := fun _ => True) (w' := w') (fun _ _ => trivial) (fun k hk => hb.block k hk) hq1).conv Try.underlying24 Try.underlying5 Try.underlying9 rfl
  have hb := fun c1 c2 => ((Below.refl w.heap.size w).alloc (Nat.le_refl _) (.cells c1 26)).alloc (by simp) (.cells c2 26)
  have cw1 := fun c1 c2 => cv1 _ (hb c1 c2)
  have cw2 := fun c1 c2 => cv2 _ (hb c1 c2)
  clear cv1 cv2
  have hE := fun (m : Mac) W => eq_ints (P := Try.prog) Try.underlying23 Try.underlying5 Try.infoU8 (m.l.map fun x => (x.toNat : Int)) (m.l.map fun x => (x.toNat : Int)) rfl rfl W
  simp only [Mac.l, List.map_cons, List.map_nil, decide_true] at hE
  go_enter Try.func17, Try.ntmps17
  go_wp2
  go_ret
  exact ⟨rfl, hb _ _⟩
end Go.Proofs.Ytbiohfcmjiadeaa
