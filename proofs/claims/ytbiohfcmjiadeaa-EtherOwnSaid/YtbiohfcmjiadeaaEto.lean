/- What a frame reads as, told to the abstract machine. No condition. -/
import Derived.Test.YtbiohfcmjiadeaaTop
import Derived.Test.YtbiohfcmjiadeaaOpen
import Derived.Test.YtbiohfcmjiadeaaOt
import Derived.Lib.SmallJoins
set_option linter.unusedSectionVars false
set_option linter.unusedVariables false
set_option linter.unusedSimpArgs false
set_option linter.deprecated false
namespace Go.Proofs.Ytbiohfcmjiadeaa
open Go.RowKit Go.Cx Go.Am Go.ChangeShapes Go.WideShapes Go.ChangeAt Go.Deep Go.Lib
structure Mac where
  (x0 x1 x2 x3 x4 x5 : UInt8)

structure Eth where
  (dst src : Mac)
  typ : Int
  pay : List UInt8

def ethC (e : Eth) (pv : Value) : Array Value := #[.int .u8 e.dst.x0.toNat, .int .u8 e.dst.x1.toNat, .int .u8 e.dst.x2.toNat, .int .u8 e.dst.x3.toNat, .int .u8 e.dst.x4.toNat, .int .u8 e.dst.x5.toNat,
  .int .u8 e.src.x0.toNat, .int .u8 e.src.x1.toNat, .int .u8 e.src.x2.toNat, .int .u8 e.src.x3.toNat, .int .u8 e.src.x4.toNat, .int .u8 e.src.x5.toNat, .int .i64 e.typ, pv]
def ethV (e : Eth) (pv : Value) : Value := .agg (ethC e pv)

theorem opensBytes : Opens (List UInt8) Try.prog 24 := opens_slice Try.underlying24 (by kernel_rfl) (by decide) (opens_u8 Try.underlying5)

theorem openMac {H : Type} {enc : TypeId × Value → H} {w : World} {spare : Nat → Bool} {held : Bool} {fuel : Nat} {cs : List Value} {x : DataW H × List MemPlace} (h : DataW.trod enc Try.prog w 0 spare held fuel 23 cs = some x) :
    ∃ m : Mac, cs = [.int .u8 m.x0.toNat, .int .u8 m.x1.toNat, .int .u8 m.x2.toNat, .int .u8 m.x3.toNat, .int .u8 m.x4.toNat, .int .u8 m.x5.toNat] := by
  obtain ⟨xs, m, _, _, hl, hn, hf⟩ := DataW.trod_array Try.underlying23 h
  rw [show Try.prog.cellsOf 23 = 6 by kernel_rfl] at hl
  rw [show Try.prog.cellsOf 5 = 1 by kernel_rfl] at hf
  have key : ∀ i, i < 6 → ∃ a : UInt8, (cs.drop (i * 1)).take 1 = [.int .u8 (a.toNat : Int)] := by
    intro i hi
    have h1 := hf i hi
    rw [List.getElem?_eq_getElem (by omega)] at h1
    obtain ⟨a, ha⟩ := opens_u8 Try.underlying5 enc w spare held m _ _ h1
    exact ⟨a, ha⟩
  match cs, hl with
  | [u0, u1, u2, u3, u4, u5], _ =>
    obtain ⟨a0, h0⟩ := key 0 (by omega)
    obtain ⟨a1, h1⟩ := key 1 (by omega)
    obtain ⟨a2, h2⟩ := key 2 (by omega)
    obtain ⟨a3, h3⟩ := key 3 (by omega)
    obtain ⟨a4, h4⟩ := key 4 (by omega)
    obtain ⟨a5, h5⟩ := key 5 (by omega)
    simp at h0 h1 h2 h3 h4 h5
    exact ⟨⟨a0, a1, a2, a3, a4, a5⟩, by simp [h0, h1, h2, h3, h4, h5]⟩

theorem openEth {H : Type} {enc : TypeId × Value → H} {w : World} {spare : Nat → Bool} {held : Bool} {v : Value} {d : DataW H} {p : List MemPlace} {cs : Array Value} (hv : v = .agg cs) (h : DataW.Trod enc Try.prog w 0 spare held 26 v d p) :
    ∃ (e : Eth) (pv : Value), v = ethV e pv ∧ RSl (fun b => b < w.heap.size) w pv e.pay := by
  subst hv
  obtain ⟨fuel, h⟩ := h
  obtain ⟨y0, y1, y2, y3, n, _, hl, h0, h1, h2, h3⟩ := Go.Joins.trod_struct4 Try.underlying26 h
  simp only [Value.cells, show Try.prog.cellsOf 26 = 14 by kernel_rfl, show Try.prog.cellsOf 23 = 6 by kernel_rfl, show Try.prog.cellsOf 3 = 1 by kernel_rfl, show Try.prog.cellsOf 24 = 1 by kernel_rfl] at hl h0 h1 h2 h3
  obtain ⟨m0, e0⟩ := openMac h0
  obtain ⟨m1, e1⟩ := openMac h1
  obtain ⟨t, e2⟩ := opens_int Try.underlying3 enc w spare held n _ _ h2
  obtain ⟨l, pv, e3, hp⟩ := opensBytes enc w spare held n _ _ h3
  refine ⟨⟨m0, m1, t, l⟩, pv, ?_, hp⟩
  have e2' := e2.1
  obtain ⟨L⟩ := cs
  simp only at *
  match L, hl with
  | [u0, u1, u2, u3, u4, u5, u6, u7, u8, u9, u10, u11, u12, u13], _ =>
    simp at e0 e1 e2' e3
    simp [ethV, ethC, e0, e1, e2', e3]
def ethL (e : Eth) : List AV := [.v (.int .u8 (e.dst.x0.toNat : Int)), .v (.int .u8 (e.dst.x1.toNat : Int)), .v (.int .u8 (e.dst.x2.toNat : Int)), .v (.int .u8 (e.dst.x3.toNat : Int)), .v (.int .u8 (e.dst.x4.toNat : Int)), .v (.int .u8 (e.dst.x5.toNat : Int)), .v (.int .u8 (e.src.x0.toNat : Int)), .v (.int .u8 (e.src.x1.toNat : Int)), .v (.int .u8 (e.src.x2.toNat : Int)), .v (.int .u8 (e.src.x3.toNat : Int)), .v (.int .u8 (e.src.x4.toNat : Int)), .v (.int .u8 (e.src.x5.toNat : Int)), .v (.int .i64 e.typ), byts e.pay]
theorem top_eth {w : World} {e : Eth} {pv : Value} (h : RSl (fun b => b < w.heap.size) w pv e.pay) : VR (M0 w) 0 w (.agg (ethL e)) (ethV e pv) := by
  have hp : VR (M0 w) 0 w (byts e.pay) pv := rsl_byts h
  have ho : pv.oneCell' = true := by obtain ⟨_, _, _, rfl, _⟩ := h; rfl
  unfold VR
  refine ⟨_, rfl, ?_⟩
  unfold ethL
  refine ⟨_, _, rfl, rfl, vr_v, _, _, rfl, rfl, vr_v, _, _, rfl, rfl, vr_v, _, _, rfl, rfl, vr_v, _, _, rfl, rfl, vr_v, _, _, rfl, rfl, vr_v, _, _, rfl, rfl, vr_v, _, _, rfl, rfl, vr_v, _, _, rfl, rfl, vr_v, _, _, rfl, rfl, vr_v, _, _, rfl, rfl, vr_v, _, _, rfl, rfl, vr_v, _, _, rfl, rfl, vr_v, _, _, rfl, ho, hp, rfl⟩
def macL (m : Mac) : List AV := [.v (.int .u8 (m.x0.toNat : Int)), .v (.int .u8 (m.x1.toNat : Int)), .v (.int .u8 (m.x2.toNat : Int)), .v (.int .u8 (m.x3.toNat : Int)), .v (.int .u8 (m.x4.toNat : Int)), .v (.int .u8 (m.x5.toNat : Int))]
theorem top_mac {w : World} {m : Mac} : VR (M0 w) 0 w (.agg (macL m)) (.agg #[.int .u8 m.x0.toNat, .int .u8 m.x1.toNat, .int .u8 m.x2.toNat, .int .u8 m.x3.toNat, .int .u8 m.x4.toNat, .int .u8 m.x5.toNat]) := by
  unfold VR
  refine ⟨_, rfl, ?_⟩
  unfold macL
  exact ⟨_, _, rfl, rfl, vr_v, _, _, rfl, rfl, vr_v, _, _, rfl, rfl, vr_v, _, _, rfl, rfl, vr_v, _, _, rfl, rfl, vr_v, _, _, rfl, rfl, vr_v, rfl⟩
theorem openMacT {H : Type} {enc : TypeId × Value → H} {w : World} {spare : Nat → Bool} {held : Bool} {v : Value} {d : DataW H} {p : List MemPlace} {cs : Array Value} (hv : v = .agg cs) (h : DataW.Trod enc Try.prog w 0 spare held 23 v d p) :
    ∃ m : Mac, v = .agg #[.int .u8 m.x0.toNat, .int .u8 m.x1.toNat, .int .u8 m.x2.toNat, .int .u8 m.x3.toNat, .int .u8 m.x4.toNat, .int .u8 m.x5.toNat] := by
  subst hv
  obtain ⟨fuel, h⟩ := h
  obtain ⟨m, e⟩ := openMac h
  refine ⟨m, ?_⟩
  simp only [Value.cells] at e
  rw [← e]
end Go.Proofs.Ytbiohfcmjiadeaa
