/- What the arguments of conciergelaw22's laws read as. No condition. -/
import Derived.Test.YtheingjfcbofcaaTopa
import Derived.Test.YtheingjfcbofcaaIt
set_option linter.unusedSectionVars false
set_option linter.unusedVariables false
set_option linter.unusedSimpArgs false
set_option linter.deprecated false
namespace Go.Am
open Go.RowKit Go.Cx Go.Ibx
theorem rall_rows {M : Mem} {n : Nat} {w : World} : ∀ {l : List (List UInt8)} {us : List Value}, RAll M.G w us l → VRss M n w 1 (l.map fun l => [byts l]) us
  | [], us, h => h
  | b :: l, us, h => by
    obtain ⟨c, r, rfl, ⟨v, hc, hv⟩, h2⟩ := h
    have hv2 := rsl_byts (n := n) hv
    obtain ⟨ao, cap, us2, rfl, _⟩ := hv
    subst hc
    rw [List.map_cons]
    unfold VRss
    exact ⟨_, r, rfl, rfl, ⟨_, [], rfl, rfl, hv2, rfl⟩, rall_rows h2⟩
theorem top_rows {M : Mem} {n : Nat} {w : World} {xss : List (List UInt8)} {v : Value} (h : RSl M.G w v xss) : VR M n w (.sl 1 (rws xss)) v := by
  obtain ⟨ao, cap, us, h1, h2, h3⟩ := h
  unfold VR
  unfold rws
  rw [List.length_map]
  exact ⟨ao, cap, us, h1, rall_rows h3, h2⟩
instance : Rep (UInt8 × List UInt8 × Int) where
  sz := 3
  rd G w cs o := ∃ v, cs = [.int .u8 (o.1.toNat : Int), v, .int .i64 o.2.2] ∧ RSl G w v o.2.1
  len := by rintro _ _ _ _ ⟨v, rfl, _⟩; rfl
  one := by
    rintro _ _ _ _ ⟨v, rfl, ao, cap, cells, rfl, _⟩
    simp [Value.oneCell']
  mono hG hw := by
    rintro ⟨v, rfl, h⟩
    exact ⟨v, rfl, h.mono hG hw⟩
theorem rall_ops {M : Mem} {n : Nat} {w : World} : ∀ {l : List (UInt8 × List UInt8 × Int)} {us : List Value}, RAll M.G w us l → VRss M n w 3 (l.map opC) us
  | [], us, h => h
  | b :: l, us, h => by
    obtain ⟨c, r, rfl, ⟨v, hc, hv⟩, h2⟩ := h
    have hv2 := rsl_byts (n := n) hv
    obtain ⟨ao, cap, us2, rfl, _⟩ := hv
    subst hc
    rw [List.map_cons]
    unfold VRss
    exact ⟨_, r, rfl, rfl, ⟨_, _, rfl, rfl, vr_v, ⟨_, _, rfl, rfl, hv2, ⟨_, [], rfl, rfl, vr_v, rfl⟩⟩⟩, rall_ops h2⟩
theorem top_ops {M : Mem} {n : Nat} {w : World} {xss : List (UInt8 × List UInt8 × Int)} {v : Value} (h : RSl M.G w v xss) : VR M n w (.sl 3 (xss.map opC)) v := by
  obtain ⟨ao, cap, us, h1, h2, h3⟩ := h
  unfold VR
  rw [List.length_map]
  exact ⟨ao, cap, us, h1, rall_ops h3, h2⟩
end Go.Am
namespace Go.Proofs.Ytheingjfcbofcaa
open Go.RowKit Go.Cx Go.ChangeShapes Go.WideShapes Go.ChangeAt Go.Deep Go.Lib Go.Am
theorem opensBytes : Opens (List UInt8) Try.prog 23 := opens_slice Try.underlying23 (by kernel_rfl) (by decide) (opens_u8 Try.underlying5)
theorem opensRows : Opens (List (List UInt8)) Try.prog 22 := opens_slice Try.underlying22 (by kernel_rfl) (by decide) opensBytes
theorem u8_of {n : Nat} (h : n ≤ 255) : ∃ x : UInt8, n = x.toNat := ⟨UInt8.ofNat n, by simp; omega⟩
theorem opensOp : Opens (UInt8 × List UInt8 × Int) Try.prog 50 := by
  intro H enc w spare held fuel cs x h
  obtain ⟨xs, n, _, _, hl, hlen, hf⟩ := DataW.trod_struct Try.underlying50 h
  match xs, hlen with
  | [y0, y1, y2], _ =>
    have h0 := hf 0 _ rfl
    have h1 := hf 1 _ rfl
    have h2 := hf 2 _ rfl
    simp only [List.getElem?_cons_zero, List.getElem?_cons_succ, show Try.prog.cellsOf 50 = 3 by kernel_rfl, show Try.prog.cellsOf 5 = 1 by kernel_rfl, show Try.prog.cellsOf 48 = 1 by kernel_rfl, show Try.prog.cellsOf 23 = 1 by kernel_rfl] at hl h0 h1 h2
    obtain ⟨d, e0⟩ := opens_u8 Try.underlying5 enc w spare held n _ _ h0
    obtain ⟨l, pv, e1, hp⟩ := opensBytes enc w spare held n _ _ h1
    obtain ⟨k, e2⟩ := opens_int Try.underlying48 enc w spare held n _ _ h2
    refine ⟨(d, l, k), pv, ?_, hp⟩
    have e0' : _ = [_] := e0
    have e2' := e2.1
    match cs, hl with
    | [u0, u1, u2], _ =>
      simp [show Try.prog.cellsOf 5 = 1 by kernel_rfl, show Try.prog.cellsOf 48 = 1 by kernel_rfl, show Try.prog.cellsOf 23 = 1 by kernel_rfl] at e0' e1 e2'
      simp [e0', e1, e2']
theorem opensOps : Opens (List (UInt8 × List UInt8 × Int)) Try.prog 39 := opens_slice Try.underlying39 (by kernel_rfl) (by decide) opensOp
end Go.Proofs.Ytheingjfcbofcaa
