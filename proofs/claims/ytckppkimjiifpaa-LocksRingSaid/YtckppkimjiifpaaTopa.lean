/- Arrays of numbers among a law's arguments, told to the abstract machine. No condition. -/
import Derived.Test.YtckppkimjiifpaaTop
import Derived.Test.YtckppkimjiifpaaOpen
import Derived.Test.YtckppkimjiifpaaUv
set_option linter.unusedSectionVars false
set_option linter.unusedVariables false
set_option linter.unusedSimpArgs false
set_option linter.deprecated false
namespace Go.Am
open Go.RowKit Go.Cx Go.ChangeShapes Go.WideShapes Go.ChangeAt Go.Deep
theorem arr_of {α : Type} (f : α → Value) : ∀ (n : Nat) (cs : List Value), cs.length = n → (∀ i, i < n → ∃ a, (cs.drop (i * 1)).take 1 = [f a]) → ∃ l : List α, l.length = n ∧ cs = l.map f
  | 0, cs, h, _ => ⟨[], rfl, List.eq_nil_of_length_eq_zero h⟩
  | n + 1, [], h, _ => by simp at h
  | n + 1, c :: cs, h, k => by
    obtain ⟨a, ha⟩ := k 0 (by omega)
    simp at ha
    obtain ⟨l, h1, h2⟩ := arr_of f n cs (by simpa using h) fun i hi => by
      obtain ⟨b, hb⟩ := k (i + 1) (by omega)
      exact ⟨b, by simpa using hb⟩
    exact ⟨a :: l, by simp [h1], by simp [ha, h2]⟩
theorem opens_u32 {P : Program} {t : TypeId} (ht : P.underlying t = some (.int .u32)) {H : Type} {enc : TypeId × Value → H} {w : World} {spare : Nat → Bool} {held : Bool} {fuel : Nat} {cs : List Value} {x : DataW H × List MemPlace} (h : DataW.trod enc P w 0 spare held fuel t cs = some x) :
    ∃ a : UInt32, cs = [.int .u32 (a.toNat : Int)] := by
  obtain ⟨a, e0, _, wa⟩ := DataW.trod_int ht h
  have hb : 0 ≤ a ∧ a ≤ 4294967295 := by simpa [Lit.wf, IntKind.min, IntKind.max, IntKind.signed, IntKind.bits] using wa
  refine ⟨UInt32.ofNat a.toNat, ?_⟩
  have h2 : (UInt32.ofNat a.toNat).toNat = a.toNat := by simp; omega
  rw [e0, h2]
  congr 2
  omega
section
variable {P : Program} {t e : TypeId} {n : Nat} (ht : P.underlying t = some (.array n e)) (hc : P.cellsOf t = n) (hce : P.cellsOf e = 1) {H : Type} {enc : TypeId × Value → H} {w : World} {spare : Nat → Bool} {held : Bool} {v : Value} {d : DataW H} {p : List MemPlace} {cs : Array Value}
include ht hc hce
theorem open_arr8 (he : P.underlying e = some (.int .u8)) (hv : v = .agg cs) (h : DataW.Trod enc P w 0 spare held t v d p) : ∃ l : List UInt8, l.length = n ∧ v = .agg (l.map fun b => Value.int .u8 (b.toNat : Int)).toArray := by
  subst hv
  obtain ⟨fuel, h⟩ := h
  obtain ⟨xs, m, _, _, hl, hn, hf⟩ := DataW.trod_array ht h
  rw [hc] at hl
  rw [hce] at hf
  obtain ⟨l, h1, h2⟩ := arr_of (fun b : UInt8 => Value.int .u8 (b.toNat : Int)) n _ hl fun i hi => by
    have h1 := hf i hi
    rw [List.getElem?_eq_getElem (by omega)] at h1
    obtain ⟨a, ha⟩ := opens_u8 he enc w spare held m _ _ h1
    exact ⟨a, ha⟩
  refine ⟨l, h1, ?_⟩
  rw [← h2]
  simp [Value.cells]
theorem open_arr32 (he : P.underlying e = some (.int .u32)) (hv : v = .agg cs) (h : DataW.Trod enc P w 0 spare held t v d p) : ∃ l : List UInt32, l.length = n ∧ v = .agg (l.map fun b => Value.int .u32 (b.toNat : Int)).toArray := by
  subst hv
  obtain ⟨fuel, h⟩ := h
  obtain ⟨xs, m, _, _, hl, hn, hf⟩ := DataW.trod_array ht h
  rw [hc] at hl
  rw [hce] at hf
  obtain ⟨l, h1, h2⟩ := arr_of (fun b : UInt32 => Value.int .u32 (b.toNat : Int)) n _ hl fun i hi => by
    have h1 := hf i hi
    rw [List.getElem?_eq_getElem (by omega)] at h1
    exact opens_u32 he h1
  refine ⟨l, h1, ?_⟩
  rw [← h2]
  simp [Value.cells]
end
theorem vrs_map {M : Mem} {n : Nat} {w : World} {α : Type} {f : α → Value} (hf : ∀ a, (f a).oneCell' = true) : ∀ l : List α, VRs M n w (l.map fun a => .v (f a)) (l.map f)
  | [] => by unfold VRs; rfl
  | a :: l => by
    simp only [List.map_cons]
    unfold VRs
    exact ⟨_, _, rfl, hf a, vr_v, vrs_map hf l⟩
theorem top_bvs {w : World} {l : List UInt8} : VR (M0 w) 0 w (.agg (bvs l)) (.agg (l.map fun b => Value.int .u8 (b.toNat : Int)).toArray) := by
  unfold VR
  exact ⟨_, rfl, vrs_map (fun _ => rfl) l⟩
theorem top_uvs {w : World} {l : List UInt32} : VR (M0 w) 0 w (.agg (uvs l)) (.agg (l.map fun b => Value.int .u32 (b.toNat : Int)).toArray) := by
  unfold VR
  exact ⟨_, rfl, vrs_map (fun _ => rfl) l⟩
end Go.Am
