/- The abstract machine: rules for numbers, bytes, slots. No condition. -/
import Derived.Test.YtelenadhhjeoeaaDoorAg
import Derived.IntWalk
set_option linter.unusedSectionVars false
set_option linter.unusedVariables false
set_option linter.unusedSimpArgs false
set_option linter.deprecated false
namespace Go.Am
open Go.RowKit Go.Cx

/-! ### slots -/
def okS (T : Nat → AV) : List (Nat × AV) → Prop
  | [] => True
  | (i, a) :: r => Wk (T i) a ∧ okS T r
theorem okS_all {T : Nat → AV} : ∀ {l : List (Nat × AV)}, okS T l → ∀ x ∈ l, Wk (T x.1) x.2
  | [], _, x, hx => by cases hx
  | (i, a) :: r, h, x, hx => by
    unfold okS at h
    rcases List.mem_cons.1 hx with rfl | hx
    · exact h.1
    · exact okS_all h.2 x hx
theorem cq_s {E : Env} {n : Nat} {T : Nat → AV} {H : Heap} {tl : List (Nat × AV)} (h : okS T tl) : Cq E n T H (ofl tl) H := cq_slots (okS_all h)
theorem wk_rfl (a : AV) : Wk a a = True := eq_true (Wk.refl a)
theorem wk_any (a : AV) : Wk a .any = True := eq_true (Wk.any a)
theorem wk_v {x y : Value} : Wk (.v x) (.v y) = (x = y) := propext ⟨fun h => (h ⟨fun _ => none, fun _ => 0, fun _ => False⟩ 0 default x rfl), fun h => by rw [h]; exact Wk.refl _⟩
theorem wk_nil (sz : Nat) : Wk (.v (.slice none 0 0)) (.sl sz []) = True := eq_true (Wk.nil sz)
theorem nb_byts {n : Nat} (l : List UInt8) : nb n (byts l) = True := eq_true (by unfold byts nb; exact nbss_bytes l)
theorem nbss_bcl {n : Nat} (l : List UInt8) : nbss n (l.map bcl) = True := eq_true (nbss_bytes l)
theorem amapss_bcl {f : Nat → Nat} (l : List UInt8) : amapss f (l.map bcl) = l.map bcl := amapss_id (n := 0) (fun r hr => absurd hr (Nat.not_lt_zero r)) (nbss_bytes l)
theorem amap_byts {f : Nat → Nat} (l : List UInt8) : amap f (byts l) = byts l := by unfold byts amap; rw [amapss_bcl]
theorem frz_v {d : Nat} {L : Heap} {N : Nat} {x : Value} : frz d L N (.v x) = .v x := by cases d <;> rfl
theorem frz_sl {d : Nat} {L : Heap} {N sz : Nat} {es : List (List AV)} : frz d L N (.sl sz es) = .sl sz es := by cases d <;> rfl
theorem frz_byts {d : Nat} {L : Heap} {N : Nat} (l : List UInt8) : frz d L N (byts l) = byts l := frz_sl
theorem frz_ptr {d : Nat} {L : Heap} {N r off : Nat} : frz d L N (.ptr r off) = .ptr r off := by cases d <;> rfl
theorem frz_any {d : Nat} {L : Heap} {N : Nat} : frz d L N .any = .any := by cases d <;> rfl
theorem frz_mt {d : Nat} {L : Heap} {N : Nat} : frz d L N .mt = .mt := by cases d <;> rfl
theorem frz_bcl {d : Nat} {L : Heap} {N : Nat} (b : UInt8) : (bcl b).map (frz d L N) = bcl b := by simp [bcl, frz_v]
theorem frzs_bcl {d : Nat} {L : Heap} {N : Nat} (l : List UInt8) : ((l.map bcl).map fun e => e.map (frz d L N)) = l.map bcl := by
  rw [List.map_map]
  exact List.map_congr_left fun b _ => frz_bcl b

/-! ### bytes -/
theorem getD_bcl {l : List UInt8} {i : Nat} (h : i < l.length) : (l.map bcl).getD i [] = [.v (.int .u8 ((l.getD i 0).toNat : Int))] := by
  rw [getD_bytes l i h, List.getD_eq_getElem?_getD, List.getElem?_eq_getElem h]
  rfl
theorem u8_255 (b : UInt8) : (b.toNat : Int) ≤ 255 := by have := b.toNat_lt; omega
section
variable (b : UInt8)
theorem w8_u8 : IntKind.u8.wrap (b.toNat : Int) = b.toNat := IntWalk.u8_in _ ⟨by omega, u8_255 b⟩
theorem w8_u16 : IntKind.u16.wrap (b.toNat : Int) = b.toNat := IntWalk.u16_in _ ⟨by omega, by have := u8_255 b; omega⟩
theorem w8_u32 : IntKind.u32.wrap (b.toNat : Int) = b.toNat := IntWalk.u32_in _ ⟨by omega, by have := u8_255 b; omega⟩
theorem w8_u64 : IntKind.u64.wrap (b.toNat : Int) = b.toNat := IntWalk.u64_in _ ⟨by omega, by have := u8_255 b; omega⟩
theorem w8_i64 : IntKind.i64.wrap (b.toNat : Int) = b.toNat := IntWalk.i64_in _ ⟨by omega, by have := u8_255 b; omega⟩
end
theorem bits_u8 : IntKind.bits .u8 = 8 := rfl
theorem bits_u16 : IntKind.bits .u16 = 16 := rfl
theorem bits_u32 : IntKind.bits .u32 = 32 := rfl
theorem bits_u64 : IntKind.bits .u64 = 64 := rfl
theorem bits_i64 : IntKind.bits .i64 = 64 := rfl
theorem wrap_u8_mod (n : Int) : IntKind.u8.wrap n = n % 256 := by rw [IntKind.wrap_u8]
theorem wrap_u8_nat (n : Nat) : IntKind.u8.wrap (n : Int) = ((UInt8.ofNat n).toNat : Int) := by rw [IntKind.wrap_u8]; simp
end Go.Am
