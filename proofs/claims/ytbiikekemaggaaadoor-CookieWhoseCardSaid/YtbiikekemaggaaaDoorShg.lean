/- Arrays of words and bytes against each other; sums. No condition. -/
import Derived.Test.YtbiikekemaggaaaDoorShv
set_option linter.unusedSectionVars false
set_option linter.unusedVariables false
set_option linter.unusedSimpArgs false
set_option linter.deprecated false
namespace Go.Am
open Go.RowKit Go.Cx
theorem u32_map (l : List UInt32) : uvs l = (l.map fun a => (a.toNat : Int)).map fun a => .v (.int .u32 a) := by simp [uvs]
theorem u32_inj (l m : List UInt32) : (l.map (fun a => (a.toNat : Int)) = m.map fun a => (a.toNat : Int)) ↔ l = m := by
  constructor
  · intro h
    exact List.map_inj_right (fun a b e => UInt32.toNat_inj.1 (Int.ofNat.inj e)) |>.1 h
  · rintro rfl
    rfl
theorem jbin_uvs_eql {P : Program} {t e : TypeId} {n : Nat} {z : Option Value} {b : Nat} {x y : Operand} (ht : P.underlying t = some (.array n e)) (he : P.underlying e = some (.int .u32)) (hi : (P.info? e).map (fun i => (i.zero, i.size, i.bytes)) = some (z, 1, b)) (hg : P.eqGuardType P.depth t = false) {K : Kv}
    (l m : List UInt32) (hl : l.length = n) (hm : m.length = n) : jbin P .eql t x y (.agg (uvs l)) (.agg (uvs m)) = K.k (.v (.bool (decide (l = m)))) := by
  rw [u32_map, u32_map, jbin_arr_eql ht he hi hg _ _ (by simpa using hl) (by simpa using hm)]
  simp only [u32_inj]
theorem jpart_bvc [K : Kv] {s : Nat} {b : UInt8} {l : List UInt8} : jpart false s (bvs (b :: l)) = K.k (.v (.int .u8 (b.toNat : Int))) := by rw [bvs_cons]; exact jpart_f
end Go.Am
namespace Go.Proofs.YtbiikekemaggaaaDoor
open Go.RowKit Go.Cx Go.Am Go.Sha
set_option linter.unusedSimpArgs false
theorem eq8 {x y : Operand} {K : Kv} (s : St) : jbin Tryd.prog .eql 77 x y (.agg (uvs s.l)) (.agg (uvs s.l)) = K.k (.v (.bool true)) := by
  have := jbin_uvs_eql (K := K) (x := x) (y := y) (n := 8) (e := 76) (b := 4) (z := some (.int .u32 0)) (P := Tryd.prog) (t := 77) (by kernel_rfl) (by kernel_rfl) (by kernel_rfl) (by kernel_rfl) s.l s.l rfl rfl
  rw [this]; simp
theorem eq32 {x y : Operand} {K : Kv} (l m : List UInt8) (hl : l.length = 32) (hm : m.length = 32) : jbin Tryd.prog .eql 59 x y (.agg (bvs l)) (.agg (bvs m)) = K.k (.v (.bool (decide (l = m)))) :=
  jbin_bvs_eql (n := 32) (e := 5) (b := 1) (z := some (.int .u8 0)) (by kernel_rfl) (by kernel_rfl) (by kernel_rfl) (by kernel_rfl) l m hl hm
theorem sum_len (b : List UInt8) : (sum b).length = 32 := by rw [sum_full, wbs_len, sl8]
theorem eqSum {x y : Operand} {K : Kv} (b : List UInt8) : jbin Tryd.prog .eql 59 x y (.agg (bvs (sum b))) (.agg (bvs (sum b))) = K.k (.v (.bool true)) := by
  rw [eq32 _ _ (sum_len b) (sum_len b)]; simp
end Go.Proofs.YtbiikekemaggaaaDoor
