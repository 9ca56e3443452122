/- The abstract machine: numbers of 32 bits. No condition. -/
import Derived.Test.YtckppkimjiifpaaSha
import Derived.Laws.BitsAllLaws
import Derived.Lib.MinMax
set_option linter.unusedSectionVars false
set_option linter.unusedVariables false
set_option linter.unusedSimpArgs false
set_option linter.deprecated false
namespace Go.Am
open Go.RowKit Go.Cx

/-- The cells of an array of numbers of 32 bits. -/
def uvs (l : List UInt32) : List AV := l.map fun b => .v (.int .u32 (b.toNat : Int))
/-- Zeros. -/
def zeros8 (n : Nat) : List UInt8 := List.replicate n 0
def zeros32 (n : Nat) : List UInt32 := List.replicate n 0
theorem zeros8_len (n : Nat) : (zeros8 n).length = n := by simp [zeros8]
theorem zeros32_len (n : Nat) : (zeros32 n).length = n := by simp [zeros32]
theorem uvs_len (l : List UInt32) : (uvs l).length = l.length := by simp [uvs]
theorem uvs_nil : uvs [] = [] := rfl
theorem uvs_cons (b : UInt32) (l : List UInt32) : uvs (b :: l) = .v (.int .u32 (b.toNat : Int)) :: uvs l := rfl
theorem uvs_drop (l : List UInt32) (k : Nat) : (uvs l).drop k = uvs (l.drop k) := by simp [uvs, List.map_drop]
theorem uvs_take (l : List UInt32) (k : Nat) : (uvs l).take k = uvs (l.take k) := by simp [uvs, List.map_take]
theorem uvs_getD {l : List UInt32} {i : Nat} {d : AV} (h : i < l.length) : (uvs l).getD i d = .v (.int .u32 ((l.getD i 0).toNat : Int)) := by
  simp [uvs, List.getD_eq_getElem?_getD, List.getElem?_eq_getElem h]
theorem uvs_set (l : List UInt32) (i : Nat) (b : UInt32) : (uvs l).set i (.v (.int .u32 (b.toNat : Int))) = uvs (l.set i b) := by simp [uvs, List.map_set]
theorem splice_uvs {off : Nat} {b : UInt32} {l : List UInt32} (h : off < l.length) : splice off [.v (.int .u32 (b.toNat : Int))] (uvs l) = uvs (l.set off b) := by
  rw [splice_one (by rw [uvs_len]; exact h), uvs_set]
theorem splice_all {off : Nat} {m l : List AV} (h0 : off = 0) (h : m.length = l.length) : splice off m l = m := by
  subst h0
  unfold splice
  simp [h]
theorem nbs_uvs {n : Nat} (l : List UInt32) : nbs n (uvs l) = True := eq_true (nbs_iff.2 fun a ha => by
  obtain ⟨b, _, rfl⟩ := List.mem_map.1 ha
  trivial)
theorem gfs_uvs (l : List UInt32) : gfs (uvs l) = True := eq_true (by
  induction l with
  | nil => trivial
  | cons b l ih => exact ⟨trivial, ih⟩)
theorem amaps_uvs {f : Nat → Nat} (l : List UInt32) : amaps f (uvs l) = uvs l := amaps_id (n := 0) (fun r hr => absurd hr (Nat.not_lt_zero r)) (of_eq_true (nbs_uvs l))
theorem jpart_uvs [K : Kv] {s i : Nat} {l : List UInt32} (h : i < l.length) : jpart false s (uvs (l.drop i)) = K.k (.v (.int .u32 ((l.getD i 0).toNat : Int))) := by
  rw [← uvs_drop, jpart_drop (by rw [uvs_len]; exact h), uvs_getD h]
theorem jpart_uvs0 [K : Kv] {s : Nat} {l : List UInt32} (h : 0 < l.length) : jpart false s (uvs l) = K.k (.v (.int .u32 ((l.getD 0 0).toNat : Int))) := by
  have := jpart_uvs (K := K) (s := s) (i := 0) h
  rwa [List.drop_zero] at this
/-- An element of a row of such numbers. -/
def ucl (b : UInt32) : List AV := [.v (.int .u32 (b.toNat : Int))]
theorem getD_ucl {l : List UInt32} {i : Nat} (h : i < l.length) : (l.map ucl).getD i [] = [.v (.int .u32 ((l.getD i 0).toNat : Int))] := by
  simp [ucl, List.getD_eq_getElem?_getD, List.getElem?_eq_getElem h]
theorem set_ucl {l : List UInt32} {i : Nat} {b : UInt32} : (l.map ucl).set i [.v (.int .u32 (b.toNat : Int))] = (l.set i b).map ucl := by rw [List.map_set]; rfl

/-! ### sums -/
section
variable (x y : UInt32)
theorem b32_xor : bits .xor .u32 (x.toNat : Int) (y.toNat : Int) = ((x ^^^ y).toNat : Int) := by rw [u32_xor_nat _ _ x.toNat_lt y.toNat_lt, UInt32.toNat_xor]
theorem b32_or : bits .or .u32 (x.toNat : Int) (y.toNat : Int) = ((x ||| y).toNat : Int) := by rw [u32_or_nat _ _ x.toNat_lt y.toNat_lt, UInt32.toNat_or]
theorem b32_and : bits .and .u32 (x.toNat : Int) (y.toNat : Int) = ((x &&& y).toNat : Int) := by rw [u32_and_nat _ _ x.toNat_lt y.toNat_lt, UInt32.toNat_and]
theorem b32_add : IntKind.u32.wrap ((x.toNat : Int) + (y.toNat : Int)) = ((x + y).toNat : Int) := by
  rw [IntKind.wrap_u32, UInt32.toNat_add]
  omega
theorem b32_not : bits .xor .u32 4294967295 (x.toNat : Int) = ((~~~x).toNat : Int) := by
  have h : bits .xor .u32 (((4294967295 : UInt32).toNat : Nat) : Int) (x.toNat : Int) = ((4294967295 ^^^ x).toNat : Int) := b32_xor 4294967295 x
  have e : (4294967295 : UInt32) ^^^ x = ~~~x := by
    apply Go.Sha.u32_ext
    intro i
    simp only [UInt32.toBitVec_xor, UInt32.toBitVec_not, BitVec.getLsbD_xor, BitVec.getLsbD_not]
    have h1 : (4294967295 : UInt32).toBitVec = BitVec.allOnes 32 := rfl
    rw [h1, BitVec.getLsbD_allOnes]
    by_cases hi : i < 32
    · simp [hi]
    · simp [hi, BitVec.getLsbD_of_ge _ _ (Nat.le_of_not_lt hi)]
  rw [e] at h
  exact h
theorem b32_shr {j : Nat} (h : j < 32) : ((x.toNat : Int)).fdiv (2 ^ j) = ((x >>> UInt32.ofNat j).toNat : Int) := by
  have e : ((2 : Int) ^ j) = ((2 ^ j : Nat) : Int) := by simp
  rw [e, Int.fdiv_eq_ediv_of_nonneg _ (Int.natCast_nonneg _), ← Int.natCast_ediv, UInt32.toNat_shiftRight]
  have : (UInt32.ofNat j).toNat % 32 = j := by simp; omega
  rw [this, Nat.shiftRight_eq_div_pow]
theorem b32_shl {j : Nat} (h : j < 32) : IntKind.u32.wrap ((x.toNat : Int) * 2 ^ j) = ((x <<< UInt32.ofNat j).toNat : Int) := by
  have e : ((2 : Int) ^ j) = ((2 ^ j : Nat) : Int) := by simp
  rw [e, IntKind.wrap_u32, UInt32.toNat_shiftLeft]
  have : (UInt32.ofNat j).toNat % 32 = j := by simp; omega
  rw [this, Nat.shiftLeft_eq]
  omega
theorem b32_shr3 : ((x.toNat : Int)).fdiv 8 = ((x >>> 3).toNat : Int) := b32_shr x (j := 3) (by decide)
theorem b32_shr10 : ((x.toNat : Int)).fdiv 1024 = ((x >>> 10).toNat : Int) := b32_shr x (j := 10) (by decide)
end
theorem w32_or (a b c d : UInt8) : bits .or .u32 (bits .or .u32 (bits .or .u32 ((a.toNat : Int) * 16777216) ((b.toNat : Int) * 65536)) ((c.toNat : Int) * 256)) (d.toNat : Int) = ((UInt32.ofNat (a.toNat * 16777216 + b.toNat * 65536 + c.toNat * 256 + d.toNat)).toNat : Int) := by
  have ha := a.toNat_lt
  have hb := b.toNat_lt
  have hc := c.toNat_lt
  have hd := d.toNat_lt
  have hk := fun (n : Int) (h1 : 0 ≤ n) (h2 : n < 2 ^ 32) => IntWalk.u32_in n ⟨h1, by omega⟩
  have h1 := bits_join .u32 32 (by decide) hk 24 ((a.toNat : Int) * 16777216) ((b.toNat : Int) * 65536) (by omega) (by omega) (by omega) (by omega) (by omega) (by omega)
  have h2 := bits_join .u32 32 (by decide) hk 16 ((a.toNat : Int) * 16777216 + (b.toNat : Int) * 65536) ((c.toNat : Int) * 256) (by omega) (by omega) (by omega) (by omega) (by omega) (by omega)
  have h3 := bits_join .u32 32 (by decide) hk 8 ((a.toNat : Int) * 16777216 + (b.toNat : Int) * 65536 + (c.toNat : Int) * 256) (d.toNat : Int) (by omega) (by omega) (by omega) (by omega) (by omega) (by omega)
  rw [h1, h2, h3]
  have : (UInt32.ofNat (a.toNat * 16777216 + b.toNat * 65536 + c.toNat * 256 + d.toNat)).toNat = a.toNat * 16777216 + b.toNat * 65536 + c.toNat * 256 + d.toNat := by
    simp; omega
  omega
theorem w32_add (a b c d : UInt8) : (a.toNat : Int) * 16777216 + (b.toNat : Int) * 65536 + (c.toNat : Int) * 256 + (d.toNat : Int) = ((UInt32.ofNat (a.toNat * 16777216 + b.toNat * 65536 + c.toNat * 256 + d.toNat)).toNat : Int) := by
  have ha := a.toNat_lt
  have hb := b.toNat_lt
  have hc := c.toNat_lt
  have hd := d.toNat_lt
  have : (UInt32.ofNat (a.toNat * 16777216 + b.toNat * 65536 + c.toNat * 256 + d.toNat)).toNat = a.toNat * 16777216 + b.toNat * 65536 + c.toNat * 256 + d.toNat := by
    simp; omega
  omega
section
variable {E : Env} {ty t : TypeId} {x : Operand} {ρ : Operand → AV} {H : Heap} [K : Kvh]
theorem jop_cpl : jop E (.unOp .xor t x) ty ρ H = match ρ x with
    | .v (.int k a) => K.k (.v (.int k (bits .xor k (if k.signed then -1 else k.max) a))) H
    | a => aop E (.unOp .xor t x) ty (fun _ => a) H K.k := by
  split
  · next k a h =>
    show (∃ u, conc (ρ x) = some u ∧ ∃ r, Ret E.P (Op.unary .xor u) r ∧ K.k (cv r) H) = _
    rw [h]
    simp only [conc, Option.some.injEq, exists_eq_left']
    exact pureR (K := fun v => K.k v H) (v := .int k (bits .xor k (if k.signed then -1 else k.max) a)) fun w => rfl
  · rfl
theorem sgn_u32 : IntKind.signed .u32 = false := rfl
theorem max_u32 : IntKind.max .u32 = 4294967295 := rfl
end
theorem flat_ucl (l : List UInt32) : (l.map ucl).flatten = uvs l := by
  induction l with
  | nil => rfl
  | cons b l ih => simp only [List.map_cons, List.flatten_cons, ih, uvs_cons]; rfl
theorem uclss_nb {n : Nat} (l : List UInt32) : nbss n (l.map ucl) = True := eq_true (nbss_map (fun x => by simp [ucl, nbs, nb]) l)
theorem uclss_gf (l : List UInt32) : gfss (l.map ucl) = True := eq_true (by
  induction l with
  | nil => simp [gfss]
  | cons b l ih => simp only [List.map_cons]; unfold gfss; exact ⟨by simp [ucl, gfs, gf], ih⟩)
section
variable {lend : Bool} {σ : List Nat} {H : Heap} {n : Nat}
theorem okVs_bvs (l : List UInt8) : okVs lend σ H n (bvs l) (bvs l) = True := eq_true (by
  induction l with
  | nil => trivial
  | cons b l ih => exact ⟨rfl, ih⟩)
theorem okVs_uvs (l : List UInt32) : okVs lend σ H n (uvs l) (uvs l) = True := eq_true (by
  induction l with
  | nil => trivial
  | cons b l ih => exact ⟨rfl, ih⟩)
end
theorem getI_ucl {l : List UInt32} {i : Nat} (h : i < l.length) : (l.map ucl)[i]? = some [.v (.int .u32 ((l.getD i 0).toNat : Int))] := by
  rw [List.getElem?_map, List.getElem?_eq_getElem h, List.getD_eq_getElem?_getD, List.getElem?_eq_getElem h]
  rfl
theorem getI_bcl {l : List UInt8} {i : Nat} (h : i < l.length) : (l.map bcl)[i]? = some [.v (.int .u8 ((l.getD i 0).toNat : Int))] := by
  rw [List.getElem?_map, List.getElem?_eq_getElem h, List.getD_eq_getElem?_getD, List.getElem?_eq_getElem h]
  rfl
theorem amapss_ucl {f : Nat → Nat} (l : List UInt32) : amapss f (l.map ucl) = l.map ucl := amapss_id (n := 0) (fun r hr => absurd hr (Nat.not_lt_zero r)) (of_eq_true (uclss_nb l))
theorem w32_in (x : UInt32) : IntKind.u32.wrap (x.toNat : Int) = x.toNat := IntWalk.u32_in _ (by have := x.toNat_lt; omega)
/-! ### min, max -/
def jmax2 (P : Program) (ts : List TypeId) (ty : TypeId) (l : List AV) (H : Heap) [K : Kvh] : Prop := abuiltin P .max ts ty l H K.k
def jmin2 (P : Program) (ts : List TypeId) (ty : TypeId) (l : List AV) (H : Heap) [K : Kvh] : Prop := abuiltin P .min ts ty l H K.k
section
variable {E : Env} {P : Program} {ty : TypeId} {ρ : Operand → AV} {H : Heap} [K : Kvh] {ts : List TypeId} {k k' : IntKind} {x y : Int}
theorem jop_max {l : Array Operand} {tt : Array TypeId} : jop E (.call ⟨.builtin .max, l, tt⟩) ty ρ H = @jmax2 E.P tt.toList ty (l.toList.map ρ) H K := (rfl)
theorem jop_min {l : Array Operand} {tt : Array TypeId} : jop E (.call ⟨.builtin .min, l, tt⟩) ty ρ H = @jmin2 E.P tt.toList ty (l.toList.map ρ) H K := (rfl)
theorem jmax_ii : jmax2 P ts ty [.v (.int k x), .v (.int k' y)] H = K.k (.v (.int k (max x y))) H := by
  show (∃ us, concl [AV.v (.int k x), AV.v (.int k' y)] = some us ∧ ∃ r, Ret P (Builtin.max_ ts.toArray ty us.toArray) r ∧ K.k (cv r) H) = _
  simp only [concl, conc, Option.some.injEq, exists_eq_left']
  exact pureR (K := fun v => K.k v H) (v := .int k (max x y)) fun w => Go.Lib.run_max_ints w _ _ k k' x y
theorem jmin_ii : jmin2 P ts ty [.v (.int k x), .v (.int k' y)] H = K.k (.v (.int k (min x y))) H := by
  show (∃ us, concl [AV.v (.int k x), AV.v (.int k' y)] = some us ∧ ∃ r, Ret P (Builtin.min_ ts.toArray ty us.toArray) r ∧ K.k (cv r) H) = _
  simp only [concl, conc, Option.some.injEq, exists_eq_left']
  exact pureR (K := fun v => K.k v H) (v := .int k (min x y)) fun w => Go.Lib.run_min_ints w _ _ k k' x y
end
end Go.Am
