/- The abstract machine: arrays of bytes and numbers. No condition. -/
import Derived.Test.YtckppkimjiifpaaAk
import Derived.Test.YtckppkimjiifpaaLib2
set_option linter.unusedSectionVars false
set_option linter.unusedVariables false
set_option linter.unusedSimpArgs false
set_option linter.deprecated false
namespace Go.Am
open Go.RowKit Go.Cx

/-- The cells of an array of bytes. -/
def bvs (l : List UInt8) : List AV := l.map fun b => .v (.int .u8 (b.toNat : Int))
theorem bvs_len (l : List UInt8) : (bvs l).length = l.length := by simp [bvs]
theorem bvs_nil : bvs [] = [] := rfl
theorem bvs_cons (b : UInt8) (l : List UInt8) : bvs (b :: l) = .v (.int .u8 (b.toNat : Int)) :: bvs l := rfl
theorem bvs_app (l m : List UInt8) : bvs l ++ bvs m = bvs (l ++ m) := by simp [bvs]
theorem bvs_drop (l : List UInt8) (k : Nat) : (bvs l).drop k = bvs (l.drop k) := by simp [bvs, List.map_drop]
theorem bvs_take (l : List UInt8) (k : Nat) : (bvs l).take k = bvs (l.take k) := by simp [bvs, List.map_take]
theorem bvs_getD {l : List UInt8} {i : Nat} {d : AV} (h : i < l.length) : (bvs l).getD i d = .v (.int .u8 ((l.getD i 0).toNat : Int)) := by
  simp [bvs, List.getD_eq_getElem?_getD, List.getElem?_eq_getElem h]
theorem bvs_set (l : List UInt8) (i : Nat) (b : UInt8) : (bvs l).set i (.v (.int .u8 (b.toNat : Int))) = bvs (l.set i b) := by simp [bvs, List.map_set]
theorem splice_one {off : Nat} {x : AV} {l : List AV} (h : off < l.length) : splice off [x] l = l.set off x := by
  unfold splice
  rw [List.set_eq_take_append_cons_drop, if_pos h]
  simp
theorem splice_bvs {off : Nat} {b : UInt8} {l : List UInt8} (h : off < l.length) : splice off [.v (.int .u8 (b.toNat : Int))] (bvs l) = bvs (l.set off b) := by
  rw [splice_one (by rw [bvs_len]; exact h), bvs_set]
/-- An object's cells, written one by one. -/
theorem splice_cs {off : Nat} {new cs : List AV} {c : AV} : splice off new (c :: cs) = (c :: cs).take off ++ new ++ (c :: cs).drop (off + new.length) := (rfl)
theorem splice_row {off : Nat} {m l : List UInt8} : splice off (bvs m) (bvs l) = bvs (l.take off ++ m ++ l.drop (off + m.length)) := by
  unfold splice
  simp [bvs, List.map_take, List.map_drop]
theorem chunks_bvs : ∀ {n : Nat} {l : List UInt8}, n ≤ l.length → chunks 1 n (bvs l) = (l.take n).map bcl
  | 0, l, _ => by simp [chunks]
  | n + 1, [], h => by simp at h
  | n + 1, b :: l, h => by
    unfold chunks
    rw [bvs_cons]
    simp only [List.take_succ_cons, List.take_zero, List.drop_succ_cons, List.drop_zero, List.map_cons]
    rw [chunks_bvs (by simpa using h)]
    rfl
theorem flat_bcl (l : List UInt8) : (l.map bcl).flatten = bvs l := by
  induction l with
  | nil => rfl
  | cons b l ih => simp only [List.map_cons, List.flatten_cons, ih, bvs_cons]; rfl
theorem nbs_bvs {n : Nat} (l : List UInt8) : nbs n (bvs l) = True := eq_true (nbs_iff.2 fun a ha => by
  obtain ⟨b, _, rfl⟩ := List.mem_map.1 ha
  trivial)
theorem gfs_bvs (l : List UInt8) : gfs (bvs l) = True := eq_true (by
  induction l with
  | nil => trivial
  | cons b l ih => exact ⟨trivial, ih⟩)
theorem amaps_bvs {f : Nat → Nat} (l : List UInt8) : amaps f (bvs l) = bvs l := amaps_id (n := 0) (fun r hr => absurd hr (Nat.not_lt_zero r)) (of_eq_true (nbs_bvs l))
section
variable [K : Kv]
theorem jpart_drop {s i : Nat} {cs : List AV} (h : i < cs.length) : jpart false s (cs.drop i) = K.k (cs.getD i .any) := by
  rw [List.drop_eq_getElem_cons h, List.getD_eq_getElem?_getD, List.getElem?_eq_getElem h]
  unfold jpart
  exact apart_f
theorem jpart_bvs {s i : Nat} {l : List UInt8} (h : i < l.length) : jpart false s (bvs (l.drop i)) = K.k (.v (.int .u8 ((l.getD i 0).toNat : Int))) := by
  rw [← bvs_drop, jpart_drop (by rw [bvs_len]; exact h), bvs_getD h]
end
end Go.Am
namespace Go.Am
open Go.RowKit Go.Cx

theorem conc_ints {k : IntKind} (l : List Int) : conc (.agg (l.map fun a => .v (.int k a))) = some (.agg (l.map (Value.int k)).toArray) := by
  have : concs (l.map fun a => .v (.int k a)) = some (l.map (Value.int k)) := by
    induction l with
    | nil => rfl
    | cons a l ih => simp only [List.map_cons, concs, ih, Option.map_some]
  simp only [conc, this, Option.map_some]
section
variable {P : Program} {t e : TypeId} {n : Nat} {k : IntKind} {z : Option Value} {b : Nat} {x y : Operand}
theorem run_arr (ht : P.underlying t = some (.array n e)) (he : P.underlying e = some (.int k)) (hi : (P.info? e).map (fun i => (i.zero, i.size, i.bytes)) = some (z, 1, b)) (hg : P.eqGuardType P.depth t = false)
    {op : BinOp} (l m : List Int) (hl : l.length = n) (hm : m.length = n) (w : World) : (eqGuard op t x y (.agg (l.map (Value.int k)).toArray) (.agg (m.map (Value.int k)).toArray)).run P w = .ok () w := by
  cases op <;> first | rfl | (simp [eqGuard, hg, run_program])
theorem jbin_arr_eql (ht : P.underlying t = some (.array n e)) (he : P.underlying e = some (.int k)) (hi : (P.info? e).map (fun i => (i.zero, i.size, i.bytes)) = some (z, 1, b)) (hg : P.eqGuardType P.depth t = false) {K : Kv}
    (l m : List Int) (hl : l.length = n) (hm : m.length = n) : jbin P .eql t x y (.agg (l.map fun a => .v (.int k a))) (.agg (m.map fun a => .v (.int k a))) = K.k (.v (.bool (decide (l = m)))) := by
  unfold jbin abin
  rw [conc_ints, conc_ints]
  refine pureR (v := .bool (decide (l = m))) fun w => ?_
  have h1 := run_arr (x := x) (y := y) (op := .eql) ht he hi hg l m hl hm w
  have h2 := eq_ints ht he hi l m hl hm w
  rw [Sem.run_bind, h1]
  show (do pure (Value.bool (← Op.equalIn 10000 t _ _)) : Sem Value).run P w = _
  rw [Sem.run_bind, h2]
  rfl
theorem jbin_arr_neq (ht : P.underlying t = some (.array n e)) (he : P.underlying e = some (.int k)) (hi : (P.info? e).map (fun i => (i.zero, i.size, i.bytes)) = some (z, 1, b)) (hg : P.eqGuardType P.depth t = false) {K : Kv}
    (l m : List Int) (hl : l.length = n) (hm : m.length = n) : jbin P .neq t x y (.agg (l.map fun a => .v (.int k a))) (.agg (m.map fun a => .v (.int k a))) = K.k (.v (.bool (!decide (l = m)))) := by
  unfold jbin abin
  rw [conc_ints, conc_ints]
  refine pureR (v := .bool (!decide (l = m))) fun w => ?_
  have h1 := run_arr (x := x) (y := y) (op := .neq) ht he hi hg l m hl hm w
  have h2 := eq_ints ht he hi l m hl hm w
  rw [Sem.run_bind, h1]
  show (do pure (Value.bool (!(← Op.equalIn 10000 t _ _))) : Sem Value).run P w = _
  rw [Sem.run_bind, h2]
  rfl
theorem u8_map (l : List UInt8) : bvs l = (l.map fun a => (a.toNat : Int)).map fun a => .v (.int .u8 a) := by simp [bvs]
theorem u8_inj (l m : List UInt8) : (l.map (fun a => (a.toNat : Int)) = m.map fun a => (a.toNat : Int)) ↔ l = m := by
  constructor
  · intro h
    exact List.map_inj_right (fun a b e => UInt8.toNat_inj.1 (Int.ofNat.inj e)) |>.1 h
  · rintro rfl
    rfl
theorem jbin_bvs_eql (ht : P.underlying t = some (.array n e)) (he : P.underlying e = some (.int .u8)) (hi : (P.info? e).map (fun i => (i.zero, i.size, i.bytes)) = some (z, 1, b)) (hg : P.eqGuardType P.depth t = false) {K : Kv}
    (l m : List UInt8) (hl : l.length = n) (hm : m.length = n) : jbin P .eql t x y (.agg (bvs l)) (.agg (bvs m)) = K.k (.v (.bool (decide (l = m)))) := by
  rw [u8_map, u8_map, jbin_arr_eql ht he hi hg _ _ (by simpa using hl) (by simpa using hm)]
  simp only [u8_inj]
theorem jbin_bvs_neq (ht : P.underlying t = some (.array n e)) (he : P.underlying e = some (.int .u8)) (hi : (P.info? e).map (fun i => (i.zero, i.size, i.bytes)) = some (z, 1, b)) (hg : P.eqGuardType P.depth t = false) {K : Kv}
    (l m : List UInt8) (hl : l.length = n) (hm : m.length = n) : jbin P .neq t x y (.agg (bvs l)) (.agg (bvs m)) = K.k (.v (.bool (!decide (l = m)))) := by
  rw [u8_map, u8_map, jbin_arr_neq ht he hi hg _ _ (by simpa using hl) (by simpa using hm)]
  simp only [u8_inj]
section
variable {lo : Option AV} {hi mx : AV} {K : Kv} {sz : Nat}
theorem jslice3_sl {es : List (List AV)} : jslice P t (.sl sz es) lo (some hi) (some mx) = match slI P t, abound lo 0, abound (some hi) es.length, abound (some mx) es.length with
    | some (_, s), some l, some h, some m => (0 ≤ l ∧ l ≤ h ∧ h ≤ m ∧ m ≤ es.length) ∧ (if m = l then K.k .mt else sz = s ∧ K.k (.sl s ((es.take h.toNat).drop l.toNat)))
    | _, _, _, _ => False := by
  unfold jslice aslice
  apply propext
  simp only [alen, Option.some.injEq, Option.isSome_some, true_and, forall_const]
  constructor
  · rintro ⟨e, s, h1, n, rfl, l, h, m, h2, h3, h4, h5, h6, h7⟩
    rw [h1, h2, h3, h4]
    refine ⟨h5, ?_⟩
    split
    · next q => exact h6 q
    · next q => obtain ⟨rfl, k⟩ := h7 q; exact ⟨rfl, k⟩
  · intro h0
    split at h0
    case h_2 => exact h0.elim
    case h_1 e s l h m h1 h2 h3 h4 =>
    obtain ⟨h5, h6⟩ := h0
    refine ⟨e, s, h1, _, rfl, l, h, m, h2, h3, h4, h5, fun q => ?_, fun q => ?_⟩
    · rw [if_pos q] at h6; exact h6
    · rw [if_neg q] at h6; exact h6
end
end
theorem flat_bc {b : UInt8} {l : List (List AV)} : (bcl b :: l).flatten = .v (.int .u8 (b.toNat : Int)) :: l.flatten := (rfl)
theorem rd_row {σ : List Nat} {H : Heap} {n r k : Nat} {hot : Bool} {l : List UInt8} (hr : r ∉ σ) (hb : H[r]? = some (some (.row hot 1 (l.map bcl)))) (hk : l.length = k) : rdV true σ H n (.hs r 1 0 k) (.sl 1 (l.map bcl)) := by
  subst hk
  refine rd_hs hr ?_ (nbss_bytes _) (of_eq_true (gfss_bcl _))
  unfold elems
  simp only [hb]
  rw [if_pos ⟨trivial, trivial, by simp⟩, List.drop_zero, List.take_of_length_le (by simp)]
theorem jpart_bcl {K : Kv} {s : Nat} {b : UInt8} : jpart false s (bcl b) = K.k (.v (.int .u8 (b.toNat : Int))) := by unfold bcl; exact jpart_f
theorem rd_bytesE {lend : Bool} {σ : List Nat} {H : Heap} {n : Nat} {es : List (List AV)} {l : List UInt8} (h : es = l.map bcl) : rdV lend σ H n (.sl 1 es) (.sl 1 (l.map bcl)) := by rw [h]; exact rd_bytes
end Go.Am
