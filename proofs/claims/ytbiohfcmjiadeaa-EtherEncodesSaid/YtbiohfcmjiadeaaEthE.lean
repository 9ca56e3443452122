/- The walk of ether.Decode. No condition but a bound of length. -/
import Derived.Test.YtbiohfcmjiadeaaEthD
import Derived.Laws.CopyRow
import Derived.Deep.WholeRow
namespace Go.Proofs.Ytbiohfcmjiadeaa
open Go.RowKit Go.Cx

def eth0 : Eth := ⟨⟨0, 0, 0, 0, 0, 0⟩, ⟨0, 0, 0, 0, 0, 0⟩, 0, []⟩
def ethOf (a0 a1 a2 a3 a4 a5 b0 b1 b2 b3 b4 b5 t0 t1 : UInt8) (r : List UInt8) : Eth := ⟨⟨a0, a1, a2, a3, a4, a5⟩, ⟨b0, b1, b2, b3, b4, b5⟩, ((256 * t0.toNat + t1.toNat : Nat) : Int), r⟩
def okE (e : Eth) : Eth × Int := if chk e.typ e.pay.length = 0 then (e, 0) else (eth0, chk e.typ e.pay.length)
def decE : List UInt8 → Eth × Int
  | a0 :: a1 :: a2 :: a3 :: a4 :: a5 :: b0 :: b1 :: b2 :: b3 :: b4 :: b5 :: t0 :: t1 :: r => okE (ethOf a0 a1 a2 a3 a4 a5 b0 b1 b2 b3 b4 b5 t0 t1 r)
  | _ => (eth0, 6)

theorem fourteen {l : List UInt8} (h : 14 ≤ l.length) : ∃ a0 a1 a2 a3 a4 a5 b0 b1 b2 b3 b4 b5 t0 t1 r, l = a0 :: a1 :: a2 :: a3 :: a4 :: a5 :: b0 :: b1 :: b2 :: b3 :: b4 :: b5 :: t0 :: t1 :: r := by
  match l, h with
  | a0 :: a1 :: a2 :: a3 :: a4 :: a5 :: b0 :: b1 :: b2 :: b3 :: b4 :: b5 :: t0 :: t1 :: r, _ => exact ⟨_, _, _, _, _, _, _, _, _, _, _, _, _, _, _, rfl⟩
theorem decE_short {l : List UInt8} (h : l.length < 14) : decE l = (eth0, 6) := by
  unfold decE
  split
  · simp at h; omega
  · rfl

theorem copy_new {P : Program} (w : World) (dT sT ty elem : TypeId) (o dLen dCap : Nat) (a : Addr) (sLen sCap : Nat) (Z : Array Value) (t : TypeId) (cs : List Value)
    (hu : P.underlying dT = some (.slice elem)) (hs : (P.info? elem).map (·.size) = some 1) (hn : cs.length = Nat.min sLen dLen)
    (hsrc : ∀ j v, cs[j]? = some v → (w.alloc (.cells Z t)).cell? (a.add j) = some v) (hfit : o + cs.length ≤ Z.size) (h1 : ∀ v ∈ cs, v.oneCell' = true) :
    (Builtin.copy_ #[dT, sT] ty #[.slice (some ⟨w.heap.size, o, none⟩) dLen dCap, .slice (some a) sLen sCap]).run P (w.alloc (.cells Z t)) =
      .ok (.int .i64 cs.length) (w.alloc (.cells (Z.toList.take o ++ cs ++ Z.toList.drop (o + cs.length)).toArray t)) := by
  rw [run_copy_row P (w.alloc (.cells Z t)) dT sT ty elem w.heap.size o dLen dCap a sLen sCap Z t cs hu hs (heap_alloc_new w _) hn hsrc hfit h1, World.setRow_alloc_new]
  rfl

section
variable {P : Program}
theorem run_storeVar_cell (w : World) (g j : Nat) (t ty : TypeId) (old : Array Value) (v : Value) (hg : w.heap[g]? = some (.cells old t (0, 0))) (hi : (P.info? ty).map (·.size) = some 1) (hj : j < old.size) (hv : v.oneCell' = true) (hc : v.cells = #[v]) :
    (storeVar ty ⟨g, j, none⟩ v).run P w = .ok () (w.setRow g (old.toList.take j ++ [v] ++ old.toList.drop (j + 1)).toArray) := by
  have := run_storeCells_at P g j t [v] 0 old w hg (by simp; omega) (by simpa using hv)
  cases hq : P.info? ty with
  | none => simp [hq] at hi
  | some i =>
    have hs : i.size = 1 := by simpa [hq] using hi
    simp only [Nat.add_zero, List.length_singleton] at this
    simp [storeVar, sizeOf, typeInfo, hq, hc, hs]
    simpa using this

theorem wpList_store_cell {ops : Array Oper} {rest : List Oper} {o : Oper} {a : Act} {w : World} {Q : Exit → Act → World → Prop} (hgd : o.guard = none) (ty : TypeId) (x y : Operand) (ho : o.op = .store ty x y)
    (g j : Nat) (v : Value) (hx : a.eval x = .pointer (some ⟨g, j, none⟩)) (hy : a.eval y = v)
    (t : TypeId) (old : Array Value) (hg : w.heap[g]? = some (.cells old t (0, 0))) (hi : (P.info? ty).map (·.size) = some 1)
    (hj : j < old.size) (h1 : v.oneCell' = true) (hc : v.cells = #[v]) {w3 : World} (hset : w.setRow g (old.toList.take j ++ [v] ++ old.toList.drop (j + 1)).toArray = w3)
    (h : wpList P ops Q rest (a.put o.dst undef) w3) : wpList P ops Q (o :: rest) a w :=
  wpList_plain hgd fun _ hK => by
    unfold Oper.wp execOp
    simp only [ho, hx, hy, Instr.storeAt, Instr.sureAddr, Sem.run_bind, Sem.run_pure, Result.andThen_ok, run_storeVar_cell w g j t ty old v hg hi hj h1 hc, hset]
    exact hK _ _ h
/-- .. a whole value. -/
theorem wpList_store_whole {ops : Array Oper} {rest : List Oper} {o : Oper} {a : Act} {w : World} {Q : Exit → Act → World → Prop} (hgd : o.guard = none) (ty : TypeId) (x y : Operand) (ho : o.op = .store ty x y)
    (g : Nat) (cells : Array Value) (hx : a.eval x = .pointer (some ⟨g, 0, none⟩)) (hy : a.eval y = .agg cells)
    (t : TypeId) (old : Array Value) (hg : w.heap[g]? = some (.cells old t (0, 0))) (hi : (P.info? ty).map (·.size) = some cells.size)
    (hold : old.size = cells.size) (h1 : cells.all (·.oneCell') = true) {w3 : World} (hset : w.setRow g cells = w3)
    (h : wpList P ops Q rest (a.put o.dst undef) w3) : wpList P ops Q (o :: rest) a w :=
  wpList_store_row hgd ty x y ho g cells hx hy t old hg hi hold h1 (by rw [hset]; exact h)

theorem results_cell_tmp {fn : Func} {p u : Tmp} {ty : TypeId} (h : fn.results = #[.cell p ty, .tmp u]) (tmps : Array Value) (w : World) (g : Nat) (t : TypeId) (cs : Array Value) (fr : Nat × Nat) (d : TypeDesc)
    (hp : tmps.getD p undef = .pointer (some ⟨g, 0, none⟩)) (hg : w.heap[g]? = some (.cells cs t fr))
    (hu : P.underlying ty = some d) (hd : (match d with | .struct _ | .array _ _ => true | _ => false) = true) (hi : (P.info? ty).map (·.size) = some cs.size) :
    (results fn tmps).run P w = .ok (.tuple #[.agg cs, tmps.getD u undef]) w := by
  have hp' : tmps[p]?.getD undef = .pointer (some ⟨g, 0, none⟩) := by simpa using hp
  simp [results, h, hp', asAddr, run_loadVar_row w g t ty cs fr d hg hu hd hi]
end

theorem setRow_below {w w1 : World} {B g : Nat} {cs : Array Value} (hb : Below B w w1) (hB : B ≤ w1.heap.size) (hg : B ≤ g) : Below B w (w1.setRow g cs) :=
  hb.grown (row := some g) ⟨rfl, rfl, rfl, by simp, fun k _ hk => setRow_other w1 g k cs (fun e => hk (by rw [e]))⟩ hB (fun j hj => by simp at hj; omega)

theorem _root_.Go.Cx.Own.bytes_grown {w w' : World} {base lo : Nat} {e : TypeId} {v : Value} {xs : List UInt8} {row : Option Nat} (h : Own w base e v xs lo) (hg : w.grownBy w' row) (hne : v.ownBlock = none ∨ v.ownBlock ≠ row) : Own w' base e v xs lo := by
  obtain ⟨cells, ho, ha⟩ := h
  rw [RAll_bytes] at ha
  exact ⟨cells, ho.kept hg hne, RAll_bytes.2 ha⟩

theorem ethC_one (E : Eth) (a : Option Addr) (n c : Nat) : (ethC E (.slice a n c)).all (·.oneCell') = true := by
  simp [ethC, Value.oneCell']

theorem Try.sizeSl : (Try.prog.info? 24).map (·.size) = some 1 := by kernel_rfl
theorem Try.sizeEth : (Try.prog.info? 26).map (·.size) = some 14 := by kernel_rfl

theorem six {w : World} {b off : Nat} {u0 u1 u2 u3 u4 u5 : Value} (h0 : w.cell? ⟨b, off, none⟩ = some u0) (h1 : w.cell? ⟨b, off + 1, none⟩ = some u1) (h2 : w.cell? ⟨b, off + 2, none⟩ = some u2) (h3 : w.cell? ⟨b, off + 3, none⟩ = some u3)
    (h4 : w.cell? ⟨b, off + 4, none⟩ = some u4) (h5 : w.cell? ⟨b, off + 5, none⟩ = some u5) (hb : b < w.heap.size) (o : Obj) : ∀ j v, [u0, u1, u2, u3, u4, u5][j]? = some v → (w.alloc o).cell? ((⟨b, off, none⟩ : Addr).add j) = some v := by
  intro j v hj
  rw [addr_add, World.cell?_alloc_lt _ _ _ hb]
  have : j < 6 := by have := (List.getElem?_eq_some_iff.1 hj).1; simpa using this
  match j, this with
  | 0, _ => rw [← hj]; exact h0
  | 1, _ => rw [← hj]; exact h1
  | 2, _ => rw [← hj]; exact h2
  | 3, _ => rw [← hj]; exact h3
  | 4, _ => rw [← hj]; exact h4
  | 5, _ => rw [← hj]; exact h5

theorem Try.size1 : (Try.prog.info? 5).map (·.size) = some 1 := by kernel_rfl

set_option maxRecDepth 100000 in
set_option maxHeartbeats 1600000 in
theorem decode_any (v : Value) (l : List UInt8) (w : World) (h : RSl (fun b => b < w.heap.size) w v l) (hl : l.length ≤ 1073741824) :
    Calls Try.prog 15 #[v] w fun r w' => ∃ pv, r = .returned (.tuple #[ethV (decE l).1 pv, .int .i64 (decE l).2]) ∧ Own w' w.heap.size 5 pv (decE l).1.pay ∧ Below w.heap.size w w' := by
  obtain ⟨ao, cap, rfl, hr⟩ := h.bytes
  have hM := hr.max
  have hc := hr.cle
  unfold maxLen at hM
  by_cases h14 : l.length < 14
  · rw [decE_short h14]
    unfold ethV ethC eth0
    have h14' : (l.length : Int) < 14 := by omega
    clear hr h
    go_enter Try.func15, Try.ntmps15
    go_wp2
    (try simp only [Exit.inBlock, Exit.then])
    refine bodyPost_ret (results_cell_tmp rfl _ _ w.heap.size _ _ _ _ rfl (heap_alloc_new w _) Try.underlying26 rfl Try.sizeEth) rfl ?_
    exact ⟨_, rfl, Own.nil _ _ _, (Below.refl _ _).alloc (Nat.le_refl _) _⟩
  · obtain ⟨a0, a1, a2, a3, a4, a5, b0, b1, b2, b3, b4, b5, t0, t1, r, rfl⟩ := fourteen (l := l) (by omega)
    obtain ⟨n, hn⟩ : ∃ n, n = (a0 :: a1 :: a2 :: a3 :: a4 :: a5 :: b0 :: b1 :: b2 :: b3 :: b4 :: b5 :: t0 :: t1 :: r).length := ⟨_, rfl⟩
    rw [← hn] at hr hl h14 hc ⊢
    rcases hr.at_ with ⟨h0, _⟩ | ⟨b, off, rfl, hgb, hcc⟩
    · omega
    have ht := hr.cut (lo := 14) (hi := n) (by omega) (Nat.le_refl _)
    have c0 := hcc 0 _ rfl; have c1 := hcc 1 _ rfl; have c2 := hcc 2 _ rfl; have c3 := hcc 3 _ rfl; have c4 := hcc 4 _ rfl; have c5 := hcc 5 _ rfl
    have d0 := hcc 6 _ rfl; have d1 := hcc 7 _ rfl; have d2 := hcc 8 _ rfl; have d3 := hcc 9 _ rfl; have d4 := hcc 10 _ rfl; have d5 := hcc 11 _ rfl
    have e0 := hcc 12 _ rfl; have e1 := hcc 13 _ rfl
    unfold bv at c0 c1 c2 c3 c4 c5 d0 d1 d2 d3 d4 d5 e0 e1
    have hx' := t0.toNat_lt
    have hy' := t1.toNat_lt
    have Hn := Lib.hid hn
    have Ht := Lib.hid ht
    clear hcc hr h hn ht
    have hn14 : (14 : Int) ≤ n := by omega
    obtain ⟨E, hE⟩ : ∃ E, E = ethOf a0 a1 a2 a3 a4 a5 b0 b1 b2 b3 b4 b5 t0 t1 r := ⟨_, rfl⟩
    have hdE : decE (a0 :: a1 :: a2 :: a3 :: a4 :: a5 :: b0 :: b1 :: b2 :: b3 :: b4 :: b5 :: t0 :: t1 :: r) = if chk E.typ r.length = 0 then (E, 0) else (eth0, chk E.typ r.length) := by
      rw [decE, okE, hE]
      rfl
    rw [hdE]
    clear hdE
    generalize hD : (if chk E.typ r.length = 0 then (E, 0) else (eth0, chk E.typ r.length)) = D
    have HD := Lib.hid hD
    have HE := Lib.hid hE
    clear hD hE
    go_enter Try.func15, Try.ntmps15
    go_wp2_with fail
    refine (take2_any t0 t1 b (off + 12) _ (by simp; omega) ((World.cell?_alloc_lt _ _ _ hgb).trans e0) ((World.cell?_alloc_lt _ _ _ hgb).trans e1)).mono ?_
    rintro e w1 ⟨v1, rfl, hb1⟩
    have hres := (hb1.block w.heap.size (by simp)).trans (heap_alloc_new w _)
    have bw1 : Below w.heap.size w w1 := ((Below.refl _ _).alloc (Nat.le_refl _) _).trans (hb1.mono (by simp))
    have hs1 : w.heap.size < w1.heap.size := by have := hb1.size; simp at this; omega
    have up := fun o => bw1.cell (p := ⟨b, o, none⟩) hgb
    have C0 := (up _).trans c0; have C1 := (up _).trans c1; have C2 := (up _).trans c2; have C3 := (up _).trans c3; have C4 := (up _).trans c4; have C5 := (up _).trans c5
    have D0 := (up _).trans d0; have D1 := (up _).trans d1; have D2 := (up _).trans d2; have D3 := (up _).trans d3; have D4 := (up _).trans d4; have D5 := (up _).trans d5
    clear c0 c1 c2 c3 c4 c5 d0 d1 d2 d3 d4 d5 e0 e1 up hb1
    have hgb1 : b < w1.heap.size := by omega
    rw [Nat.add_zero] at C0
    have one6 : ∀ (x0 x1 x2 x3 x4 x5 : UInt8), ∀ v ∈ [Value.int .u8 x0.toNat, .int .u8 x1.toNat, .int .u8 x2.toNat, .int .u8 x3.toNat, .int .u8 x4.toNat, .int .u8 x5.toNat], v.oneCell' = true := by
      intro x0 x1 x2 x3 x4 x5 v hv
      simp only [List.mem_cons, List.not_mem_nil, or_false] at hv
      rcases hv with rfl | rfl | rfl | rfl | rfl | rfl <;> rfl
    have cp1 := copy_new (P := Try.prog) w1 24 24 3 5 0 6 6 ⟨b, off, none⟩ 14 14 #[.int .u8 0, .int .u8 0, .int .u8 0, .int .u8 0, .int .u8 0, .int .u8 0, .int .u8 0, .int .u8 0, .int .u8 0, .int .u8 0, .int .u8 0, .int .u8 0, .int .i64 0, .slice none 0 0] 26 _ Try.underlying24 Try.size1 rfl (six C0 C1 C2 C3 C4 C5 hgb1 _) (by simp) (one6 _ _ _ _ _ _)
    have cp2 := copy_new (P := Try.prog) w1.drew 24 24 3 5 6 6 6 ⟨b, off + 6, none⟩ 8 8 #[.int .u8 a0.toNat, .int .u8 a1.toNat, .int .u8 a2.toNat, .int .u8 a3.toNat, .int .u8 a4.toNat, .int .u8 a5.toNat, .int .u8 0, .int .u8 0, .int .u8 0, .int .u8 0, .int .u8 0, .int .u8 0, .int .i64 0, .slice none 0 0] 26 _ Try.underlying24 Try.size1 rfl (six (w := w1.drew) D0 D1 D2 D3 D4 D5 hgb1 _) (by simp) (one6 _ _ _ _ _ _)
    simp only [List.length_cons, List.length_nil, Nat.zero_add, Nat.reduceAdd, List.take_zero, List.nil_append, List.drop_succ_cons, List.drop_zero, List.cons_append, List.take_succ_cons] at cp1 cp2
    have cp3 : ∀ (x : Value) (Z Z' : Array Value), (Builtin.copy_ #[24, 24] 3 #[.slice (some ⟨w1.drew.heap.size, 6, none⟩) 6 6, .slice (some ⟨b, off + 6, none⟩) 8 8]).run Try.prog (w1.drew.alloc (.cells Z 26)) = .ok x (w1.drew.alloc (.cells Z' 26)) →
        (Builtin.copy_ #[24, 24] 3 #[.slice (some ⟨w1.heap.size, 6, none⟩) 6 6, .slice (some ⟨b, off + 6, none⟩) 8 8]).run Try.prog (w1.alloc (.cells Z 26)).drew = .ok x (w1.alloc (.cells Z' 26)).drew := fun _ _ _ h => h
    replace cp2 := cp3 _ _ _ cp2
    clear cp3
    go_wp2_with fail
    go_region
    clear cp1 cp2 one6 C0 C1 C2 C3 C4 C5 D0 D1 D2 D3 D4 D5
    obtain ⟨A, hA, hrA⟩ := Ht.out
    clear Ht
    rw [Nat.mul_one] at hA
    have hdr : (List.drop (14 * 1) (List.take (n * 1) (List.map bv (a0 :: a1 :: a2 :: a3 :: a4 :: a5 :: b0 :: b1 :: b2 :: b3 :: b4 :: b5 :: t0 :: t1 :: r)))) = r.map bv := by
      rw [Nat.mul_one, Nat.mul_one, Hn.out, ← List.map_take, List.take_length]
      rfl
    rw [hdr] at hrA
    have hnr : n - 14 = r.length := by rw [Hn.out]; simp
    have wi : IntKind.i64.wrap (256 * (t0.toNat : Int) + t1.toNat) = 256 * (t0.toNat : Int) + t1.toNat := by rw [IntKind.wrap_i64]; omega
    have Hrow := Lib.hid (RSl.of_bytes hnr.symm hrA)
    have Hnr := Lib.hid hnr
    clear hrA hdr hnr
    have bc : ∀ Z, Below w.heap.size w (w1.alloc (.cells Z 26)).drew := fun Z => (bw1.alloc bw1.size _).drew
    have Bc := Lib.hid bc
    clear bc
    have hlr : r.length ≤ 68719476736 := by have := Hnr.out; omega
    go_wp2_with fail
    refine (sclone_any _ r _ (Hrow.out.now (Bc.out _)) hlr).mono ?_
    rintro e w2 ⟨v2, rfl, hown2, hb2⟩
    have hg2 := (hb2.block w1.heap.size (by simp)).trans (heap_alloc_new w1 _)
    have hr2 := (hb2.block w.heap.size (by simp; omega)).trans ((heap_alloc_old w1 _ hs1).trans hres)
    have hs2 : w1.heap.size < w2.heap.size := by have := hb2.size; simp at this; omega
    have bw2 : Below w.heap.size w w2 := (Bc.out _).trans (hb2.mono (by simp; omega))
    obtain ⟨va, vc, rfl⟩ := hown2.val
    clear hb2 hres hA
    obtain ⟨w3, hw3⟩ : ∃ w3, w2.setRow w1.heap.size (ethC E (.slice va r.length vc)) = w3 := ⟨_, rfl⟩
    have hg3 : w3.heap[w1.heap.size]? = some (.cells (ethC E (.slice va r.length vc)) 26 (0, 0)) := by rw [← hw3]; exact setRow_heap w2 _ _ _ _ _ hg2
    have hr3 := (setRow_other w2 w1.heap.size w.heap.size (ethC E (.slice va r.length vc)) (by omega)).trans hr2
    rw [hw3] at hr3
    have bw3 : Below w.heap.size w w3 := by rw [← hw3]; exact setRow_below bw2 bw2.size (by omega)
    have hs3 : w3.heap.size = w2.heap.size := by rw [← hw3]; simp
    have Hown3 : Own w3 (w.heap.size + 1) 5 (.slice va r.length vc) r := by
      have h1 : Own w3 (w1.heap.size + 1) 5 (.slice va r.length vc) r := by
        rw [← hw3]
        have h2 : Own w2 (w1.heap.size + 1) 5 (.slice va r.length vc) r := hown2.base (by simp)
        refine Own.bytes_grown h2 (row := some w1.heap.size) ⟨rfl, rfl, rfl, by simp, fun k _ hk => setRow_other w2 w1.heap.size k _ (fun e => hk (by rw [e]))⟩ (.inr fun e => ?_)
        have := (h2.lt _ e).1
        omega
      exact h1.base (by omega)
    have Hset := Lib.hid (show w2.setRow w1.heap.size ((#[.int .u8 a0.toNat, .int .u8 a1.toNat, .int .u8 a2.toNat, .int .u8 a3.toNat, .int .u8 a4.toNat, .int .u8 a5.toNat, .int .u8 b0.toNat, .int .u8 b1.toNat, .int .u8 b2.toNat, .int .u8 b3.toNat, .int .u8 b4.toNat, .int .u8 b5.toNat, .int .i64 (256 * (t0.toNat : Int) + t1.toNat), .slice none 0 0] : Array Value).toList.take 13 ++ [Value.slice va r.length vc] ++ (#[.int .u8 a0.toNat, .int .u8 a1.toNat, .int .u8 a2.toNat, .int .u8 a3.toNat, .int .u8 a4.toNat, .int .u8 a5.toNat, .int .u8 b0.toNat, .int .u8 b1.toNat, .int .u8 b2.toNat, .int .u8 b3.toNat, .int .u8 b4.toNat, .int .u8 b5.toNat, .int .i64 (256 * (t0.toNat : Int) + t1.toNat), .slice none 0 0] : Array Value).toList.drop (13 + 1)).toArray = w3 by rw [← hw3, HE.out]; rfl)
    have HG2 := Lib.hid hg2
    clear hg2 hr2 bw2 hw3 hown2
    have hty : E.typ = ((256 * t0.toNat + t1.toNat : Nat) : Int) ∧ E.pay = r := by rw [HE.out]; exact ⟨rfl, rfl⟩
    have Hty := Lib.hid hty
    clear hty
    by_cases hk : chk E.typ r.length = 0
    · have hD := HD.out
      rw [if_pos hk] at hD
      subst hD
      clear HD
      go_wp2_with (first
        | (refine wpList_store_cell rfl 24 _ _ rfl w1.heap.size 13 (.slice va r.length vc) rfl rfl 26 _ HG2.out Try.sizeSl (by simp) rfl rfl Hset.out ?_; clear Hset)
        | (revert hg3; intro hg3; refine wpList_load_row rfl 26 _ rfl w1.heap.size rfl _ _ _ _ hg3 Try.underlying26 rfl Try.sizeEth ?_)
        | (refine wpList_load_row rfl 26 _ rfl w1.heap.size rfl _ _ _ _ hg4 Try.underlying26 rfl Try.sizeEth ?_)
        | (refine wpList_store_whole rfl 26 _ _ rfl w.heap.size _ rfl rfl 26 _ hr4 Try.sizeEth rfl (ethC_one _ _ _ _) rfl ?_)
        | (go_at_call 12; refine (check_any E va r.length vc w3 (by omega)).mono ?_; rintro e w4 ⟨rfl, hb4⟩; have hg4 := (hb4.block w1.heap.size (by omega)).trans hg3; have hr4 := (hb4.block w.heap.size (by omega)).trans hr3; have bw4 : Below w.heap.size w w4 := bw3.trans (hb4.mono bw3.size); have hown4 := Hown3.below hb4; clear hg3 hr3))
      have hg5 := setRow_heap w4 w.heap.size _ (ethC E (.slice va r.length vc)) _ _ hr4
      have hown5 : Own (w4.setRow w.heap.size (ethC E (.slice va r.length vc))) w.heap.size 5 (.slice va r.length vc) r := by
        have h1 : Own (w4.setRow w.heap.size (ethC E (.slice va r.length vc))) (w.heap.size + 1) 5 (.slice va r.length vc) r := by
          refine Own.bytes_grown hown4 (row := some w.heap.size) ⟨rfl, rfl, rfl, by simp, fun k _ hk => setRow_other w4 w.heap.size k _ (fun e => hk (by rw [e]))⟩ (.inr fun e => ?_)
          have := (hown4.lt _ e).1
          omega
        exact h1.base (Nat.le_succ _)
      (try simp only [Exit.inBlock, Exit.then])
      refine bodyPost_ret (results_cell_tmp rfl _ _ w.heap.size _ _ _ _ rfl hg5 Try.underlying26 rfl Try.sizeEth) rfl ?_
      exact ⟨_, rfl, by simp only [Hty.out.2]; exact hown5, setRow_below bw4 bw4.size (Nat.le_refl _)⟩
    · have hD := HD.out
      rw [if_neg hk] at hD
      subst hD
      clear HD
      have hk1 : (chk E.typ r.length != 0) = true := by simpa using hk
      have hk2 : ¬ chk E.typ r.length = 0 := hk
      generalize hce : chk E.typ r.length = ce at *
      have HC := Lib.hid hce
      clear hce hk
      go_wp2_with (first
        | (refine wpList_store_cell rfl 24 _ _ rfl w1.heap.size 13 (.slice va r.length vc) rfl rfl 26 _ HG2.out Try.sizeSl (by simp) rfl rfl Hset.out ?_; clear Hset)
        | (revert hg3; intro hg3; refine wpList_load_row rfl 26 _ rfl w1.heap.size rfl _ _ _ _ hg3 Try.underlying26 rfl Try.sizeEth ?_)
        | (refine wpList_store_whole rfl 26 _ _ rfl w.heap.size (ethC eth0 (.slice none 0 0)) rfl rfl 26 _ hr4 Try.sizeEth rfl (ethC_one _ _ _ _) rfl ?_)
        | (go_at_call 12; refine (check_any E va r.length vc w3 (by omega)).mono ?_; rw [HC.out]; rintro e w4 ⟨rfl, hb4⟩; have hr4 := (hb4.block w.heap.size (by omega)).trans hr3; have bw4 : Below w.heap.size w w4 := bw3.trans (hb4.mono bw3.size); clear hg3 hr3))
      have hg5 := setRow_heap w4 w.heap.size _ (ethC eth0 (.slice none 0 0)) _ _ hr4
      (try simp only [Exit.inBlock, Exit.then])
      refine bodyPost_ret (results_cell_tmp rfl _ _ w.heap.size _ _ _ _ rfl hg5 Try.underlying26 rfl Try.sizeEth) rfl ?_
      exact ⟨_, by rw [HC.out]; rfl, Own.nil _ _ _, setRow_below bw4 bw4.size (Nat.le_refl _)⟩
end Go.Proofs.Ytbiohfcmjiadeaa
