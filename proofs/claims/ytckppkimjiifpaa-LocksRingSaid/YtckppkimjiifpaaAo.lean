/- The abstract machine: the model does what it says, operation by operation. No condition. -/
import Derived.Test.YtckppkimjiifpaaAn
set_option linter.unusedSectionVars false
set_option linter.unusedVariables false
set_option linter.unusedSimpArgs false
set_option linter.deprecated false
namespace Go.Am
open Go.RowKit Go.Cx

/-! ### types -/
theorem tyI_out {P : Program} {t : TypeId} {s : Nat} {g : Bool} {z : List AV} (h : tyI P t = some (s, g, z)) :
    (∀ w, (sizeOf t).run P w = .ok s w) ∧ (∀ w, (isAgg t).run P w = .ok g w) ∧
    ∃ i d zv, P.info? t = some i ∧ P.underlying t = some d ∧ i.zero = some zv ∧ i.size = s ∧ zv.cells.size = s ∧ zv.cells.all (·.oneCell') = true ∧ z = zv.cells.toList.map .v ∧ g = isAggD d := by
  unfold tyI at h
  split at h
  case h_2 => cases h
  case h_1 i d hi hd =>
  split at h
  case h_2 => cases h
  case h_1 zv hz =>
  split at h
  case isFalse => cases h
  case isTrue hc =>
  simp only [Option.some.injEq, Prod.mk.injEq] at h
  obtain ⟨rfl, rfl, rfl⟩ := h
  refine ⟨fun w => by simp [sizeOf, typeInfo, hi], fun w => ?_, i, d, zv, hi, hd, hz, rfl, hc.1, hc.2, rfl, rfl⟩
  unfold isAgg
  rw [Sem.run_bind, run_underlying hd w]
  cases d <;> simp [isAggD]

theorem slI_out {P : Program} {t e : TypeId} {sz : Nat} (h : slI P t = some (e, sz)) :
    P.underlying t = some (.slice e) ∧ (∀ w, (sizeOf e).run P w = .ok sz w) ∧ ∃ i zv, P.info? e = some i ∧ i.zero = some zv ∧ i.size = sz ∧ zv.cells.size = sz ∧ i.bytes ≤ 1024 := by
  unfold slI at h
  split at h
  case h_2 => cases h
  case h_1 e' hu =>
  split at h
  case h_2 => cases h
  case h_1 i hi =>
  split at h
  case h_2 => cases h
  case h_1 zv hz =>
  split at h
  case isFalse => cases h
  case isTrue hc =>
  simp only [Option.some.injEq, Prod.mk.injEq] at h
  obtain ⟨rfl, rfl⟩ := h
  exact ⟨hu, fun w => by simp [sizeOf, typeInfo, hi], i, zv, hi, hz, rfl, hc.1, hc.2⟩

theorem fieldI_out {P : Program} {f : Field} {off s : Nat} {g : Bool} (h : fieldI P f = some (off, s, g)) :
    f.offset = off ∧ (∀ w, (sizeOf f.type).run P w = .ok s w) ∧ (∀ w, (isAgg f.type).run P w = .ok g w) := by
  unfold fieldI at h
  split at h
  case h_2 => cases h
  case h_1 i d hi hd =>
  simp only [Option.some.injEq, Prod.mk.injEq] at h
  obtain ⟨rfl, rfl, rfl⟩ := h
  refine ⟨rfl, fun w => by simp [sizeOf, typeInfo, hi], fun w => ?_⟩
  unfold isAgg
  rw [Sem.run_bind, run_underlying hd w]
  cases d <;> simp [isAggD]

theorem fieldsI_out {P : Program} : ∀ {fs : List Field} {l : List (Nat × Nat × Bool)}, fieldsI P fs = some l → l.length = fs.length ∧ ∀ (k : Nat) (x : Nat × Nat × Bool), l[k]? = some x → ∃ f, fs[k]? = some f ∧ fieldI P f = some x
  | [], l, h => by
    unfold fieldsI at h
    cases h
    simp
  | f :: fs, l, h => by
    unfold fieldsI at h
    split at h
    case h_2 => cases h
    case h_1 x r hx hr =>
    cases h
    obtain ⟨h1, h2⟩ := fieldsI_out hr
    refine ⟨by simp [h1], fun k y hk => ?_⟩
    cases k with
    | zero => simp at hk; subst hk; exact ⟨f, rfl, hx⟩
    | succ k => exact h2 k y (by simpa using hk)

theorem stI_out {P : Program} {t : TypeId} {l : List (Nat × Nat × Bool)} (h : stI P t = some l) : ∃ fs, P.underlying t = some (.struct fs) ∧ l.length = fs.size ∧ ∀ (k : Nat) (x : Nat × Nat × Bool), l[k]? = some x → ∃ f, fs[k]? = some f ∧ fieldI P f = some x := by
  unfold stI at h
  split at h
  case h_2 => cases h
  case h_1 fs hu =>
  obtain ⟨h1, h2⟩ := fieldsI_out h
  refine ⟨fs, hu, by simpa using h1, fun k x hk => ?_⟩
  obtain ⟨f, hf, hx⟩ := h2 k x hk
  exact ⟨f, by simpa using hf, hx⟩

theorem arI_out {P : Program} {t : TypeId} {n sz : Nat} {g : Bool} (h : arI P t = some (n, sz, g)) : ∃ e, P.underlying t = some (.array n e) ∧ (∀ w, (sizeOf e).run P w = .ok sz w) ∧ (∀ w, (isAgg e).run P w = .ok g w) := by
  unfold arI at h
  split at h
  case h_2 => cases h
  case h_1 m e hu =>
  split at h
  case h_2 => cases h
  case h_1 i d hi hd =>
  simp only [Option.some.injEq, Prod.mk.injEq] at h
  obtain ⟨rfl, rfl, rfl⟩ := h
  refine ⟨e, hu, fun w => by simp [sizeOf, typeInfo, hi], fun w => ?_⟩
  unfold isAgg
  rw [Sem.run_bind, run_underlying hd w]
  cases d <;> simp [isAggD]

/-! ### values -/
section
variable {M : Mem} {n : Nat} {w : World}

theorem VRs_consts : ∀ {l : List Value}, (∀ x ∈ l, x.oneCell' = true) → VRs M n w (l.map .v) l
  | [], _ => by simp [VRs]
  | x :: l, h => by
    simp only [List.map_cons]
    unfold VRs
    exact ⟨x, l, rfl, h x (by simp), by simp [VR], VRs_consts fun y hy => h y (by simp [hy])⟩

theorem all_one {cs : Array Value} (h : cs.all (·.oneCell') = true) : ∀ x ∈ cs.toList, x.oneCell' = true := by
  rw [← Array.all_toList] at h
  exact List.all_eq_true.1 h

theorem VR_cv (x : Value) : VR M n w (cv x) x := by
  unfold cv
  split
  · split
    case isTrue h =>
      unfold VR
      exact ⟨_, by simp, VRs_consts (all_one h)⟩
    case isFalse h => simp [VR]
  · simp [VR]

theorem concs_out : ∀ {cs : List AV} {l us : List Value}, concs cs = some l → VRs M n w cs us → us = l
  | [], l, us, h, k => by
    unfold concs at h; unfold VRs at k; cases h; exact k
  | .v x :: r, l, us, h, k => by
    unfold concs at h
    obtain ⟨l', h1, rfl⟩ := Option.map_eq_some_iff.1 h
    unfold VRs at k
    obtain ⟨u, r', rfl, _, h3, h4⟩ := k
    unfold VR at h3
    rw [h3, concs_out h1 h4]
  | .any :: r, l, us, h, k | .sl .. :: r, l, us, h, k | .mt :: r, l, us, h, k | .hs .. :: r, l, us, h, k | .os .. :: r, l, us, h, k | .ptr .. :: r, l, us, h, k
  | .rp .. :: r, l, us, h, k | .cptr .. :: r, l, us, h, k | .agg .. :: r, l, us, h, k | .tup .. :: r, l, us, h, k | .fn .. :: r, l, us, h, k => by unfold concs at h; cases h

theorem conc_out {a : AV} {x u : Value} (h : conc a = some x) (k : VR M n w a u) : u = x := by
  unfold conc at h
  split at h
  · cases h
    unfold VR at k
    exact k
  · obtain ⟨l, h1, rfl⟩ := Option.map_eq_some_iff.1 h
    unfold VR at k
    obtain ⟨us, rfl, h2⟩ := k
    rw [concs_out h1 h2]
  · cases h

theorem cells1_out {a : AV} {cs : List AV} {u : Value} (h : cells1 a = some cs) (k : VR M n w a u) : VRs M n w cs u.cells.toList := by
  have one : ∀ {a : AV} {u : Value}, u.cells = #[u] → u.oneCell' = true → VR M n w a u → VRs M n w [a] u.cells.toList := by
    intro a u h1 h2 h3
    rw [h1]
    unfold VRs
    exact ⟨u, [], rfl, h2, h3, by simp [VRs]⟩
  cases a with
  | any => cases h
  | tup => cases h
  | agg l =>
    cases h
    unfold VR at k
    obtain ⟨us, rfl, h2⟩ := k
    simpa [Value.cells] using h2
  | v x =>
    simp only [cells1] at h
    split at h
    case isFalse => cases h
    case isTrue hx =>
      cases h
      have e : u = x := by unfold VR at k; exact k
      subst e
      exact one (by cases u <;> first | rfl | simp [Value.oneCell'] at hx) hx k
  | sl => cases h; exact one (by unfold VR at k; obtain ⟨_, _, _, rfl, _⟩ := k; rfl) (by unfold VR at k; obtain ⟨_, _, _, rfl, _⟩ := k; rfl) k
  | mt => cases h; exact one (by unfold VR at k; obtain ⟨_, rfl⟩ := k; rfl) (by unfold VR at k; obtain ⟨_, rfl⟩ := k; rfl) k
  | hs => cases h; exact one (by unfold VR at k; obtain ⟨_, _, _, rfl, _⟩ := k; rfl) (by unfold VR at k; obtain ⟨_, _, _, rfl, _⟩ := k; rfl) k
  | os => cases h; exact one (by unfold VR at k; obtain ⟨_, _, _, rfl, _⟩ := k; rfl) (by unfold VR at k; obtain ⟨_, _, _, rfl, _⟩ := k; rfl) k
  | ptr => cases h; exact one (by unfold VR at k; obtain ⟨_, _, _, rfl⟩ := k; rfl) (by unfold VR at k; obtain ⟨_, _, _, rfl⟩ := k; rfl) k
  | rp => cases h; exact one (by unfold VR at k; obtain ⟨_, _, _, rfl⟩ := k; rfl) (by unfold VR at k; obtain ⟨_, _, _, rfl⟩ := k; rfl) k
  | cptr => cases h; exact one (by unfold VR at k; obtain ⟨_, _, _, rfl, _⟩ := k; rfl) (by unfold VR at k; obtain ⟨_, _, _, rfl, _⟩ := k; rfl) k
  | fn => cases h; exact one (by unfold VR at k; obtain ⟨_, _, rfl, _⟩ := k; rfl) (by unfold VR at k; obtain ⟨_, _, rfl, _⟩ := k; rfl) k
  | mp => cases h; exact one (by unfold VR at k; obtain ⟨_, _, _, rfl⟩ := k; rfl) (by unfold VR at k; obtain ⟨_, _, _, rfl⟩ := k; rfl) k
  | ifp => cases h; exact one (by unfold VR at k; obtain ⟨_, _, _, rfl⟩ := k; rfl) (by unfold VR at k; obtain ⟨_, _, _, rfl⟩ := k; rfl) k
end

/-- The slots hold what T says. -/
def TR (M : Mem) (n : Nat) (w : World) (N : Nat) (T : Nat → AV) (a : Act) : Prop := a.tmps.size = N ∧ ∀ i, VR M n w (T i) (a.tmps.getD i undef)

theorem ev_out {gl : Nat → AV} {M : Mem} {w : World} {H : Heap} {N : Nat} {T : Nat → AV} {a : Act} (hG : Gam gl M w H) (hT : TR M H.length w N T a) (x : Operand) : VR M H.length w (ev gl T x) (a.eval x) := by
  cases x with
  | tmp t => exact hT.2 t
  | const v => exact VR_cv v
  | global g => exact VR.mono (fun _ h => h) (fun _ _ => rfl) (Nat.zero_le _) (fun _ _ => ⟨rfl, rfl⟩) (hG.glob g)
  | func f =>
    unfold ev VR
    exact ⟨[], [], rfl, by simp [VRt], by simp [VRt]⟩

/-- m ends well. -/
def Yields (E : Env) (M : Mem) (w : World) (H : Heap) (m : Sem Value) (K : AV → Heap → Prop) : Prop :=
  ∃ u w' v M' H', m.run E.P w = .ok u w' ∧ K v H' ∧ Gam E.gl M' w' H' ∧ VR M' H'.length w' v u ∧ Ext M w H M' w' H'

section
variable {E : Env} {M : Mem} {w : World} {H : Heap}

theorem Yields.pure {m : Sem Value} {K : AV → Heap → Prop} {u : Value} {v : AV} (hG : Gam E.gl M w H) (hr : m.run E.P w = .ok u w) (hv : VR M H.length w v u) (hK : K v H) : Yields E M w H m K :=
  ⟨u, w, v, M, H, hr, hK, hG, hv, Ext.refl M w H⟩

theorem Yields.ret {m : Sem Value} {K : AV → Heap → Prop} {r : Value} (hG : Gam E.gl M w H) (hr : Ret E.P m r) (hK : K (cv r) H) : Yields E M w H m K :=
  .pure hG (hr w) (VR_cv r) hK

theorem run_part {P : Program} {t : TypeId} {s : Nat} {g : Bool} (hs : ∀ w, (sizeOf t).run P w = .ok s w) (hg : ∀ w, (isAgg t).run P w = .ok g w) (cs : Array Value) (off : Nat) (w : World) :
    (part t cs off).run P w = if g then .ok (.agg (cs.extract off (off + s))) w else match cs[off]? with
      | some v => .ok v w
      | none => .halt (.stuck "part: no such cell") w := by
  unfold part
  rw [Sem.run_bind, hg w]
  cases g with
  | true => simp [hs w]
  | false =>
    simp only [Result.andThen_ok, Bool.false_eq_true, if_false]
    cases cs[off]? <;> rfl

theorem part_sound {K : AV → Heap → Prop} {t : TypeId} {s : Nat} {g : Bool} {cs : List AV} {us : List Value} {off : Nat} (hG : Gam E.gl M w H) (hs : ∀ w, (sizeOf t).run E.P w = .ok s w) (hg : ∀ w, (isAgg t).run E.P w = .ok g w)
    (hu : VRs M H.length w cs us) (h : apart g s (cs.drop off) fun v => K v H) : Yields E M w H (part t us.toArray off) K := by
  have hd := VRs.drop off hu
  cases g with
  | true =>
    obtain ⟨h1, h2⟩ := h
    refine .pure hG (by rw [run_part hs hg, if_pos rfl]) ?_ h2
    unfold VR
    refine ⟨(us.drop off).take s, ?_, VRs.take s hd⟩
    congr 1
    apply Array.ext'
    simp
  | false =>
    obtain ⟨c, r, h1, h2⟩ := h
    rw [h1] at hd
    unfold VRs at hd
    obtain ⟨u, r', h3, h4, h5, _⟩ := hd
    refine .pure hG ?_ h5 h2
    rw [run_part hs hg, if_neg (by simp)]
    have h6 : us[off]? = some u := by
      have h7 : (us.drop off)[0]? = some u := by rw [h3]; rfl
      simpa using h7
    simp [h6]

theorem load_pure {K : AV → Prop} {t : TypeId} {s : Nat} {g : Bool} {z : List AV} {cs : List AV} {us : List Value} {b o n : Nat} (ht : tyI E.P t = some (s, g, z))
    (hu : VRs M n w cs us) (hc : ∀ j x, us[j]? = some x → w.cell? ⟨b, o + j, none⟩ = some x) (h : apart g s cs K) : ∃ u v, (loadVar t ⟨b, o, none⟩).run E.P w = .ok u w ∧ VR M n w v u ∧ K v := by
  obtain ⟨h1, h2, _⟩ := tyI_out ht
  cases g with
  | true =>
    obtain ⟨h3, h4⟩ := h
    have hl := VRs.len hu
    refine ⟨.agg (us.take s).toArray, _, ?_, ?_, h4⟩
    · unfold loadVar
      rw [Sem.run_bind, h2 w]
      simp only [Result.andThen_ok, if_true]
      rw [Sem.run_bind, h1 w]
      simp only [Result.andThen_ok, Sem.run_bind]
      have h5 := run_loadCells_list (P := E.P) w ⟨b, o, none⟩ (us.take s) (fun j v hj => by
        rw [addr_add]
        rw [List.getElem?_take] at hj
        split at hj
        · exact hc j v hj
        · cases hj)
      have h6 : (us.take s).length = s := by rw [List.length_take, hl]; omega
      rw [h6] at h5
      simp [h5]
    · unfold VR
      exact ⟨_, rfl, VRs.take s hu⟩
  | false =>
    obtain ⟨c, r, rfl, h4⟩ := h
    unfold VRs at hu
    obtain ⟨u, r', rfl, h5, h6, _⟩ := hu
    refine ⟨u, c, ?_, h6, h4⟩
    unfold loadVar
    rw [Sem.run_bind, h2 w]
    have h7 := hc 0 u rfl
    rw [Nat.add_zero] at h7
    simp [load, Sem.run, h7]

theorem load_sound {K : AV → Heap → Prop} {t : TypeId} {s : Nat} {g : Bool} {z : List AV} {cs : List AV} {us : List Value} {b o : Nat} (hG : Gam E.gl M w H) (ht : tyI E.P t = some (s, g, z))
    (hu : VRs M H.length w cs us) (hc : ∀ j x, us[j]? = some x → w.cell? ⟨b, o + j, none⟩ = some x) (h : apart g s cs fun v => K v H) : Yields E M w H (Instr.loadAt t (.pointer (some ⟨b, o, none⟩))) K := by
  obtain ⟨u, v, h1, h2, h3⟩ := load_pure ht hu hc h
  refine .pure hG ?_ h2 h3
  rw [← h1]
  simp [Instr.loadAt, Instr.sureAddr]

theorem place_out {a : AV} {cs : List AV} {u : Value} (hG : Gam E.gl M w H) (ha : VR M H.length w a u) (h : place H a = some cs) :
    ∃ b o us, u = .pointer (some ⟨b, o, none⟩) ∧ VRs M H.length w cs us ∧ ∀ j x, us[j]? = some x → w.cell? ⟨b, o + j, none⟩ = some x := by
  unfold place at h
  split at h
  · next r off =>
    unfold VR at ha
    obtain ⟨h0, b, h1, rfl⟩ := ha
    split at h
    case h_2 => cases h
    case h_1 cs' hr =>
    cases h
    obtain ⟨b', cur, t, fr, h3, h4, h5, h6, h7⟩ := hG.blks r _ hr
    rw [h1] at h3
    cases h3
    refine ⟨b, off, cur.toList.drop off, rfl, VRs.drop off h7, fun j x hj => ?_⟩
    rw [cell_of_row w b _ cur t fr h4]
    simpa using hj
  · next r sz i off =>
    unfold VR at ha
    obtain ⟨h0, b, h1, rfl⟩ := ha
    split at h
    case h_2 => cases h
    case h_1 hot sz' es hr =>
    split at h
    case isFalse => cases h
    case isTrue hsz =>
    subst hsz
    obtain ⟨el, he, rfl⟩ := Option.map_eq_some_iff.1 h
    rcases hG.blks r _ hr with ⟨h2, _⟩ | ⟨b', cur, e, fr, us, h3, h4, h5, h6, h7, h8, h9⟩
    · rw [h1] at h2; cases h2
    · rw [h1] at h3
      cases h3
      obtain ⟨c, c1, c2, c3⟩ := VRss.get h7 he
      refine ⟨b, i * sz' + off, c.drop off, rfl, VRs.drop off c2, fun j x hj => ?_⟩
      have hj' : c[off + j]? = some x := by simpa using hj
      have hlt : off + j < sz' := by rw [← c1]; exact (List.getElem?_eq_some_iff.1 hj').1
      have h10 := c3 (off + j) hlt
      rw [hj', ← h8, List.getElem?_take] at h10
      split at h10
      · rw [cell_of_row w b _ cur e fr h4, Nat.add_assoc]
        simpa using h10
      · cases h10
  · next cs' =>
    cases h
    unfold VR at ha
    obtain ⟨b, off, us, rfl, h2, h3, h4⟩ := ha
    exact ⟨b, off, us, rfl, h3, h4⟩
  · cases h

/-! ### a new block -/
def Mem.push (M : Mem) (n b s : Nat) : Mem := { blk := fun r => if r = n then some b else M.blk r, bsz := fun r => if r = n then s else M.bsz r, G := M.G }

theorem getElem?_snoc {α : Type} (l : List α) (x : α) (r : Nat) : (l ++ [x])[r]? = if r = l.length then some x else l[r]? := by
  by_cases h : r < l.length
  · rw [List.getElem?_append_left h, if_neg (by omega)]
  · rw [List.getElem?_append_right (by omega)]
    by_cases h2 : r = l.length
    · subst h2; simp
    · rw [if_neg h2, List.getElem?_eq_none (by simp; omega), List.getElem?_eq_none (by omega)]

theorem BR.mono {M M' : Mem} {n n' : Nat} {w w' : World} {r r' : Nat} {B : Blk} (hG : ∀ b, M.G b → M'.G b) (hw : ∀ b, M.G b → w'.heap[b]? = w.heap[b]?) (hn : n ≤ n') (hb : ∀ r, r < n → M'.blk r = M.blk r ∧ M'.bsz r = M.bsz r)
    (h1 : M'.blk r' = M.blk r) (h2 : M'.bsz r' = M.bsz r) (h3 : ∀ b, M.blk r = some b → w'.heap[b]? = w.heap[b]?) (h : BR M n w r B) : BR M' n' w' r' B := by
  cases B with
  | obj cs =>
    obtain ⟨b, cur, t, fr, k1, k2, k3, k4, k5⟩ := h
    exact ⟨b, cur, t, fr, by rw [h1, k1], by rw [h3 b k1, k2], k3, by rw [h2, k4], VRs.mono hG hw hn hb k5⟩
  | row hot sz es =>
    rcases h with ⟨k1, k2⟩ | ⟨b, cur, e, fr, us, k1, k2, k3, k4, k5, k6, k7⟩
    · exact .inl ⟨by rw [h1, k1], k2⟩
    · exact .inr ⟨b, cur, e, fr, us, by rw [h1, k1], by rw [h3 b k1, k2], k3, by rw [h2, k4], VRss.mono hG hw hn hb k5, k6, fun hh => hG b (k7 hh)⟩
  | map ks vs st =>
    obtain ⟨b, es, c, l, k1, k2, k3, k4, k5, k6, k7⟩ := h
    exact ⟨b, es, c, l, by rw [h1, k1], by rw [h3 b k1, k2], k3, k4, k5, VRt.mono hG hw hn hb k6, k7⟩
  | iter m bs c seen =>
    obtain ⟨k0, b, bm, k1, k2, k3, k4⟩ := h
    exact ⟨Nat.lt_of_lt_of_le k0 hn, b, bm, by rw [h1, k1], by rw [(hb m k0).1, k2], k3, by rw [h3 b k1, k4]⟩

theorem BR.lt {M : Mem} {n : Nat} {w : World} {r b : Nat} {B : Blk} (h : BR M n w r B) (hb : M.blk r = some b) : b < w.heap.size := by
  cases B with
  | obj cs =>
    obtain ⟨b', cur, t, fr, k1, k2, _⟩ := h
    rw [hb] at k1
    cases k1
    exact (Array.getElem?_eq_some_iff.1 k2).1
  | row hot sz es =>
    rcases h with ⟨k1, _⟩ | ⟨b', cur, e, fr, us, k1, k2, _⟩
    · rw [hb] at k1; cases k1
    · rw [hb] at k1
      cases k1
      exact (Array.getElem?_eq_some_iff.1 k2).1
  | map ks vs st =>
    obtain ⟨b', es, c, l, k1, k2, _⟩ := h
    rw [hb] at k1
    cases k1
    exact (Array.getElem?_eq_some_iff.1 k2).1
  | iter m bs c seen =>
    obtain ⟨_, b', bm, k1, _, _, k2⟩ := h
    rw [hb] at k1
    cases k1
    exact (Array.getElem?_eq_some_iff.1 k2).1

/-- .. of whatever kind; the tape may have been asked. -/
theorem Gam.push {w1 : World} {o : Obj} {B : Blk} {s : Nat} (hG : Gam E.gl M w H) (hw1 : w1.heap = w.heap) (ho : w1.os = w.os) (ht : w1.tape = w.tape) (hp : w1.output = w.output)
    (hB : ∀ M', (∀ r, r < H.length → M'.blk r = M.blk r ∧ M'.bsz r = M.bsz r) → M'.G = M.G → M'.blk H.length = some w.heap.size → M'.bsz H.length = s → (w1.alloc o).heap[w.heap.size]? = some o → (∀ b, b < w.heap.size → (w1.alloc o).heap[b]? = w.heap[b]?) →
      BR M' (H.length + 1) (w1.alloc o) H.length B) :
    Gam E.gl (M.push H.length w.heap.size s) (w1.alloc o) (H ++ [some B]) ∧ Ext M w H (M.push H.length w.heap.size s) (w1.alloc o) (H ++ [some B]) := by
  have hsz : (w1.alloc o).heap.size = w.heap.size + 1 := by simp [World.alloc, hw1]
  have hold : ∀ b, b < w.heap.size → (w1.alloc o).heap[b]? = w.heap[b]? := fun b hb => by
    rw [Go.heap_alloc_old w1 o (by rw [hw1]; exact hb), hw1]
  have hnew : (w1.alloc o).heap[w.heap.size]? = some o := by
    have := heap_alloc_new w1 o
    rwa [hw1] at this
  have hGw : ∀ b, M.G b → (w1.alloc o).heap[b]? = w.heap[b]? := fun b hb => hold b (hG.inG b hb)
  have hbl : ∀ r, r < H.length → (M.push H.length w.heap.size s).blk r = M.blk r ∧ (M.push H.length w.heap.size s).bsz r = M.bsz r := fun r hr => by
    simp only [Mem.push]
    rw [if_neg (by omega), if_neg (by omega)]
    exact ⟨rfl, rfl⟩
  have hnb : (M.push H.length w.heap.size s).blk H.length = some w.heap.size := by simp [Mem.push]
  have hlt : ∀ r B b, H[r]? = some (some B) → M.blk r = some b → b < w.heap.size := fun r B b h1 h2 => (hG.blks r B h1).lt h2
  have hin : ∀ {r B}, H[r]? = some (some B) → r < H.length := fun h => (List.getElem?_eq_some_iff.1 h).1
  refine ⟨⟨fun g => VR.mono (M := M) (M' := M.push H.length w.heap.size s) (n := 0) (w := w) (fun _ h => h) hGw (Nat.le_refl _) (fun r hr => absurd hr (Nat.not_lt_zero r)) (hG.glob g), fun b hb => by rw [hsz]; have := hG.inG b hb; omega, fun r B' hr => ?_, fun r B' b hr hh hb => ?_, fun r r' B1 B2 b hr hr' hh hne hb => ?_⟩,
    ⟨ho, ht, hp, by omega, fun _ h => h, fun _ h => .inl h, fun b hb _ => hold b hb, by simp, fun r hr => (hbl r hr).1, fun r hr => (hbl r hr).2, fun b hb => ?_⟩⟩
  · rw [List.length_append, List.length_singleton]
    rw [getElem?_snoc] at hr
    split at hr
    · next he =>
      cases hr
      subst he
      exact hB _ hbl rfl hnb (by simp [Mem.push]) hnew hold
    · have hr2 := hin hr
      exact BR.mono (M := M) (n := H.length) (w := w) (r := r) (fun _ h => h) hGw (Nat.le_succ _) hbl (hbl r hr2).1 (hbl r hr2).2 (fun b hb => hold b (hlt r B' b hr hb)) (hG.blks r B' hr)
  · rw [getElem?_snoc] at hr
    split at hr
    · next he =>
      subst he
      rw [hnb] at hb
      cases hb
      intro hg
      have := hG.inG _ hg
      omega
    · rw [(hbl r (hin hr)).1] at hb
      exact hG.sep r B' b hr hh hb
  · rw [getElem?_snoc] at hr hr'
    split at hr
    · next he =>
      subst he
      rw [hnb] at hb
      cases hb
      rw [if_neg hne] at hr'
      rw [(hbl r' (hin hr')).1]
      intro hc
      have := hlt r' B2 _ hr' hc
      omega
    · have hr3 := hin hr
      rw [(hbl r hr3).1] at hb
      split at hr'
      · next he' =>
        subst he'
        rw [hnb]
        intro hc
        cases hc
        have := hlt r B1 _ hr hb
        omega
      · rw [(hbl r' (hin hr')).1]
        exact hG.far r r' B1 B2 b hr hr' hh hne hb
  · obtain ⟨r, B', h1, h2, h3⟩ := hb
    rw [getElem?_snoc] at h1
    split at h1
    · next he =>
      subst he
      rw [hnb] at h3
      cases h3
      exact .inr (Nat.le_refl _)
    · rw [(hbl r (hin h1)).1] at h3
      exact .inl ⟨r, B', h1, h2, h3⟩

theorem obj_new {t : TypeId} {cs : List AV} {us : List Value} (hG : Gam E.gl M w H) (hu : VRs M H.length w cs us) :
    Gam E.gl (M.push H.length w.heap.size us.length) (w.alloc (.cells us.toArray t)) (H ++ [some (.obj cs)]) ∧ Ext M w H (M.push H.length w.heap.size us.length) (w.alloc (.cells us.toArray t)) (H ++ [some (.obj cs)]) := by
  refine hG.push rfl rfl rfl rfl fun M' hM hMG hb hs hn ho => ?_
  refine ⟨w.heap.size, us.toArray, t, (0, 0), hb, hn, .inl rfl, by simp [hs], ?_⟩
  exact VRs.mono (fun b h => by rw [hMG]; exact h) (fun b h => ho b (hG.inG b h)) (by omega) hM hu

theorem ptr_new {t : TypeId} {cs : List AV} {us : List Value} {K : AV → Heap → Prop} {m : Sem Value} (hG : Gam E.gl M w H) (hu : VRs M H.length w cs us)
    (hm : m.run E.P w = .ok (.pointer (some ⟨w.heap.size, 0, none⟩)) (w.alloc (.cells us.toArray t))) (hK : K (.ptr H.length 0) (H ++ [some (.obj cs)])) : Yields E M w H m K := by
  obtain ⟨h1, h2⟩ := obj_new (t := t) hG hu
  refine ⟨_, _, _, _, _, hm, hK, h1, ?_, h2⟩
  unfold VR
  exact ⟨by simp, w.heap.size, by simp [Mem.push], rfl⟩

theorem alloc_sound {t : TypeId} {s : Nat} {g : Bool} {z : List AV} {K : AV → Heap → Prop} (hG : Gam E.gl M w H) (ht : tyI E.P t = some (s, g, z)) (hK : K (.ptr H.length 0) (H ++ [some (.obj z)])) :
    Yields E M w H (Instr.alloc t true (.tuple #[])) K := by
  obtain ⟨_, _, i, d, zv, hi, hd, hz, hs, hzs, hone, rfl, _⟩ := tyI_out ht
  refine ptr_new (t := t) hG (VRs_consts (all_one hone)) ?_ hK
  simp [Instr.alloc, zeroValue, typeInfo, hi, hz, newVar, newRow, newObj, Sem.run]

theorem box_sound {t : TypeId} {a : AV} {u : Value} {cs : List AV} {K : AV → Heap → Prop} (hG : Gam E.gl M w H) (ha : VR M H.length w a u) (hc : cells1 a = some cs) (hK : K (.ptr H.length 0) (H ++ [some (.obj cs)])) :
    Yields E M w H (Instr.box t u) K := by
  refine ptr_new (t := t) hG (cells1_out hc ha) ?_ hK
  simp [Instr.box, newVar, newRow, newObj, Sem.run]

/-- A new row. -/
theorem row_new {w1 : World} {e : TypeId} {sz : Nat} {es : List (List AV)} {us : List Value} {cur : Array Value} {fr : Nat × Nat} (hG : Gam E.gl M w H) (hw1 : w1.heap = w.heap) (ho : w1.os = w.os) (ht : w1.tape = w.tape) (hp : w1.output = w.output)
    (hfr : fr = (0, 0) ∨ cur.size ≤ fr.1) (hu : VRss M H.length w sz es us) (hc : cur.toList.take us.length = us) :
    Gam E.gl (M.push H.length w.heap.size cur.size) (w1.alloc (.cells cur e fr)) (H ++ [some (.row true sz es)]) ∧ Ext M w H (M.push H.length w.heap.size cur.size) (w1.alloc (.cells cur e fr)) (H ++ [some (.row true sz es)]) := by
  refine hG.push hw1 ho ht hp fun M' hM hMG hb hs hn ho => ?_
  refine .inr ⟨w.heap.size, cur, e, fr, us, hb, hn, hfr, hs.symm, ?_, hc, by simp⟩
  exact VRss.mono (fun b h => by rw [hMG]; exact h) (fun b h => ho b (hG.inG b h)) (by omega) hM hu

theorem hs_new {w1 : World} {e : TypeId} {sz : Nat} {es : List (List AV)} {us : List Value} {cur : Array Value} {fr : Nat × Nat} {k cap : Nat} {K : AV → Heap → Prop} {m : Sem Value} (hG : Gam E.gl M w H) (hw1 : w1.heap = w.heap) (ho : w1.os = w.os) (ht : w1.tape = w.tape) (hp : w1.output = w.output)
    (hfr : fr = (0, 0) ∨ cur.size ≤ fr.1) (hu : VRss M H.length w sz es us) (hc : cur.toList.take us.length = us) (hk : k ≤ cap) (hcap : cap ≤ maxLen) (hsz : cap * sz ≤ cur.size)
    (hm : m.run E.P w = .ok (.slice (some ⟨w.heap.size, 0, none⟩) k cap) (w1.alloc (.cells cur e fr))) (hK : K (.hs H.length sz 0 k) (H ++ [some (.row true sz es)])) : Yields E M w H m K := by
  obtain ⟨h1, h2⟩ := row_new (e := e) (fr := fr) hG hw1 ho ht hp hfr hu hc
  refine ⟨_, _, _, _, _, hm, hK, h1, ?_, h2⟩
  unfold VR
  exact ⟨by simp, _, cap, rfl, hk, hcap, (fun h => by cases h), .inr (.inr ⟨w.heap.size, by simp [Mem.push], by simp, by simpa [Mem.push] using hsz⟩)⟩
end
end Go.Am
