/- The abstract machine: more rules: conversions between bytes and strings, nil. No condition. -/
import Derived.Test.YtckppkimjiifpaaAj
set_option linter.unusedSectionVars false
set_option linter.unusedVariables false
set_option linter.unusedSimpArgs false
set_option linter.deprecated false
namespace Go.Am
open Go.RowKit Go.Cx

/-! ### bytes and strings -/
theorem bcl_inj {l m : List UInt8} (h : l.map bcl = m.map bcl) : l = m := by
  refine List.map_inj_right (fun a b e => ?_) |>.1 h
  simp only [bcl, List.cons.injEq, AV.v.injEq, Value.int.injEq, and_true, true_and] at e
  exact UInt8.toNat_inj.1 (Int.ofNat.inj e)
def jstr (o : Option (List (List AV))) (H : Heap) [K : Kvh] : Prop := ∃ l, o = some (l.map bcl) ∧ K.k (.v (.string (str l))) H
section
variable {H : Heap} [K : Kvh]
theorem jstr_map {l : List UInt8} : jstr (some (l.map bcl)) H = K.k (.v (.string (str l))) H := by
  unfold jstr
  apply propext
  constructor
  · rintro ⟨m, h1, h2⟩
    rw [bcl_inj (Option.some.inj h1)]
    exact h2
  · intro h
    exact ⟨l, rfl, h⟩
/-- .. byte by byte. -/
def jstrc (l : List UInt8) (es : List (List AV)) (H : Heap) [K : Kvh] : Prop := ∃ m, es = m.map bcl ∧ K.k (.v (.string (str (l ++ m)))) H
theorem jstrc_cons {l : List UInt8} {a : UInt8} {es : List (List AV)} : jstrc l (bcl a :: es) H = jstrc (l ++ [a]) es H := by
  unfold jstrc
  apply propext
  constructor
  · rintro ⟨m, h1, h2⟩
    cases m with
    | nil => cases h1
    | cons b m =>
      simp only [List.map_cons, List.cons.injEq] at h1
      have : a = b := by
        have h3 := h1.1
        simp only [bcl, List.cons.injEq, AV.v.injEq, Value.int.injEq, and_true, true_and] at h3
        exact UInt8.toNat_inj.1 (Int.ofNat.inj h3)
      subst this
      exact ⟨m, h1.2, by simpa using h2⟩
  · rintro ⟨m, rfl, h2⟩
    exact ⟨a :: m, rfl, by simpa using h2⟩
theorem jstrc_int {l : List UInt8} {n : Int} {es : List (List AV)} (h : 0 ≤ n ∧ n ≤ 255) : jstrc l ([.v (.int .u8 n)] :: es) H = jstrc (l ++ [UInt8.ofNat n.toNat]) es H := by
  have e : [AV.v (.int .u8 n)] = bcl (UInt8.ofNat n.toNat) := by
    simp only [bcl, List.cons.injEq, AV.v.injEq, Value.int.injEq, and_true, true_and]
    have : (UInt8.ofNat n.toNat).toNat = n.toNat := by simp; omega
    omega
  rw [e, jstrc_cons]
theorem jstrc_nil {l : List UInt8} : jstrc l [] H = K.k (.v (.string (str l))) H := by
  unfold jstrc
  apply propext
  constructor
  · rintro ⟨m, h1, h2⟩
    cases m with
    | nil => simpa using h2
    | cons b m => cases h1
  · intro h
    exact ⟨[], rfl, by simpa using h⟩
theorem jstrc_map {l m : List UInt8} : jstrc l (m.map bcl) H = K.k (.v (.string (str (l ++ m)))) H := by
  unfold jstrc
  apply propext
  constructor
  · rintro ⟨m', h1, h2⟩
    rw [bcl_inj h1]
    exact h2
  · intro h
    exact ⟨m, rfl, h⟩
theorem jstr_cons {e : List AV} {es : List (List AV)} : jstr (some (e :: es)) H = jstrc [] (e :: es) H := by
  unfold jstr jstrc
  simp
theorem jstr_nil : jstr (some []) H = K.k (.v (.string (str []))) H := jstr_map (l := [])
end
section
variable {P : Program} {s d : TypeId} {H : Heap} [K : Kvh]
theorem jconv_sl {sz : Nat} {es : List (List AV)} : jconv P s d (.sl sz es) H = match P.underlying s, P.underlying d with
    | some (.slice e), some .string => P.underlying e = some (.int .u8) ∧ jstr (elems H 1 (.sl sz es)) H
    | _, _ => aconv P s d (.sl sz es) H K.k := by
  unfold jconv
  split
  · next h1 h2 => simp only [aconv, h1, h2]; rfl
  · rfl
theorem jconv_hs {r sz off n : Nat} : jconv P s d (.hs r sz off n) H = match P.underlying s, P.underlying d with
    | some (.slice e), some .string => P.underlying e = some (.int .u8) ∧ jstr (elems H 1 (.hs r sz off n)) H
    | some (.slice e), some (.slice _) => s = d ∧ P.underlying e = some (.int .u8) ∧ off = 0 ∧ (match H[r]? with
      | some (some (.row true sz' _)) => sz' = sz
      | _ => False) ∧ 0 < n ∧ K.k (.hs r sz 0 n) H
    | _, _ => aconv P s d (.hs r sz off n) H K.k := by
  unfold jconv
  split
  · next h1 h2 => simp only [aconv, h1, h2]; rfl
  · next h1 h2 =>
    simp only [aconv, h1, h2]
    apply propext
    constructor
    · rintro ⟨h3, h4, h5⟩
      cases off with
      | zero =>
        obtain ⟨⟨es, h6⟩, h7, h8⟩ := h5
        rw [h6]
        exact ⟨h3, h4, rfl, rfl, h7, h8⟩
      | succ k => exact h5.elim
    · rintro ⟨h3, h4, rfl, h5, h6, h7⟩
      refine ⟨h3, h4, ?_⟩
      split at h5
      · next es he => subst h5; exact ⟨⟨es, he⟩, h6, h7⟩
      · exact h5.elim
  · rfl
theorem jconv_os {r sz off n : Nat} : jconv P s d (.os r sz off n) H = match P.underlying s, P.underlying d with
    | some (.slice e), some .string => P.underlying e = some (.int .u8) ∧ jstr (elems H 1 (.os r sz off n)) H
    | _, _ => aconv P s d (.os r sz off n) H K.k := by
  unfold jconv
  split
  · next h1 h2 => simp only [aconv, h1, h2]; rfl
  · rfl
theorem jconv_mt : jconv P s d .mt H = match P.underlying s, P.underlying d with
    | some (.slice e), some .string => P.underlying e = some (.int .u8) ∧ jstr (some []) H
    | _, _ => aconv P s d .mt H K.k := by
  unfold jconv
  split
  · next h1 h2 => simp only [aconv, h1, h2]; rfl
  · rfl
theorem jconv_nil : jconv P s d (.v (.slice none 0 0)) H = match P.underlying s, P.underlying d with
    | some (.slice e), some .string => P.underlying e = some (.int .u8) ∧ jstr (some []) H
    | _, _ => aconv P s d (.v (.slice none 0 0)) H K.k := by
  unfold jconv
  split
  · next h1 h2 => simp only [aconv, h1, h2]; rfl
  · rfl
theorem jconv_str {b : ByteArray} : jconv P s d (.v (.string b)) H = match P.underlying s, P.underlying d with
    | some .string, some (.slice e) => P.underlying e = some (.int .u8) ∧ b.size ≤ 68719476736 ∧ K.k (.hs H.length 1 0 b.size) (H ++ [some (.row true 1 (b.toList.map bcl))])
    | _, _ => aconv P s d (.v (.string b)) H K.k := by
  unfold jconv
  split
  · next h1 h2 => simp only [aconv, h1, h2]
  · rfl
end
theorem mk_toList (l : List UInt8) : (ByteArray.mk l.toArray).toList = l := str_toList l
theorem str_size (l : List UInt8) : (str l).size = l.length := by simp [str, ByteArray.size]
theorem mk_size (l : List UInt8) : (ByteArray.mk l.toArray).size = l.length := str_size l

/-! ### nil -/
section
variable {P : Program} {t : TypeId} {x y : Operand} [K : Kv]
theorem jbin_eq_nn : jbin P .eql t x y (.v (.pointer none)) (.v (.pointer none)) = match P.underlying t with
    | some (.pointer _) => K.k (.v (.bool true))
    | _ => abin P .eql t x y (.v (.pointer none)) (.v (.pointer none)) K.k := by
  split
  · next e he =>
    unfold jbin abin
    refine pureR (v := .bool true) fun w => ?_
    show (do pure (Value.bool (← Op.equalIn (9999 + 1) t _ _)) : Sem Value).run P w = _
    generalize 9999 = d
    simp only [Op.equalIn, Sem.run_bind, run_underlying he, Result.andThen_ok, Sem.run_pure, Option.isNone_none]
  · rfl
theorem jbin_ne_nn : jbin P .neq t x y (.v (.pointer none)) (.v (.pointer none)) = match P.underlying t with
    | some (.pointer _) => K.k (.v (.bool false))
    | _ => abin P .neq t x y (.v (.pointer none)) (.v (.pointer none)) K.k := by
  split
  · next e he =>
    unfold jbin abin
    refine pureR (v := .bool false) fun w => ?_
    show (do pure (Value.bool (!(← Op.equalIn (9999 + 1) t _ _))) : Sem Value).run P w = _
    generalize 9999 = d
    simp only [Op.equalIn, Sem.run_bind, run_underlying he, Result.andThen_ok, Sem.run_pure, Option.isNone_none, Bool.not_true]
  · rfl
theorem jbin_eq_pn {r off : Nat} : jbin P .eql t x y (.ptr r off) (.v (.pointer none)) = match P.underlying t with
    | some (.pointer _) => K.k (.v (.bool false))
    | _ => False := by
  unfold jbin abin
  simp only [conc]
  cases P.underlying t with
  | none => simp
  | some d => cases d <;> simp [aeq, aeqS, nilS, nilP, nilF, surePtr, sureFn]
theorem jbin_ne_pn {r off : Nat} : jbin P .neq t x y (.ptr r off) (.v (.pointer none)) = match P.underlying t with
    | some (.pointer _) => K.k (.v (.bool true))
    | _ => False := by
  unfold jbin abin
  simp only [conc]
  cases P.underlying t with
  | none => simp
  | some d => cases d <;> simp [aeq, aeqS, nilS, nilP, nilF, surePtr, sureFn]
theorem jbin_eq_bb {a b : Bool} : jbin P .eql t x y (.v (.bool a)) (.v (.bool b)) = match P.underlying t with
    | some .bool => K.k (.v (.bool (a == b)))
    | _ => abin P .eql t x y (.v (.bool a)) (.v (.bool b)) K.k := by
  split
  · next he =>
    unfold jbin abin
    refine pureR (v := .bool (a == b)) fun w => ?_
    show (do pure (Value.bool (← Op.equalIn (9999 + 1) t _ _)) : Sem Value).run P w = _
    simp only [Sem.run_bind, run_equalIn_bool w _ _ _ _ he, Result.andThen_ok, Sem.run_pure]
  · rfl
theorem jbin_ne_bb {a b : Bool} : jbin P .neq t x y (.v (.bool a)) (.v (.bool b)) = match P.underlying t with
    | some .bool => K.k (.v (.bool (!(a == b))))
    | _ => abin P .neq t x y (.v (.bool a)) (.v (.bool b)) K.k := by
  split
  · next he =>
    unfold jbin abin
    refine pureR (v := .bool (!(a == b))) fun w => ?_
    show (do pure (Value.bool (!(← Op.equalIn (9999 + 1) t _ _))) : Sem Value).run P w = _
    simp only [Sem.run_bind, run_equalIn_bool w _ _ _ _ he, Result.andThen_ok, Sem.run_pure]
  · rfl
end
theorem amaps_bcl {f : Nat → Nat} {b : UInt8} : amaps f (bcl b) = bcl b := by simp [bcl, amaps, amap]
theorem oc_int {k : IntKind} {n : Int} : (Value.int k n).oneCell' = true := rfl
theorem oc_bool {b : Bool} : (Value.bool b).oneCell' = true := rfl
theorem oc_str {b : ByteArray} : (Value.string b).oneCell' = true := rfl
theorem oc_slice {a : Option Addr} {n c : Nat} : (Value.slice a n c).oneCell' = true := rfl
theorem oc_ptr {a : Option Addr} : (Value.pointer a).oneCell' = true := rfl
theorem oc_nilF : (Value.nilFunc).oneCell' = true := rfl
/-! ### ways that part -/
theorem jg_st {K : Kg} {b : Bool} (h1 : b = true → K.run) (h2 : b = false → K.skip) : jguard (K := K) (some (some b)) true := ⟨h1, fun h => h2 (by cases b <;> simp_all)⟩
theorem jg_sf {K : Kg} {b : Bool} (h1 : b = false → K.run) (h2 : b = true → K.skip) : jguard (K := K) (some (some b)) false := ⟨h1, fun h => h2 (by cases b <;> simp_all)⟩
theorem jall_s {K : Kv} {p : Bool → Prop} (h1 : p true → K.k (.v (.bool true))) (h2 : p false → K.k (.v (.bool false))) : jall (K := K) p := fun t ht => match t, ht with
  | true, ht => h1 ht
  | false, ht => h2 ht
theorem jalln_s {K : Kv} {p : Bool → Prop} (h1 : p true → K.k (.v (.bool false))) (h2 : p false → K.k (.v (.bool true))) : jalln (K := K) p := fun t ht => match t, ht with
  | true, ht => h1 ht
  | false, ht => h2 ht
theorem jpk_s {K : Kv} {b : Bool} {x y : AV} (h1 : b = true → K.k x) (h2 : b = false → K.k y) : jpick (K := K) b x y := ⟨h1, h2⟩
/-! ### what is handed to a call, reckoned -/
def okV (lend : Bool) (σ : List Nat) (H : Heap) (n : Nat) : AV → AV → Prop
  | _, .any => True
  | .v x, .v y => x = y
  | .v x, .sl _ es => x = .slice none 0 0 ∧ es = []
  | .mt, .sl _ es => es = []
  | .mt, .mt => True
  | .sl sz' es', .sl sz es => sz' = sz ∧ es' = es ∧ nbss 0 es
  | .hs r sz' off k, .sl sz es => lend = true ∧ r ∉ σ ∧ elems H sz (.hs r sz' off k) = some es ∧ nbss 0 es ∧ gfss es
  | .os r sz' off k, .sl sz es => lend = true ∧ r ∉ σ ∧ elems H sz (.os r sz' off k) = some es ∧ nbss 0 es ∧ gfss es
  | .hs r sz' off k, .hs q sz off2 k2 => q < n ∧ sg H.length σ q = r ∧ sz' = sz ∧ off = off2 ∧ k = k2
  | .os r sz' off k, .os q sz off2 k2 => q < n ∧ sg H.length σ q = r ∧ sz' = sz ∧ off = off2 ∧ k = k2
  | .ptr r off, .ptr q off2 => q < n ∧ sg H.length σ q = r ∧ off = off2
  | .rp r sz i off, .rp q sz2 i2 off2 => q < n ∧ sg H.length σ q = r ∧ sz = sz2 ∧ i = i2 ∧ off = off2
  | .cptr cs, .cptr cs2 => cs = cs2 ∧ nbs 0 cs2
  | .agg cs, .agg cs2 => cs = amaps (sg H.length σ) cs2 ∧ nbs n cs2
  | .fn f a b, .fn f2 a2 b2 => f = f2 ∧ a = amaps (sg H.length σ) a2 ∧ b = amaps (sg H.length σ) b2 ∧ nbs n a2 ∧ nbs n b2
  | _, _ => False
def okVs (lend : Bool) (σ : List Nat) (H : Heap) (n : Nat) : List AV → List AV → Prop
  | [], [] => True
  | a :: r, b :: t => okV lend σ H n a b ∧ okVs lend σ H n r t
  | _, _ => False
def okEs (lend : Bool) (σ : List Nat) (H : Heap) (n : Nat) : List (List AV) → List (List AV) → Prop
  | [], [] => True
  | a :: r, b :: t => okVs lend σ H n a b ∧ okEs lend σ H n r t
  | _, _ => False
def okA (lend : Bool) (σ : List Nat) (H : Heap) (n : Nat) (a b : AV) : Prop :=
  match a, b with
  | .agg cs, .agg cs2 => okVs lend σ H n cs cs2
  | .sl sz es, .sl sz2 es2 => sz = sz2 ∧ ((es = es2 ∧ nbss 0 es2) ∨ okEs lend σ H n es es2)
  | a, b => okV lend σ H n a b
def okAs (lend : Bool) (σ : List Nat) (H : Heap) (n : Nat) : List AV → List AV → Prop
  | [], [] => True
  | a :: r, b :: t => okA lend σ H n a b ∧ okAs lend σ H n r t
  | _, _ => False
section
variable {lend : Bool} {σ : List Nat} {H : Heap} {n : Nat}
theorem okV_rd {a b : AV} (h : okV lend σ H n a b) : rdV lend σ H n a b := by
  unfold okV at h
  split at h
  case h_1 => exact .inl ⟨trivial, by unfold amap; exact Wk.any _⟩
  case h_2 => subst h; exact rd_v
  case h_3 => obtain ⟨rfl, rfl⟩ := h; exact rd_nil
  case h_4 => subst h; exact rd_mt
  case h_5 => exact .inl ⟨trivial, by unfold amap; exact Wk.refl _⟩
  case h_6 => obtain ⟨rfl, rfl, h⟩ := h; exact rd_sl h
  case h_7 r sz' off k sz es =>
    obtain ⟨rfl, h1, h2, h3, h4⟩ := h
    exact .inr ⟨rfl, r, sz, es, rfl, h1, h2, h3, h4, rfl⟩
  case h_8 r sz' off k sz es =>
    obtain ⟨rfl, h1, h2, h3, h4⟩ := h
    exact .inr ⟨rfl, r, sz, es, rfl, h1, h2, h3, h4, rfl⟩
  case h_9 => obtain ⟨h1, rfl, rfl, rfl, rfl⟩ := h; exact .inl ⟨h1, by unfold amap; exact Wk.refl _⟩
  case h_10 => obtain ⟨h1, rfl, rfl, rfl, rfl⟩ := h; exact .inl ⟨h1, by unfold amap; exact Wk.refl _⟩
  case h_11 => obtain ⟨h1, rfl, rfl⟩ := h; exact .inl ⟨h1, by unfold amap; exact Wk.refl _⟩
  case h_12 => obtain ⟨h1, rfl, rfl, rfl, rfl⟩ := h; exact .inl ⟨h1, by unfold amap; exact Wk.refl _⟩
  case h_13 =>
    obtain ⟨rfl, h⟩ := h
    exact .inl ⟨by unfold nb; exact nbs_iff.2 fun a ha => nb.mono (Nat.zero_le _) (nbs_iff.1 h a ha), by unfold amap; rw [amaps_id (n := 0) (fun r hr => absurd hr (Nat.not_lt_zero r)) h]; exact Wk.refl _⟩
  case h_14 => obtain ⟨rfl, h⟩ := h; exact .inl ⟨h, by (conv => rhs; unfold amap); exact Wk.refl _⟩
  case h_15 => obtain ⟨rfl, rfl, rfl, h1, h2⟩ := h; exact .inl ⟨⟨h1, h2⟩, by (conv => rhs; unfold amap); exact Wk.refl _⟩
  case h_16 => exact h.elim
theorem okVs_rd : ∀ {a b : List AV}, okVs lend σ H n a b → rdVs lend σ H n a b
  | [], [], _ => trivial
  | _ :: _, _ :: _, h => ⟨okV_rd h.1, okVs_rd h.2⟩
  | [], _ :: _, h => h.elim
  | _ :: _, [], h => h.elim
theorem okEs_rd : ∀ {a b : List (List AV)}, okEs lend σ H n a b → rdEs lend σ H n a b
  | [], [], _ => trivial
  | _ :: _, _ :: _, h => ⟨okVs_rd h.1, okEs_rd h.2⟩
  | [], _ :: _, h => h.elim
  | _ :: _, [], h => h.elim
theorem okA_rd {a b : AV} (h : okA lend σ H n a b) : rdA lend σ H n a b := by
  unfold okA at h
  split at h
  · exact rd_agg (okVs_rd h)
  · obtain ⟨rfl, ⟨rfl, h⟩ | h⟩ := h
    · exact rd_a (rd_sl h)
    · exact rd_rows (okEs_rd h)
  · exact rd_a (okV_rd h)
theorem okAs_rd : ∀ {a b : List AV}, okAs lend σ H n a b → rdAs lend σ H n a b
  | [], [], _ => trivial
  | _ :: _, _ :: _, h => ⟨okA_rd h.1, okAs_rd h.2⟩
  | [], _ :: _, h => h.elim
  | _ :: _, [], h => h.elim
end
/-! ### slots that nobody looks at any more are forgotten -/
def jlive (l : List (Nat × AV)) (H : Heap) [K : Kth] : Prop := K.k (ofl l) H
theorem jl_go {K : Kth} {l : List (Nat × AV)} {H : Heap} (h : K.k (ofl l) H) : jlive (K := K) l H := h
def sel (T : Nat → AV) : List Nat → List (Nat × AV)
  | [] => []
  | i :: r => (i, T i) :: sel T r
theorem sel_nil {T : Nat → AV} : sel T [] = [] := rfl
theorem sel_cons {T : Nat → AV} {i : Nat} {r : List Nat} : sel T (i :: r) = (i, T i) :: sel T r := rfl
theorem sel_mem {T : Nat → AV} : ∀ {l : List Nat}, ∀ x ∈ sel T l, Wk (T x.1) x.2
  | [], x, h => by cases h
  | i :: r, x, h => by
    rcases List.mem_cons.1 h with rfl | h
    · exact Wk.refl _
    · exact sel_mem x h
def tabAt : List (Nat × List Nat) → Nat → List Nat
  | [], _ => []
  | (j, l) :: r, i => if i = j then l else tabAt r i
theorem tabAt_cons {j i : Nat} {l : List Nat} {r : List (Nat × List Nat)} : tabAt ((j, l) :: r) i = if i = j then l else tabAt r i := rfl
/-- The end of region i. -/
def jend (E : Env) (n i : Nat) (T : Nat → AV) (H : Heap) [K : Kth] : Prop := Cl E n K.k T H
@[congr] theorem jend_still {E : Env} {n i : Nat} {T : Nat → AV} {H : Heap} [K : Kth] : jend E n i T H = jend E n i T H := rfl
section
variable {E : Env} {n i : Nat} {T : Nat → AV} {H : Heap} {Q : Exit → (Nat → AV) → Heap → Prop} {c b : Code} {ops : Array Oper}
theorem jend_go {K : Kth} (tab : List (Nat × List Nat)) (h : @jlive (sel T (tabAt tab i)) H K) : @jend E n i T H K := ⟨_, H, cq_slots sel_mem, h⟩
theorem z_seqr (hc : c = .seq (.region i ops false) b) (h : @jops E ops ops.toList T H ⟨fun T' H' => @jend E n i T' H' ⟨fun T2 H2 => awp E n b Q T2 H2⟩⟩) : awp E n c Q T H := by
  subst hc
  exact h
theorem z_seqd (i : Nat) (ks : List Kd) (hc : c = .seq (.region i ops true) b) (hm : E.P.follows .mixedOrders = true) (hok : drawOk ops ks = true)
    (h : @jdraw E ops H ops.toList ks T H ⟨fun T' H' => @jend E n i T' H' ⟨fun T2 H2 => awp E n b Q T2 H2⟩⟩) : awp E n c Q T H := by
  subst hc
  exact ⟨hm, ks, hok, h⟩
end
theorem elems_byts {H : Heap} {p : List UInt8} : elems H 1 (byts p) = some (p.map bcl) := (rfl)
end Go.Am
