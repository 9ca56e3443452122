/- The abstract machine: rows of plain values; structs compared. No condition. -/
import Derived.Test.YtckppkimjiifpaaUv
import Derived.Laws.StructEq
set_option linter.unusedSectionVars false
set_option linter.unusedVariables false
set_option linter.unusedSimpArgs false
set_option linter.deprecated false
namespace Go.Am
open Go.RowKit Go.Cx
/-- What is told by plain values, one behind the other. -/
class Cel (α : Type) where
  cel : α → List Value
  dft : α
def cl1 {α : Type} [Cel α] (a : α) : List AV := (Cel.cel a).map .v
def cels {α : Type} [Cel α] (l : List α) : List (List AV) := l.map cl1
def gt {α : Type} [Cel α] (l : List α) (i : Nat) : α := l.getD i Cel.dft
instance : Cel Int := ⟨fun n => [.int .i64 n], 0⟩
instance : Cel Bool := ⟨fun b => [.bool b], false⟩
instance : Cel (Int × Int) := ⟨fun p => [.int .i64 p.1, .int .i64 p.2], (0, 0)⟩
instance : Cel (Int × Bool) := ⟨fun p => [.int .i64 p.1, .bool p.2], (0, false)⟩
instance : Cel (Int × Int × Bool) := ⟨fun p => [.int .i64 p.1, .int .i64 p.2.1, .bool p.2.2], (0, 0, false)⟩
theorem cl1_int (n : Int) : cl1 n = [.v (.int .i64 n)] := rfl
theorem cl1_bool (n : Bool) : cl1 n = [.v (.bool n)] := rfl
theorem cl1_ii (n : Int × Int) : cl1 n = [.v (.int .i64 n.1), .v (.int .i64 n.2)] := rfl
theorem cl1_ib (n : Int × Bool) : cl1 n = [.v (.int .i64 n.1), .v (.bool n.2)] := rfl
theorem cl1_iib (n : Int × Int × Bool) : cl1 n = [.v (.int .i64 n.1), .v (.int .i64 n.2.1), .v (.bool n.2.2)] := rfl
section
variable {α : Type} [Cel α] {l m : List α} {a : α} {i k : Nat}
theorem cels_nil : cels ([] : List α) = [] := rfl
theorem cels_len : (cels l).length = l.length := by simp [cels]
theorem cels_take : (cels l).take k = cels (l.take k) := by simp [cels, List.map_take]
theorem cels_drop : (cels l).drop k = cels (l.drop k) := by simp [cels, List.map_drop]
theorem cels_app : cels l ++ cels m = cels (l ++ m) := by simp [cels]
theorem cels_snoc : cels l ++ [cl1 a] = cels (l ++ [a]) := by simp [cels]
theorem cels_cons : cl1 a :: cels l = cels (a :: l) := rfl
theorem cels_getD (h : i < l.length) : (cels l).getD i [] = cl1 (gt l i) := by
  simp [cels, gt, List.getD_eq_getElem?_getD, List.getElem?_eq_getElem h]
theorem cels_getI (h : i < l.length) : (cels l)[i]? = some (cl1 (gt l i)) := by
  simp [cels, gt, List.getD_eq_getElem?_getD, List.getElem?_eq_getElem h]
theorem cels_set : (cels l).set i (cl1 a) = cels (l.set i a) := by simp [cels, List.map_set]
theorem nb_vals {n : Nat} (l : List Value) : nbs n (l.map .v) := nbs_iff.2 fun a ha => by
  obtain ⟨b, _, rfl⟩ := List.mem_map.1 ha
  trivial
theorem gf_vals : ∀ l : List Value, gfs (l.map .v)
  | [] => trivial
  | _ :: l => ⟨trivial, gf_vals l⟩
theorem cels_nbss {n : Nat} (l : List α) : nbss n (cels l) = True := eq_true (nbss_map (fun x => nb_vals _) l)
theorem cels_gfss (l : List α) : gfss (cels l) = True := eq_true (by
  induction l with
  | nil => simp [gfss, cels]
  | cons b l ih => exact ⟨gf_vals _, ih⟩)
theorem cels_amapss {f : Nat → Nat} (l : List α) : amapss f (cels l) = cels l := amapss_id (n := 0) (fun r hr => absurd hr (Nat.not_lt_zero r)) (of_eq_true (cels_nbss l))
theorem cl1_nbs {n : Nat} (a : α) : nbs n (cl1 a) = True := eq_true (nb_vals _)
theorem cl1_gfs (a : α) : gfs (cl1 a) = True := eq_true (gf_vals _)
theorem frz_cl1 {d N : Nat} {L : Heap} (a : α) : (cl1 a).map (frz d L N) = cl1 a := by
  simp [cl1, frz_v]
theorem frz_cels {d N : Nat} {L : Heap} (l : List α) : ((cels l).map fun e => e.map (frz d L N)) = cels l := by
  simp only [cels, List.map_map]
  exact List.map_congr_left fun x _ => frz_cl1 x
/-- Rows of one's own, told as they read. -/
theorem frzC_at {d N r off k : Nat} {hot : Bool} {L : Heap} {sz : Nat} {l : List α} (hr : N ≤ r) (h : L[r - N]? = some (some (.row hot sz (cels l)))) (hk : off + k ≤ l.length) : frz (d + 1) L N (.hs r sz off k) = .sl sz (cels ((l.drop off).take k)) := by
  unfold frz
  rw [if_neg (by omega), h]
  simp only
  rw [if_pos ⟨trivial, by rw [cels_len]; exact hk⟩, cels_drop, cels_take, frz_cels]
theorem frzC {d N r k : Nat} {hot : Bool} {L : Heap} {sz : Nat} {l : List α} (hr : N ≤ r) (h : L[r - N]? = some (some (.row hot sz (cels l)))) (hk : k = l.length) : frz (d + 1) L N (.hs r sz 0 k) = .sl sz (cels l) := by
  subst hk
  rw [frzC_at hr h (by omega), List.drop_zero, List.take_length]
theorem rep_cels (n : Nat) (a : α) : List.replicate n (cl1 a) = cels (List.replicate n a) := by simp [cels]
theorem gt_cons0 : gt (a :: l) 0 = a := rfl
theorem gt_cons {x : α} : gt (x :: l) (i + 1) = gt l i := rfl
theorem gt_eq (h : i < l.length) : gt l i = l[i] := by simp [gt, List.getD_eq_getElem?_getD, List.getElem?_eq_getElem h]
theorem gt_mem (h : i < l.length) : gt l i ∈ l := by rw [gt_eq h]; exact List.getElem_mem h
theorem gt_I (h : i < l.length) : l[i]? = some (gt l i) := by rw [gt_eq h]; exact List.getElem?_eq_getElem h
theorem gt_of (h : l[i]? = some a) : gt l i = a := by simp [gt, List.getD_eq_getElem?_getD, h]
theorem take_gt (h : i < l.length) : l.take (i + 1) = l.take i ++ [gt l i] := by
  rw [List.take_add_one, gt_I h]
  rfl
theorem drop_gt (h : i < l.length) : l.drop i = gt l i :: l.drop (i + 1) := by rw [gt_eq h]; exact List.drop_eq_getElem_cons h
theorem gt_drop : gt (l.drop k) i = gt l (k + i) := by simp [gt, List.getD_eq_getElem?_getD, List.getElem?_drop]
theorem gt_take (h : i < k) : gt (l.take k) i = gt l i := by simp [gt, List.getD_eq_getElem?_getD, List.getElem?_take, h]
end
section
variable {l : List Int} {lb : List Bool} {lp : List (Int × Int)} {lq : List (Int × Bool)} {lt : List (Int × Int × Bool)} {n m : Int} {b : Bool} {i : Nat}
theorem snoc_int : cels l ++ [[.v (.int .i64 n)]] = cels (l ++ [n]) := cels_snoc (a := n)
theorem snoc_bool : cels lb ++ [[.v (.bool b)]] = cels (lb ++ [b]) := cels_snoc (a := b)
theorem snoc_ii : cels lp ++ [[.v (.int .i64 n), .v (.int .i64 m)]] = cels (lp ++ [(n, m)]) := cels_snoc (a := (n, m))
theorem snoc_ib : cels lq ++ [[.v (.int .i64 n), .v (.bool b)]] = cels (lq ++ [(n, b)]) := cels_snoc (a := (n, b))
theorem snoc_iib : cels lt ++ [[.v (.int .i64 n), .v (.int .i64 m), .v (.bool b)]] = cels (lt ++ [(n, m, b)]) := cels_snoc (a := (n, m, b))
theorem set_int : (cels l).set i [.v (.int .i64 n)] = cels (l.set i n) := cels_set (a := n)
theorem set_bool : (cels lb).set i [.v (.bool b)] = cels (lb.set i b) := cels_set (a := b)
theorem rep_bool (n : Nat) : List.replicate n [AV.v (.bool b)] = cels (List.replicate n b) := rep_cels n b
theorem rep_int (k : Nat) : List.replicate k [AV.v (.int .i64 n)] = cels (List.replicate k n) := rep_cels k n
end
/-! ### structs compared -/
inductive Sc where
  | int (k : IntKind)
  | bool
  | str
  deriving DecidableEq
def flatF (P : Program) (g : TypeId → Option (List Sc)) : List Field → Nat → Option (List Sc)
  | [], _ => some []
  | f :: fs, off => if f.name ≠ "_" ∧ f.offset = off then
      match g f.type, P.info? f.type with
      | some l, some i => if i.size = l.length then (flatF P g fs (off + l.length)).map (l ++ ·) else none
      | _, _ => none
    else none
/-- A type's cells: numbers, bools, strings. -/
def flatT (P : Program) : Nat → TypeId → Option (List Sc)
  | 0, _ => none
  | d + 1, t => match P.underlying t with
    | some (.int k) => some [.int k]
    | some .bool => some [.bool]
    | some .string => some [.str]
    | some (.struct fs) => if P.stoodInHeld t = true then none else flatF P (flatT P d) fs.toList 0
    | _ => none
def scEq : Sc → Value → Value → Option Bool
  | .int _, .int a x, .int b y => if a = b then some (decide (x = y)) else none
  | .bool, .bool x, .bool y => some (x == y)
  | .str, .string x, .string y => some (x.toList == y.toList)
  | _, _, _ => none
def eqs : List Sc → List Value → List Value → Option Bool
  | [], [], [] => some true
  | s :: ss, x :: xs, y :: ys => match scEq s x y, eqs ss xs ys with
    | some a, some b => some (a && b)
    | _, _ => none
  | _, _, _ => none
theorem eqs_len : ∀ {ss : List Sc} {xs ys : List Value} {b : Bool}, eqs ss xs ys = some b → xs.length = ss.length ∧ ys.length = ss.length
  | [], [], [], _, _ => ⟨rfl, rfl⟩
  | s :: ss, x :: xs, y :: ys, b, h => by
    unfold eqs at h
    split at h
    · next c d h1 h2 =>
      have := eqs_len h2
      simp [this]
    · cases h
  | [], _ :: _, _, _, h => by simp [eqs] at h
  | [], [], _ :: _, _, h => by simp [eqs] at h
  | _ :: _, [], _, _, h => by simp [eqs] at h
  | _ :: _, _ :: _, [], _, h => by simp [eqs] at h
theorem eqs_app : ∀ {ss tt : List Sc} {xs ys : List Value} {b : Bool}, eqs (ss ++ tt) xs ys = some b → ∃ c d, eqs ss (xs.take ss.length) (ys.take ss.length) = some c ∧ eqs tt (xs.drop ss.length) (ys.drop ss.length) = some d ∧ b = (c && d)
  | [], tt, xs, ys, b, h => ⟨true, b, by simp [eqs], by simpa using h, by simp⟩
  | s :: ss, tt, x :: xs, y :: ys, b, h => by
    simp only [List.cons_append] at h
    unfold eqs at h
    split at h
    · next c d h1 h2 =>
      obtain ⟨c2, d2, h3, h4, rfl⟩ := eqs_app h2
      cases h
      refine ⟨c && c2, d2, ?_, by simpa using h4, by rw [Bool.and_assoc]⟩
      simp only [List.length_cons, List.take_succ_cons]
      unfold eqs
      rw [h1, h3]
    · cases h
  | s :: ss, tt, [], ys, b, h => by simp [eqs] at h
  | s :: ss, tt, _ :: _, [], b, h => by simp [eqs] at h
section
variable {P : Program}
/-- The value of a type with such cells. -/
def whole (P : Program) (t : TypeId) (xs : List Value) : Value := match P.underlying t with
  | some (.struct _) => .agg xs.toArray
  | _ => xs.headD undef
theorem run_part_whole {t : TypeId} {xs : List Value} {off d : Nat} {ss : List Sc} {i : TypeInfo} (w : World) (hi : P.info? t = some i) (hs : flatT P d t = some ss) (hl : i.size = ss.length) (hx : off + ss.length ≤ xs.length) :
    (part t xs.toArray off).run P w = .ok (whole P t ((xs.drop off).take ss.length)) w := by
  cases d with
  | zero => simp [flatT] at hs
  | succ d =>
    unfold flatT at hs
    have one : ∀ (s : Sc), ss = [s] → (∀ fs, P.underlying t ≠ some (.struct fs)) → (∀ n e, P.underlying t ≠ some (.array n e)) → ∀ kd, P.underlying t = some kd → (part t xs.toArray off).run P w = .ok (whole P t ((xs.drop off).take ss.length)) w := by
      intro s hs h1 h2 kd hk
      subst hs
      simp only [List.length_singleton] at hx ⊢
      have hlt : off < xs.length := by omega
      unfold whole
      rw [hk]
      cases kd
      case struct fs => exact absurd hk (h1 fs)
      case array n e => exact absurd hk (h2 n e)
      all_goals
        simp [part, isAgg, run_underlying hk, List.getElem?_eq_getElem hlt, List.headD_eq_head?_getD, List.head?_take, List.head?_drop]
    split at hs
    · next k hk => cases hs; exact one _ rfl (by rw [hk]; simp) (by rw [hk]; simp) _ hk
    · next hk => cases hs; exact one _ rfl (by rw [hk]; simp) (by rw [hk]; simp) _ hk
    · next hk => cases hs; exact one _ rfl (by rw [hk]; simp) (by rw [hk]; simp) _ hk
    · next fs hk =>
      have e : xs.toArray.extract off (off + i.size) = ((xs.drop off).take ss.length).toArray := by
        rw [hl, List.extract_toArray]
        simp [List.extract]
      have hc : P.cellsOf t = ss.length := by simp [Program.cellsOf, hi, hl]
      simp [part, isAgg, run_underlying hk, run_sizeOf w hi, whole, hk, e, hc]
    · cases hs
theorem run_fields (D : Nat) {g : TypeId → Option (List Sc)} (hg : ∀ t ss, g t = some ss → ∀ i, P.info? t = some i → i.size = ss.length → ∀ (w : World) (xs ys : List Value) (b : Bool), eqs ss xs ys = some b → (Op.equalIn D t (whole P t xs) (whole P t ys)).run P w = .ok b w)
    (hp : ∀ t ss, g t = some ss → ∃ d, flatT P d t = some ss) (w : World) (xs ys : List Value) : ∀ (fs : List Field) (off : Nat) (ss : List Sc) (b : Bool), flatF P g fs off = some ss → eqs ss (xs.drop off) (ys.drop off) = some b → off ≤ xs.length → off ≤ ys.length →
    (Op.eqFields D xs.toArray ys.toArray fs).run P w = .ok b w
  | [], off, ss, b, h, k, _, _ => by
    unfold flatF at h
    cases h
    have h2 := eqs_len k
    rw [List.eq_nil_of_length_eq_zero h2.1, List.eq_nil_of_length_eq_zero h2.2] at k
    unfold eqs at k
    cases k
    simp [Op.eqFields]
  | f :: fs, off, ss, b, h, k, lx, ly => by
    unfold flatF at h
    split at h
    case isFalse => cases h
    case isTrue hn =>
    obtain ⟨hn, ho⟩ := hn
    split at h
    case h_2 => cases h
    case h_1 l i h1 h2 =>
    split at h
    case isFalse => cases h
    case isTrue h3 =>
    simp only [Option.map_eq_some_iff] at h
    obtain ⟨r, h4, rfl⟩ := h
    obtain ⟨c, d, k1, k2, rfl⟩ := eqs_app k
    have k3 := eqs_len k1
    have k4 := eqs_len k
    simp only [List.length_take, List.length_drop, List.length_append] at k3 k4
    obtain ⟨dd, h5⟩ := hp _ _ h1
    have p1 := run_part_whole (P := P) (xs := xs) (off := off) w h2 h5 h3 (by omega)
    have p2 := run_part_whole (P := P) (xs := ys) (off := off) w h2 h5 h3 (by omega)
    have p3 := hg _ _ h1 _ h2 h3 w _ _ _ k1
    have p4 := run_fields D hg hp w xs ys fs (off + l.length) r d h4 (by simpa [List.drop_drop, Nat.add_comm] using k2) (by omega) (by omega)
    subst ho
    simp only [Op.eqFields, hn, ne_eq, not_false_eq_true, if_true, Sem.run_bind, p1, p2, p3, Result.andThen_ok]
    cases c
    · simp
    · simpa using p4
theorem run_flat : ∀ (d D : Nat), d ≤ D → ∀ (t : TypeId) (ss : List Sc), flatT P d t = some ss → ∀ (w : World) (xs ys : List Value) (b : Bool), eqs ss xs ys = some b → (Op.equalIn D t (whole P t xs) (whole P t ys)).run P w = .ok b w
  | 0, _, _, t, ss, h => by simp [flatT] at h
  | d + 1, 0, hd, _, _, _ => by omega
  | d + 1, D + 1, hd, t, ss, h => by
    intro w xs ys b hb
    unfold flatT at h
    split at h
    · next k hk =>
      cases h
      have hl := eqs_len hb
      match xs, ys, hl with
      | [x], [y], _ =>
        unfold eqs at hb
        split at hb
        case h_2 => cases hb
        case h_1 c e h1 h2 =>
        unfold eqs at h2
        cases h2
        cases hb
        unfold scEq at h1
        split at h1 <;> try (cases h1; done)
        all_goals first | (simp at *; done) | skip
        rename_i q1 q2 q3
        split at h1
        case isFalse => cases h1
        case isTrue e =>
        subst e
        cases h1
        simp [whole, hk, Op.equalIn, run_underlying hk]; rfl
    · next hk =>
      cases h
      have hl := eqs_len hb
      match xs, ys, hl with
      | [x], [y], _ =>
        unfold eqs at hb
        split at hb
        case h_2 => cases hb
        case h_1 c e h1 h2 =>
        unfold eqs at h2
        cases h2
        cases hb
        unfold scEq at h1
        split at h1 <;> try (cases h1; done)
        all_goals first | (simp at *; done) | skip
        cases h1
        simp [whole, hk, Op.equalIn, run_underlying hk]
    · next hk =>
      cases h
      have hl := eqs_len hb
      match xs, ys, hl with
      | [x], [y], _ =>
        unfold eqs at hb
        split at hb
        case h_2 => cases hb
        case h_1 c e h1 h2 =>
        unfold eqs at h2
        cases h2
        cases hb
        unfold scEq at h1
        split at h1 <;> try (cases h1; done)
        all_goals first | (simp at *; done) | skip
        cases h1
        simp [whole, hk, Op.equalIn, run_underlying hk, beq_toListBytes]
    · next fs hk =>
      split at h
      case isTrue => cases h
      case isFalse hs =>
      have hf : P.fieldsOf t = fs := by simp [Program.fieldsOf, hk]
      have e1 : ∀ zs, whole P t zs = .agg zs.toArray := fun zs => by simp [whole, hk]
      rw [e1, e1, run_equalIn_struct w D t _ _ (by rw [hf]; exact hk) (by simpa using hs), hf]
      exact run_fields D (fun t ss h i _ _ w xs ys b k => run_flat d D (by omega) t ss h w xs ys b k) (fun t ss h => ⟨d, h⟩) w xs ys fs.toList 0 ss b h (by simpa using hb) (Nat.zero_le _) (Nat.zero_le _)
    · cases h
/-- Such a struct, if nothing guards its comparison. -/
def eqT (P : Program) (t : TypeId) : Option (List Sc) := match P.underlying t with
  | some (.struct _) => if P.eqGuardType P.depth t = true then none else flatT P 8 t
  | _ => none
/-- .. told by the machine's cells. -/
def eqAV : List Sc → List AV → List AV → Option Bool
  | [], [], [] => some true
  | s :: ss, .v x :: xs, .v y :: ys => match scEq s x y, eqAV ss xs ys with
    | some a, some b => some (a && b)
    | _, _ => none
  | _, _, _ => none
theorem eqAV_out {ss : List Sc} {cs ds : List AV} {b : Bool} (h : eqAV ss cs ds = some b) : ∃ xs ys, concs cs = some xs ∧ concs ds = some ys ∧ eqs ss xs ys = some b := by
  induction ss generalizing cs ds b with
  | nil =>
    unfold eqAV at h
    split at h
    · exact ⟨[], [], rfl, rfl, h⟩
    · next e => cases e
    · cases h
  | cons s ss ih =>
    unfold eqAV at h
    split at h
    · next e => cases e
    · next s2 ss2 x xs y ys e =>
      cases e
      split at h
      · next a c h1 h2 =>
        cases h
        obtain ⟨us, vs, e1, e2, e3⟩ := ih h2
        refine ⟨x :: us, y :: vs, by simp [concs, e1], by simp [concs, e2], ?_⟩
        unfold eqs
        rw [h1, e3]
      · cases h
    · cases h
theorem eqT_out {t : TypeId} {ss : List Sc} (h : eqT P t = some ss) : (∃ fs, P.underlying t = some (.struct fs)) ∧ P.eqGuardType P.depth t = false ∧ flatT P 8 t = some ss := by
  unfold eqT at h
  split at h
  · next fs hk =>
    split at h
    · cases h
    · next hg => exact ⟨⟨fs, hk⟩, by simpa using hg, h⟩
  · cases h
theorem jbin_agg_eql {t : TypeId} {ss : List Sc} (h : eqT P t = some ss) {x y : Operand} {cs ds : List AV} {K : Kv} : jbin P .eql t x y (.agg cs) (.agg ds) = match eqAV ss cs ds with
    | some b => K.k (.v (.bool b))
    | none => abin P .eql t x y (.agg cs) (.agg ds) K.k := by
  split
  · next b hb =>
    obtain ⟨⟨fs, h1⟩, h2, h3⟩ := eqT_out h
    obtain ⟨xs, ys, e1, e2, e3⟩ := eqAV_out hb
    unfold jbin abin
    simp only [conc, e1, e2, Option.map_some]
    refine pureR (v := .bool b) fun w => ?_
    have e4 : ∀ zs, whole P t zs = .agg zs.toArray := fun zs => by simp [whole, h1]
    have h5 := run_flat 8 10000 (by omega) t ss h3 w xs ys b e3
    rw [e4, e4] at h5
    rw [Sem.run_bind, run_eqGuard_agg w _ t x y _ _ h2, Result.andThen_ok, run_eql_struct, h5]
    rfl
  · rfl
theorem jbin_agg_neq {t : TypeId} {ss : List Sc} (h : eqT P t = some ss) {x y : Operand} {cs ds : List AV} {K : Kv} : jbin P .neq t x y (.agg cs) (.agg ds) = match eqAV ss cs ds with
    | some b => K.k (.v (.bool (!b)))
    | none => abin P .neq t x y (.agg cs) (.agg ds) K.k := by
  split
  · next b hb =>
    obtain ⟨⟨fs, h1⟩, h2, h3⟩ := eqT_out h
    obtain ⟨xs, ys, e1, e2, e3⟩ := eqAV_out hb
    unfold jbin abin
    simp only [conc, e1, e2, Option.map_some]
    refine pureR (v := .bool (!b)) fun w => ?_
    have e4 : ∀ zs, whole P t zs = .agg zs.toArray := fun zs => by simp [whole, h1]
    have h5 := run_flat 8 10000 (by omega) t ss h3 w xs ys b e3
    rw [e4, e4] at h5
    rw [Sem.run_bind, run_eqGuard_agg w _ t x y _ _ h2, Result.andThen_ok, run_neq_struct, h5]
    rfl
  · rfl
end
end Go.Am
