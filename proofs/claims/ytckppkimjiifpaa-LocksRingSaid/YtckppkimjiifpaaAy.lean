/- The abstract machine: how its sums are reckoned. No condition. -/
import Derived.Test.YtckppkimjiifpaaAv
set_option linter.unusedSectionVars false
set_option linter.unusedVariables false
set_option linter.unusedSimpArgs false
set_option linter.deprecated false
namespace Go.Am
open Go.RowKit Go.Cx

theorem pureR {P : Program} {s : Sem Value} {v : Value} {K : AV → Prop} (h : ∀ w, s.run P w = .ok v w) : (∃ r, Ret P s r ∧ K (cv r)) = K (cv v) := by
  apply propext
  constructor
  · rintro ⟨r, h1, h2⟩
    have := (h default).symm.trans (h1 default)
    cases this
    exact h2
  · intro hk
    exact ⟨v, h, hk⟩

section
variable {P : Program} {t : TypeId} {x y : Operand} {k : IntKind} {a b : Int} {K : AV → Prop}
theorem abin_ii {op : BinOp} {v : Value} (h : ∀ w, (do eqGuard op t x y (.int k a) (.int k b); binOp op t (.int k a) (.int k b) : Sem Value).run P w = .ok v w) : abin P op t x y (.v (.int k a)) (.v (.int k b)) K = K (cv v) := by
  unfold abin conc
  exact pureR h
theorem abin_add : abin P .add t x y (.v (.int k a)) (.v (.int k b)) K = K (.v (.int k (k.wrap (a + b)))) := abin_ii (v := .int k (k.wrap (a + b))) fun w => by cases k <;> rfl
theorem abin_sub : abin P .sub t x y (.v (.int k a)) (.v (.int k b)) K = K (.v (.int k (k.wrap (a - b)))) := abin_ii (v := .int k (k.wrap (a - b))) fun w => by cases k <;> rfl
theorem abin_mul : abin P .mul t x y (.v (.int k a)) (.v (.int k b)) K = K (.v (.int k (k.wrap (a * b)))) := abin_ii (v := .int k (k.wrap (a * b))) fun w => by cases k <;> rfl
theorem abin_lss : abin P .lss t x y (.v (.int k a)) (.v (.int k b)) K = K (.v (.bool (decide (a < b)))) := abin_ii (v := .bool (decide (a < b))) fun w => by cases k <;> rfl
theorem abin_leq : abin P .leq t x y (.v (.int k a)) (.v (.int k b)) K = K (.v (.bool (decide (a ≤ b)))) := abin_ii (v := .bool (decide (a ≤ b))) fun w => by cases k <;> rfl
theorem abin_gtr : abin P .gtr t x y (.v (.int k a)) (.v (.int k b)) K = K (.v (.bool (decide (b < a)))) := abin_ii (v := .bool (decide (b < a))) fun w => by cases k <;> rfl
theorem abin_geq : abin P .geq t x y (.v (.int k a)) (.v (.int k b)) K = K (.v (.bool (decide (b ≤ a)))) := abin_ii (v := .bool (decide (b ≤ a))) fun w => by cases k <;> rfl
theorem abin_eql : abin P .eql t x y (.v (.int k a)) (.v (.int k b)) K = K (.v (.bool (decide (a = b)))) := abin_ii (v := .bool (decide (a = b))) fun w => by cases k <;> rfl
theorem abin_neq : abin P .neq t x y (.v (.int k a)) (.v (.int k b)) K = K (.v (.bool (!decide (a = b)))) := abin_ii (v := .bool (!decide (a = b))) fun w => by cases k <;> rfl
theorem abin_and : abin P .and t x y (.v (.int k a)) (.v (.int k b)) K = K (.v (.int k (bits .and k a b))) := abin_ii (v := .int k (bits .and k a b)) fun w => by cases k <;> rfl
theorem abin_or : abin P .or t x y (.v (.int k a)) (.v (.int k b)) K = K (.v (.int k (bits .or k a b))) := abin_ii (v := .int k (bits .or k a b)) fun w => by cases k <;> rfl
theorem abin_xor : abin P .xor t x y (.v (.int k a)) (.v (.int k b)) K = K (.v (.int k (bits .xor k a b))) := abin_ii (v := .int k (bits .xor k a b)) fun w => by cases k <;> rfl
theorem abin_andNot : abin P .andNot t x y (.v (.int k a)) (.v (.int k b)) K = K (.v (.int k (bits .andNot k a b))) := abin_ii (v := .int k (bits .andNot k a b)) fun w => by cases k <;> rfl
theorem abin_quo (h : b ≠ 0) : abin P .quo t x y (.v (.int k a)) (.v (.int k b)) K = K (.v (.int k (k.wrap (a.tdiv b)))) := abin_ii (v := .int k (k.wrap (a.tdiv b))) fun w => by
  have : Op.intDiv .quo k a b = pure (.int k (k.wrap (a.tdiv b))) := by unfold Op.intDiv; rw [if_neg h]
  cases k <;> exact congrArg (fun s : Sem Value => s.run P w) this
theorem abin_rem (h : b ≠ 0) : abin P .rem t x y (.v (.int k a)) (.v (.int k b)) K = K (.v (.int k (a.tmod b))) := abin_ii (v := .int k (a.tmod b)) fun w => by
  have : Op.intDiv .rem k a b = pure (.int k (a.tmod b)) := by unfold Op.intDiv; rw [if_neg h]
  cases k <;> exact congrArg (fun s : Sem Value => s.run P w) this
theorem abin_shl {k' : IntKind} (h : 0 ≤ b) : abin P .shl t x y (.v (.int k a)) (.v (.int k' b)) K = K (.v (.int k (k.wrap (a * 2 ^ (min b.toNat k.bits))))) := by
  unfold abin conc
  have e : Op.shift .shl k a k' b = pure (.int k (k.wrap (a * 2 ^ (min b.toNat k.bits)))) := by unfold Op.shift; rw [if_neg (Int.not_lt.2 h)]
  exact pureR (v := .int k (k.wrap (a * 2 ^ (min b.toNat k.bits)))) fun w => congrArg (fun s : Sem Value => s.run P w) e
theorem abin_shr {k' : IntKind} (h : 0 ≤ b) : abin P .shr t x y (.v (.int k a)) (.v (.int k' b)) K = K (.v (.int k (a.fdiv (2 ^ (min b.toNat k.bits))))) := by
  unfold abin conc
  have e : Op.shift .shr k a k' b = pure (.int k (a.fdiv (2 ^ (min b.toNat k.bits)))) := by unfold Op.shift; rw [if_neg (Int.not_lt.2 h)]
  exact pureR (v := .int k (a.fdiv (2 ^ (min b.toNat k.bits)))) fun w => congrArg (fun s : Sem Value => s.run P w) e
theorem abin_str_eql {a b : ByteArray} : abin P .eql t x y (.v (.string a)) (.v (.string b)) K = K (.v (.bool (a.toList == b.toList))) := by
  unfold abin conc
  exact pureR (v := .bool (a.toList == b.toList)) fun w => rfl
theorem abin_str_neq {a b : ByteArray} : abin P .neq t x y (.v (.string a)) (.v (.string b)) K = K (.v (.bool (!(a.toList == b.toList)))) := by
  unfold abin conc
  exact pureR (v := .bool (!(a.toList == b.toList))) fun w => rfl
end

theorem cv_int (k : IntKind) (n : Int) : cv (.int k n) = .v (.int k n) := rfl
theorem cv_bool (b : Bool) : cv (.bool b) = .v (.bool b) := rfl
theorem cv_str (b : ByteArray) : cv (.string b) = .v (.string b) := rfl
theorem cv_slice (a : Option Addr) (n c : Nat) : cv (.slice a n c) = .v (.slice a n c) := rfl
theorem cv_ptr (a : Option Addr) : cv (.pointer a) = .v (.pointer a) := rfl
theorem cv_nilFunc : cv .nilFunc = .v .nilFunc := rfl

section
variable {E : Env} {T : Nat → AV} {H : Heap}
/-- A region that is reckoned at its place. -/
theorem aop_not {ty : TypeId} {t : TypeId} {x : Operand} {b : Bool} {ρ : Operand → AV} {K : AV → Heap → Prop} (h : ρ x = .v (.bool b)) : aop E (.unOp .not t x) ty ρ H K = K (.v (.bool (!b))) H := by
  show (∃ u, conc (ρ x) = some u ∧ ∃ r, Ret E.P (Op.unary .not u) r ∧ K (cv r) H) = _
  rw [h]
  simp only [conc, Option.some.injEq, exists_eq_left']
  exact pureR (K := fun v => K v H) (v := .bool (!b)) fun w => rfl
end

/-! ### data -/
/-- Bytes. -/
abbrev byts (l : List UInt8) : AV := .sl 1 (l.map bcl)
theorem getD_bytes (l : List UInt8) (i : Nat) (h : i < l.length) : (l.map bcl).getD i [] = [.v (.int .u8 ((l[i]).toNat : Int))] := by simp [h, bcl]
end Go.Am
namespace Go.Am
open Go.RowKit Go.Cx

/-! ### nothing is looked into ahead of its turn -/
@[congr] theorem aops_still {E : Env} {all : Array Oper} {l : List Oper} {T : Nat → AV} {H : Heap} {K : (Nat → AV) → Heap → Prop} : aops E all l T H K = aops E all l T H K := rfl
@[congr] theorem aop_still {E : Env} {o : Op} {ty : TypeId} {ρ : Operand → AV} {H : Heap} {K : AV → Heap → Prop} : aop E o ty ρ H K = aop E o ty ρ H K := rfl
@[congr] theorem awp_still {E : Env} {n : Nat} {c : Code} {Q : Exit → (Nat → AV) → Heap → Prop} {T : Nat → AV} {H : Heap} : awp E n c Q T H = awp E n c Q T H := rfl
@[congr] theorem acallF_still {E : Env} {g : FuncId} {as as' : List AV} {H H' : Heap} {K : AV → Heap → Prop} (h1 : as = as') (h2 : H = H') : acallF E g as H K = acallF E g as' H' K := by rw [h1, h2]
@[congr] theorem apart_still {g g' : Bool} {s s' : Nat} {cs cs' : List AV} {K : AV → Prop} (h1 : g = g') (h2 : s = s') (h3 : cs = cs') : apart g s cs K = apart g' s' cs' K := by rw [h1, h2, h3]
@[congr] theorem aload_still {P : Program} {t : TypeId} {a a' : AV} {H H' : Heap} {K : AV → Prop} (h1 : a = a') (h2 : H = H') : aload P t a H K = aload P t a' H' K := by rw [h1, h2]
@[congr] theorem astore_still {P : Program} {t : TypeId} {a a' v v' : AV} {H H' : Heap} {K : Heap → Prop} (h1 : a = a') (h3 : v = v') (h2 : H = H') : astore P t a v H K = astore P t a' v' H' K := by rw [h1, h2, h3]
@[congr] theorem abin_still {P : Program} {op : BinOp} {t : TypeId} {x y : Operand} {a a' b b' : AV} {K : AV → Prop} (h1 : a = a') (h2 : b = b') : abin P op t x y a b K = abin P op t x y a' b' K := by rw [h1, h2]
@[congr] theorem aconv_still {P : Program} {s d : TypeId} {a a' : AV} {H H' : Heap} {K : AV → Heap → Prop} (h1 : a = a') (h2 : H = H') : aconv P s d a H K = aconv P s d a' H' K := by rw [h1, h2]
@[congr] theorem aslice_still {P : Program} {t : TypeId} {a a' : AV} {lo lo' hi hi' mx mx' : Option AV} {K : AV → Prop} (h1 : a = a') (h2 : lo = lo') (h3 : hi = hi') (h4 : mx = mx') : aslice P t a lo hi mx K = aslice P t a' lo' hi' mx' K := by rw [h1, h2, h3, h4]
@[congr] theorem aindexAddr_still {P : Program} {t : TypeId} {a a' i i' : AV} {K : AV → Prop} (h1 : a = a') (h2 : i = i') : aindexAddr P t a i K = aindexAddr P t a' i' K := by rw [h1, h2]
@[congr] theorem aindex_still {P : Program} {t : TypeId} {a a' i i' : AV} {K : AV → Prop} (h1 : a = a') (h2 : i = i') : aindex P t a i K = aindex P t a' i' K := by rw [h1, h2]
@[congr] theorem afield_still {P : Program} {t : TypeId} {a a' : AV} {f : Nat} {K : AV → Prop} (h1 : a = a') : afield P t a f K = afield P t a' f K := by rw [h1]
@[congr] theorem afieldAddr_still {P : Program} {t : TypeId} {a a' : AV} {f : Nat} {K : AV → Prop} (h1 : a = a') : afieldAddr P t a f K = afieldAddr P t a' f K := by rw [h1]
@[congr] theorem abuild_still {P : Program} {t : TypeId} {ps ps' : List (Nat × AV)} {K : AV → Prop} (h1 : ps = ps') : abuild P t ps K = abuild P t ps' K := by rw [h1]
@[congr] theorem abuildSlice_still {P : Program} {t : TypeId} {n : Nat} {ps ps' : List (Nat × AV)} {H H' : Heap} {K : AV → Heap → Prop} (h1 : ps = ps') (h2 : H = H') : abuildSlice P t n ps H K = abuildSlice P t n ps' H' K := by rw [h1, h2]
@[congr] theorem amakeSlice_still {P : Program} {t : TypeId} {l l' c c' : AV} {H H' : Heap} {K : AV → Heap → Prop} (h1 : l = l') (h3 : c = c') (h2 : H = H') : amakeSlice P t l c H K = amakeSlice P t l' c' H' K := by rw [h1, h2, h3]
@[congr] theorem aappend_still {P : Program} {ts : List TypeId} {as as' : List AV} {H H' : Heap} {K : AV → Heap → Prop} (h1 : as = as') (h2 : H = H') : aappend P ts as H K = aappend P ts as' H' K := by rw [h1, h2]
@[congr] theorem alenB_still {P : Program} {ts : List TypeId} {as as' : List AV} {K : AV → Prop} (h1 : as = as') : alenB P ts as K = alenB P ts as' K := by rw [h1]
@[congr] theorem ares_still {P : Program} {H H' : Heap} {T : Nat → AV} {rs : List ResultVar} {K : List AV → Prop} (h2 : H = H') : ares P H T rs K = ares P H' T rs K := by rw [h2]

@[congr] theorem apick_still {t t' : Bool} {a a' b b' : AV} {K : AV → Prop} (h1 : t = t') (h2 : a = a') (h3 : b = b') : apick t a b K = apick t' a' b' K := by rw [h1, h2, h3]
theorem apick_t {a b : AV} {K : AV → Prop} : apick true a b K = K a := by simp [apick]
theorem apick_f {a b : AV} {K : AV → Prop} : apick false a b K = K b := by simp [apick]
theorem apick_b {t a b : Bool} {K : AV → Prop} : apick t (.v (.bool a)) (.v (.bool b)) K = K (.v (.bool (if t then a else b))) := by cases t <;> simp [apick]
theorem put_at (T : Nat → AV) (d : Nat) (v : AV) (i : Nat) : put T d v i = if i = d then v else T i := rfl
theorem ev_tmp (gl T : Nat → AV) (i : Nat) : ev gl T (.tmp i) = T i := rfl
theorem ev_const (gl T : Nat → AV) (v : Value) : ev gl T (.const v) = cv v := rfl
theorem ev_global (gl T : Nat → AV) (g : Nat) : ev gl T (.global g) = gl g := rfl
theorem ev_func (gl T : Nat → AV) (f : Nat) : ev gl T (.func f) = .fn f [] [] := rfl
theorem T0_at (as : List AV) (i : Nat) : T0 as i = (as[i]?).getD (.v undef) := rfl
theorem aput_some (T : Nat → AV) (d : Nat) (v : AV) : aput T (some d) v = put T d v := rfl
theorem aput_none (T : Nat → AV) (v : AV) : aput T none v = T := rfl

section
variable {P : Program} {t : TypeId} {H : Heap} {K : AV → Prop} {KH : AV → Heap → Prop}
theorem aload_m {a : AV} : aload P t a H K = match tyI P t with
    | some (s, g, _) => (match place H a with
      | some cs => apart g s cs K
      | none => False)
    | none => False := by
  unfold aload
  apply propext
  cases tyI P t with
  | none => simp
  | some x =>
    obtain ⟨s, g, z⟩ := x
    cases h : place H a with
    | none => exact ⟨fun ⟨_, _, _, _, cs, h2, _⟩ => (by cases h2), fun h => h.elim⟩
    | some cs => exact ⟨fun ⟨_, _, _, h1, cs', h2, h3⟩ => (by cases h1; cases h2; exact h3), fun h3 => ⟨s, g, z, rfl, cs, rfl, h3⟩⟩
theorem apart_t {s : Nat} {cs : List AV} : apart true s cs K = (s ≤ cs.length ∧ K (.agg (cs.take s))) := rfl
theorem apart_f {s : Nat} {c : AV} {cs : List AV} : apart false s (c :: cs) K = K c := by simp [apart]
theorem aindexAddr_ptr {r off : Nat} {k : IntKind} {i : Int} : aindexAddr P t (.ptr r off) (.v (.int k i)) K = match arI P t with
    | some (n, sz, _) => (0 ≤ i ∧ i < n) ∧ K (.ptr r (off + i.toNat * sz))
    | none => False := by
  unfold aindexAddr
  apply propext
  cases arI P t with
  | none => simp
  | some x =>
    obtain ⟨n, sz, g⟩ := x
    exact ⟨fun ⟨_, _, _, h1, h2⟩ => (by cases h1; exact h2), fun h => ⟨n, sz, g, rfl, h⟩⟩
theorem aindexAddr_cptr {cs : List AV} {k : IntKind} {i : Int} : aindexAddr P t (.cptr cs) (.v (.int k i)) K = match arI P t with
    | some (n, sz, _) => (0 ≤ i ∧ i < n) ∧ K (.cptr (cs.drop (i.toNat * sz)))
    | none => False := by
  unfold aindexAddr
  apply propext
  cases arI P t with
  | none => simp
  | some x =>
    obtain ⟨n, sz, g⟩ := x
    exact ⟨fun ⟨_, _, _, h1, h2⟩ => (by cases h1; exact h2), fun h => ⟨n, sz, g, rfl, h⟩⟩
theorem aindexAddr_rp {r s j off : Nat} {k : IntKind} {i : Int} : aindexAddr P t (.rp r s j off) (.v (.int k i)) K = match arI P t with
    | some (n, sz, _) => (0 ≤ i ∧ i < n) ∧ K (.rp r s j (off + i.toNat * sz))
    | none => False := by
  unfold aindexAddr
  apply propext
  cases arI P t with
  | none => simp
  | some x =>
    obtain ⟨n, sz, g⟩ := x
    exact ⟨fun ⟨_, _, _, h1, h2⟩ => (by cases h1; exact h2), fun h => ⟨n, sz, g, rfl, h⟩⟩
theorem aindexAddr_sl {sz : Nat} {es : List (List AV)} {k : IntKind} {i : Int} : aindexAddr P t (.sl sz es) (.v (.int k i)) K = ((∃ e, slI P t = some (e, sz)) ∧ (0 ≤ i ∧ i < es.length) ∧ K (.cptr (es.getD i.toNat []))) := rfl
theorem aindexAddr_hs {r sz off n : Nat} {k : IntKind} {i : Int} : aindexAddr P t (.hs r sz off n) (.v (.int k i)) K = ((∃ e, slI P t = some (e, sz)) ∧ (0 ≤ i ∧ i < n) ∧ K (.rp r sz (off + i.toNat) 0)) := rfl
theorem aindexAddr_os {r sz off n : Nat} {k : IntKind} {i : Int} : aindexAddr P t (.os r sz off n) (.v (.int k i)) K = ((∃ e, slI P t = some (e, sz)) ∧ (0 ≤ i ∧ i < n) ∧ K (.ptr r (off + i.toNat * sz))) := rfl
theorem aindex_agg {cs : List AV} {k : IntKind} {i : Int} : aindex P t (.agg cs) (.v (.int k i)) K = match arI P t with
    | some (n, sz, g) => (0 ≤ i ∧ i < n) ∧ apart g sz (cs.drop (i.toNat * sz)) K
    | none => False := by
  unfold aindex
  apply propext
  cases arI P t with
  | none => simp
  | some x =>
    obtain ⟨n, sz, g⟩ := x
    exact ⟨fun ⟨_, _, _, h1, h2⟩ => (by cases h1; exact h2), fun h => ⟨n, sz, g, rfl, h⟩⟩
theorem aindex_str {s : ByteArray} {k : IntKind} {i : Int} : aindex P t (.v (.string s)) (.v (.int k i)) K = (P.underlying t = some .string ∧ (0 ≤ i ∧ i < s.size) ∧ K (.v (.int .u8 ((s.data.getD i.toNat 0).toNat : Int)))) := rfl
theorem afield_m {cs : List AV} {f : Nat} : afield P t (.agg cs) f K = match stI P t with
    | some fs => (match fs[f]? with
      | some (off, s, g) => apart g s (cs.drop off) K
      | none => False)
    | none => False := by
  unfold afield
  apply propext
  cases stI P t with
  | none => simp
  | some fs =>
    simp only [Option.some.injEq]
    constructor
    · rintro ⟨fs, off, s, g, rfl, h1, cs', h2, h3⟩
      cases h2
      rw [h1]
      exact h3
    · intro h
      cases h1 : fs[f]? with
      | none => rw [h1] at h; exact h.elim
      | some x =>
        obtain ⟨off, s, g⟩ := x
        rw [h1] at h
        exact ⟨fs, off, s, g, rfl, h1, cs, rfl, h⟩
theorem afieldAddr_m {a : AV} {f : Nat} : afieldAddr P t a f K = match stI P t with
    | some fs => (match fs[f]? with
      | some (off, s, _) => s ≠ 0 ∧ (match a with
        | .ptr r o => K (.ptr r (o + off))
        | .rp r sz i o => K (.rp r sz i (o + off))
        | .cptr cs => K (.cptr (cs.drop off))
        | _ => False)
      | none => False)
    | none => False := by
  unfold afieldAddr
  apply propext
  cases stI P t with
  | none => simp
  | some fs =>
    simp only [Option.some.injEq]
    constructor
    · rintro ⟨fs, off, s, g, rfl, h1, h2, h3⟩
      rw [h1]
      exact ⟨h2, h3⟩
    · intro h
      cases h1 : fs[f]? with
      | none => rw [h1] at h; exact h.elim
      | some x =>
        obtain ⟨off, s, g⟩ := x
        rw [h1] at h
        exact ⟨fs, off, s, g, rfl, h1, h.1, h.2⟩
theorem abuild_m {ps : List (Nat × AV)} : abuild P t ps K = match tyI P t with
    | some (_, _, z) => ((match stI P t with
        | some fs => (match afill (fun i => (fs[i]?).map fun x => (x.1, x.2.1)) z ps with
          | some cs => K (.agg cs)
          | none => False)
        | none => False) ∨ (match arI P t with
        | some (_, sz, _) => (match afill (fun i => some (i * sz, sz)) z ps with
          | some cs => K (.agg cs)
          | none => False)
        | none => False))
    | none => False := by
  unfold abuild
  apply propext
  cases tyI P t with
  | none => simp
  | some x =>
    obtain ⟨s, g, z⟩ := x
    simp only [Option.some.injEq, Prod.mk.injEq]
    constructor
    · rintro ⟨_, _, _, ⟨rfl, rfl, rfl⟩, ⟨fs, h1, cs, h2, h3⟩ | ⟨n, sz, g', h1, cs, h2, h3⟩⟩
      · exact .inl (by rw [h1]; simp only; rw [h2]; exact h3)
      · exact .inr (by rw [h1]; simp only; rw [h2]; exact h3)
    · intro h
      refine ⟨s, g, z, ⟨rfl, rfl, rfl⟩, ?_⟩
      rcases h with h | h
      · cases h1 : stI P t with
        | none => rw [h1] at h; exact h.elim
        | some fs =>
          rw [h1] at h
          simp only at h
          cases h2 : afill (fun i => (fs[i]?).map fun x => (x.1, x.2.1)) z ps with
          | none => rw [h2] at h; exact h.elim
          | some cs => rw [h2] at h; exact .inl ⟨fs, rfl, cs, h2, h⟩
      · cases h1 : arI P t with
        | none => rw [h1] at h; exact h.elim
        | some x =>
          obtain ⟨n, sz, g'⟩ := x
          rw [h1] at h
          simp only at h
          cases h2 : afill (fun i => some (i * sz, sz)) z ps with
          | none => rw [h2] at h; exact h.elim
          | some cs => rw [h2] at h; exact .inr ⟨n, sz, g', rfl, cs, h2, h⟩
theorem abuildSlice_m {n : Nat} {ps : List (Nat × AV)} : abuildSlice P t n ps H KH = match slI P t with
    | some (e, sz) => (match tyI P e with
      | some (sz', _, z) => sz' = sz ∧ 0 < sz ∧ n * sz ≤ 16777216 ∧ (match bfill sz (List.replicate n z) ps with
        | some es => KH (.hs H.length sz 0 n) (H ++ [some (.row true sz es)])
        | none => False)
      | none => False)
    | none => False := by
  unfold abuildSlice
  apply propext
  cases slI P t with
  | none => simp
  | some x =>
    obtain ⟨e, sz⟩ := x
    simp only [Option.some.injEq, Prod.mk.injEq]
    cases h0 : tyI P e with
    | none =>
      constructor
      · rintro ⟨e', sz', ⟨rfl, rfl⟩, g, z, h1, _⟩
        rw [h0] at h1; cases h1
      · intro h; exact h.elim
    | some y =>
      obtain ⟨s', g, z⟩ := y
      constructor
      · rintro ⟨e', sz', ⟨rfl, rfl⟩, g, z, h1, h2, h3, es, h4, h5⟩
        rw [h0] at h1
        cases h1
        refine ⟨rfl, h2, h3, ?_⟩
        rw [h4]
        exact h5
      · rintro ⟨rfl, h2, h3, h4⟩
        cases h5 : bfill s' (List.replicate n z) ps with
        | none => rw [h5] at h4; exact h4.elim
        | some es =>
          rw [h5] at h4
          exact ⟨e, s', ⟨rfl, rfl⟩, g, z, h0, h2, h3, es, h5, h4⟩
theorem aappend_m {tx : TypeId} {s x : AV} : aappend P [t, tx] [s, x] H KH = match slI P t with
    | some (_, sz) => (match dest H sz s with
      | some (H1, old) => (match source P H sz tx x with
        | some new => old.length + new.length ≤ 68719476736 ∧ KH (.hs H.length sz 0 (old.length + new.length)) (H1 ++ [some (.row true sz (old ++ new))])
        | none => False)
      | none => False)
    | none => False := by
  show (∃ e sz, slI P t = some (e, sz) ∧ ∃ H1 old, dest H sz s = some (H1, old) ∧ ∃ new, source P H sz tx x = some new ∧ old.length + new.length ≤ 68719476736 ∧ KH (.hs H.length sz 0 (old.length + new.length)) (H1 ++ [some (.row true sz (old ++ new))])) = _
  generalize slI P t = o
  apply propext
  cases o with
  | none => exact ⟨fun ⟨_, _, h, _⟩ => (by cases h), fun h => h.elim⟩
  | some y =>
    obtain ⟨e, sz⟩ := y
    constructor
    · rintro ⟨e', sz', h0, H1, old, h1, new, h2, h3, h4⟩
      cases h0
      simp only
      rw [h1]
      simp only
      rw [h2]
      exact ⟨h3, h4⟩
    · intro h
      simp only at h
      cases h1 : dest H sz s with
      | none => rw [h1] at h; exact h.elim
      | some z =>
        obtain ⟨H1, old⟩ := z
        rw [h1] at h
        simp only at h
        cases h2 : source P H sz tx x with
        | none => rw [h2] at h; exact h.elim
        | some new =>
          rw [h2] at h
          exact ⟨e, sz, rfl, H1, old, h1, new, h2, h.1, h.2⟩
theorem amakeSlice_m {k k' : IntKind} {ln cp : Int} : amakeSlice P t (.v (.int k ln)) (.v (.int k' cp)) H KH = match slI P t with
    | some (e, sz) => (match tyI P e with
      | some (sz', _, z) => sz' = sz ∧ (0 ≤ ln ∧ ln ≤ cp ∧ cp ≤ 68719476736) ∧ KH (.hs H.length sz 0 ln.toNat) (H ++ [some (.row true sz (List.replicate ln.toNat z))])
      | none => False)
    | none => False := by
  unfold amakeSlice
  apply propext
  cases slI P t with
  | none => simp
  | some x =>
    obtain ⟨e, sz⟩ := x
    simp only [Option.some.injEq, Prod.mk.injEq]
    cases h0 : tyI P e with
    | none =>
      constructor
      · rintro ⟨e', sz', ⟨rfl, rfl⟩, g, z, h1, _⟩
        rw [h0] at h1; cases h1
      · intro h; exact h.elim
    | some y =>
      obtain ⟨s', g, z⟩ := y
      constructor
      · rintro ⟨e', sz', ⟨rfl, rfl⟩, g, z, h1, _, _, _, _, h2, h3, h4, h5⟩
        rw [h0] at h1
        cases h1
        cases h2
        cases h3
        exact ⟨rfl, h4, h5⟩
      · rintro ⟨rfl, h4, h5⟩
        exact ⟨e, s', ⟨rfl, rfl⟩, g, z, h0, k, k', ln, cp, rfl, rfl, h4, h5⟩
theorem alenB_str {b : ByteArray} : alenB P [t] [.v (.string b)] K = (P.underlying t = some .string ∧ K (.v (.int .i64 b.size))) := rfl
theorem alenB_sl {sz : Nat} {es : List (List AV)} : alenB P [t] [.sl sz es] K = ((∃ e z, slI P t = some (e, z)) ∧ K (.v (.int .i64 es.length))) := by
  show ((∃ e z, slI P t = some (e, z)) ∧ ∃ n, some es.length = some n ∧ K (.v (.int .i64 n))) = _
  simp
theorem alenB_hs {r sz off n : Nat} : alenB P [t] [.hs r sz off n] K = ((∃ e z, slI P t = some (e, z)) ∧ K (.v (.int .i64 n))) := by
  show ((∃ e z, slI P t = some (e, z)) ∧ ∃ m, some n = some m ∧ K (.v (.int .i64 m))) = _
  simp
theorem alenB_os {r sz off n : Nat} : alenB P [t] [.os r sz off n] K = ((∃ e z, slI P t = some (e, z)) ∧ K (.v (.int .i64 n))) := by
  show ((∃ e z, slI P t = some (e, z)) ∧ ∃ m, some n = some m ∧ K (.v (.int .i64 m))) = _
  simp
theorem alenB_mt : alenB P [t] [.mt] K = ((∃ e z, slI P t = some (e, z)) ∧ K (.v (.int .i64 0))) := by
  show ((∃ e z, slI P t = some (e, z)) ∧ ∃ m, some 0 = some m ∧ K (.v (.int .i64 (m : Nat)))) = _
  simp
theorem alenB_nil : alenB P [t] [.v (.slice none 0 0)] K = ((∃ e z, slI P t = some (e, z)) ∧ K (.v (.int .i64 0))) := by
  show ((∃ e z, slI P t = some (e, z)) ∧ ∃ m, some 0 = some m ∧ K (.v (.int .i64 (m : Nat)))) = _
  simp
theorem astore_ptr {KS : Heap → Prop} {r off : Nat} {v : AV} : astore P t (.ptr r off) v H KS = match tyI P t with
    | some (s, _, _) => (match cells1 v with
      | some cs => cs.length = s ∧ (match H[r]? with
        | some (some (.obj old)) => off + s ≤ old.length ∧ KS (H.set r (some (.obj (splice off cs old))))
        | _ => False)
      | none => False)
    | none => False := by
  show (∃ s g z, tyI P t = some (s, g, z) ∧ ∃ cs, cells1 v = some cs ∧ cs.length = s ∧ ∃ old, H[r]? = some (some (.obj old)) ∧ off + s ≤ old.length ∧ KS (H.set r (some (.obj (splice off cs old))))) = _
  apply propext
  generalize tyI P t = o
  constructor
  · rintro ⟨s, g, z, rfl, cs, h1, h2, old, h3, h4⟩
    simp only
    rw [h1]
    simp only
    rw [h3]
    exact ⟨h2, h4⟩
  · intro h
    match o, h with
    | some (s, g, z), h =>
      simp only at h
      cases h1 : cells1 v with
      | none => rw [h1] at h; exact h.elim
      | some cs =>
        rw [h1] at h
        obtain ⟨h2, h3⟩ := h
        split at h3
        · next old h4 => exact ⟨s, g, z, rfl, cs, rfl, h2, old, h4, h3⟩
        · exact h3.elim
theorem astore_rp {KS : Heap → Prop} {r sz i off : Nat} {v : AV} : astore P t (.rp r sz i off) v H KS = match tyI P t with
    | some (s, _, _) => (match cells1 v with
      | some cs => cs.length = s ∧ (match H[r]? with
        | some (some (.row true sz' es)) => sz' = sz ∧ i < es.length ∧ off + s ≤ (es.getD i []).length ∧ KS (H.set r (some (.row true sz (es.set i (splice off cs (es.getD i []))))))
        | _ => False)
      | none => False)
    | none => False := by
  show (∃ s g z, tyI P t = some (s, g, z) ∧ ∃ cs, cells1 v = some cs ∧ cs.length = s ∧ ∃ es old, H[r]? = some (some (.row true sz es)) ∧ es[i]? = some old ∧ off + s ≤ old.length ∧ KS (H.set r (some (.row true sz (es.set i (splice off cs old)))))) = _
  apply propext
  generalize tyI P t = o
  constructor
  · rintro ⟨s, g, z, rfl, cs, h1, h2, es, old, h3, h5, h4⟩
    simp only
    rw [h1]
    simp only
    rw [h3]
    obtain ⟨h6, h7⟩ := List.getElem?_eq_some_iff.1 h5
    have h8 : es.getD i [] = old := by simp [h5]
    refine ⟨h2, rfl, h6, ?_⟩
    rw [h8]
    exact h4
  · intro h
    match o, h with
    | some (s, g, z), h =>
      simp only at h
      cases h1 : cells1 v with
      | none => rw [h1] at h; exact h.elim
      | some cs =>
        rw [h1] at h
        obtain ⟨h2, h3⟩ := h
        split at h3
        · next sz' es h4 =>
          obtain ⟨rfl, h5, h6⟩ := h3
          exact ⟨s, g, z, rfl, cs, rfl, h2, es, _, h4, by simp [h5], h6⟩
        · exact h3.elim
section
variable {lo hi : Option AV}
theorem aslice_cut {a : AV} {n : Nat} {k : Nat → Int → Int → Prop} : (∃ e sz, slI P t = some (e, sz) ∧ ∃ m, some n = some m ∧ ∃ l h q, abound lo 0 = some l ∧ abound hi m = some h ∧ abound none m = some q ∧ (0 ≤ l ∧ l ≤ h ∧ h ≤ q ∧ q ≤ m) ∧ ((none : Option AV).isSome = true → hi.isSome = true) ∧
      (((none : Option AV).isSome = true ∧ q = l → K a) ∧ (¬ ((none : Option AV).isSome = true ∧ q = l) → k sz l h))) =
    (match slI P t, abound lo 0, abound hi n with
    | some (_, sz), some l, some h => (0 ≤ l ∧ l ≤ h ∧ h ≤ n) ∧ k sz l h
    | _, _, _ => False) := by
  apply propext
  constructor
  · rintro ⟨e, sz, h0, m, h1, l, h, q, h2, h3, h4, h5, _, _, h6⟩
    cases h1
    cases h4
    rw [h0, h2, h3]
    exact ⟨⟨h5.1, h5.2.1, h5.2.2.1⟩, h6 (by simp)⟩
  · intro h
    split at h
    · next e sz l h' h0 h1 h2 =>
      exact ⟨e, sz, h0, n, rfl, l, h', n, h1, h2, rfl, ⟨h.1.1, h.1.2.1, h.1.2.2, Int.le_refl _⟩, (by simp), (by simp), fun _ => h.2⟩
    · exact h.elim
theorem aslice_sl {sz : Nat} {es : List (List AV)} : aslice P t (.sl sz es) lo hi none K = (match slI P t, abound lo 0, abound hi es.length with
    | some (_, s), some l, some h => (0 ≤ l ∧ l ≤ h ∧ h ≤ es.length) ∧ sz = s ∧ K (.sl s ((es.take h.toNat).drop l.toNat))
    | _, _, _ => False) := aslice_cut (a := .mt) (n := es.length) (k := fun s l h => sz = s ∧ K (.sl s ((es.take h.toNat).drop l.toNat)))
theorem aslice_hs {r sz off n : Nat} : aslice P t (.hs r sz off n) lo hi none K = (match slI P t, abound lo 0, abound hi n with
    | some (_, s), some l, some h => (0 ≤ l ∧ l ≤ h ∧ h ≤ n) ∧ sz = s ∧ K (.hs r s (off + l.toNat) (h - l).toNat)
    | _, _, _ => False) := aslice_cut (a := .mt) (n := n) (k := fun s l h => sz = s ∧ K (.hs r s (off + l.toNat) (h - l).toNat))
theorem aslice_os {r sz off n : Nat} : aslice P t (.os r sz off n) lo hi none K = (match slI P t, abound lo 0, abound hi n with
    | some (_, s), some l, some h => (0 ≤ l ∧ l ≤ h ∧ h ≤ n) ∧ sz = s ∧ K (.os r s (off + l.toNat * s) (h - l).toNat)
    | _, _, _ => False) := aslice_cut (a := .mt) (n := n) (k := fun s l h => sz = s ∧ K (.os r s (off + l.toNat * s) (h - l).toNat))
theorem aslice_mt : aslice P t .mt lo hi none K = (match slI P t, abound lo 0, abound hi ((0 : Nat) : Int) with
    | some (_, _), some l, some h => (0 ≤ l ∧ l ≤ h ∧ h ≤ ((0 : Nat) : Int)) ∧ K .mt
    | _, _, _ => False) := aslice_cut (a := .mt) (n := 0) (k := fun _ _ _ => K .mt)
theorem aslice_nil : aslice P t (.v (.slice none 0 0)) lo hi none K = (match slI P t, abound lo 0, abound hi ((0 : Nat) : Int) with
    | some (_, _), some l, some h => (0 ≤ l ∧ l ≤ h ∧ h ≤ ((0 : Nat) : Int)) ∧ K (.v (.slice none 0 0))
    | _, _, _ => False) := aslice_cut (a := .mt) (n := 0) (k := fun _ _ _ => K (.v (.slice none 0 0)))
theorem aslice_str {s : ByteArray} : aslice P t (.v (.string s)) lo hi none K = (P.underlying t = some .string ∧ match abound lo 0, abound hi s.size with
    | some l, some h => (0 ≤ l ∧ l ≤ h ∧ h ≤ s.size) ∧ K (.v (.string (s.extract l.toNat h.toNat)))
    | _, _ => False) := by
  show (P.underlying t = some .string ∧ (none : Option AV) = none ∧ ∃ l h, abound lo 0 = some l ∧ abound hi s.size = some h ∧ (0 ≤ l ∧ l ≤ h ∧ h ≤ s.size) ∧ K (.v (.string (s.extract l.toNat h.toNat)))) = _
  apply propext
  constructor
  · rintro ⟨h0, _, l, h, h1, h2, h3⟩
    rw [h1, h2]
    exact ⟨h0, h3⟩
  · rintro ⟨h0, h⟩
    split at h
    · next l h' h1 h2 => exact ⟨h0, rfl, l, h', h1, h2, h⟩
    · exact h.elim
theorem aslice_ptr {r off : Nat} : aslice P t (.ptr r off) lo hi none K = (match arI P t with
    | some (n, sz, _) => n ≤ 1099511627776 ∧ (match abound lo 0, abound hi n with
      | some l, some h => (0 ≤ l ∧ l ≤ h ∧ h ≤ n) ∧ K (.os r sz (off + l.toNat * sz) (h - l).toNat)
      | _, _ => False)
    | none => False) := by
  show (∃ n sz g, arI P t = some (n, sz, g) ∧ n ≤ 1099511627776 ∧ (none : Option AV) = none ∧ ∃ l h, abound lo 0 = some l ∧ abound hi n = some h ∧ (0 ≤ l ∧ l ≤ h ∧ h ≤ n) ∧ K (.os r sz (off + l.toNat * sz) (h - l).toNat)) = _
  apply propext
  generalize arI P t = o
  constructor
  · rintro ⟨n, sz, g, rfl, hn, _, l, h, h1, h2, h3⟩
    simp only
    rw [h1, h2]
    exact ⟨hn, h3⟩
  · intro h
    match o, h with
    | some (n, sz, g), h =>
      simp only at h
      obtain ⟨hn, h⟩ := h
      split at h
      · next l h' h1 h2 => exact ⟨n, sz, g, rfl, hn, rfl, l, h', h1, h2, h⟩
      · exact h.elim
end
/-- There is such a slice type. -/
theorem slI_is {e z : Nat} (h : slI P t = some (e, z)) : (∃ e z, slI P t = some (e, z)) = True := by rw [h]; simp
theorem slI_at {e z : Nat} (h : slI P t = some (e, z)) (z' : Nat) : (∃ e, slI P t = some (e, z')) = (z' = z) := by
  rw [h]
  simp
  exact ⟨fun h => h.symm, fun h => h.symm⟩
end

section
variable {E : Env} {n : Nat} {T : Nat → AV} {H : Heap} {Q : Exit → (Nat → AV) → Heap → Prop}
theorem w_seq {c a b : Code} (hc : c = .seq a b) (h : ∀ K : (Nat → AV) → Heap → Prop, (∀ T' H', Cl E n (awp E n b Q) T' H' → K T' H') → awp E n a (anorm K Q) T H) : awp E n c Q T H := by
  subst hc
  exact h _ fun _ _ h => h
theorem w_reg {c : Code} {i : Nat} {ops : Array Oper} (hc : c = .region i ops false) (h : aops E ops ops.toList T H (fun T' H' => Q .normal T' H')) : awp E n c Q T H := by
  subst hc
  exact h
theorem w_cond {c x y : Code} {o : Operand} {t : Bool} (hc : c = .cond o x y) (ho : ev E.gl T o = .v (.bool t)) (h1 : t = true → awp E n x Q T H) (h2 : t = false → awp E n y Q T H) : awp E n c Q T H := by
  subst hc
  exact ⟨t, ho, h1, h2⟩
theorem w_skip {c : Code} (hc : c = .skip) (h : Q .normal T H) : awp E n c Q T H := by
  subst hc
  exact h
theorem w_ret {c : Code} (hc : c = .ret) (h : Q .ret T H) : awp E n c Q T H := by
  subst hc
  exact h
theorem w_exit {c : Code} {i : Nat} (hc : c = .exit i) (h : Q (.exit i) T H) : awp E n c Q T H := by
  subst hc
  exact h
theorem w_block {c b : Code} {i : Nat} (hc : c = .block i b) (h : awp E n b (ablock i Q) T H) : awp E n c Q T H := by
  subst hc
  exact h
theorem w_scope {c b : Code} (hc : c = .scope b) (h : awp E n b (astay Q) T H) : awp E n c Q T H := by
  subst hc
  exact h
theorem w_label {c : Code} {l : Nat} (hc : c = .label l) (h : Q .normal T H) : awp E n c Q T H := by
  subst hc
  exact h
theorem w_loop {c b : Code} (hc : c = .loop b) (I : Nat → (Nat → AV) → Heap → Prop) (h0 : ∃ k, Cl E n (I k) T H)
    (h : ∀ k T1 H1, I k T1 H1 → ∀ K : (Nat → AV) → Heap → Prop, (∀ T' H', (Cl E n (fun T2 H2 => ∃ j, j < k ∧ I j T2 H2) T' H') → K T' H') → awp E n b (anorm K Q) T1 H1) : awp E n c Q T H := by
  subst hc
  exact ⟨I, h0, fun k T1 H1 hI => h k T1 H1 hI _ fun _ _ h1 => h1⟩
theorem acallF_of {g : FuncId} {as : List AV} {K : AV → Heap → Prop} {R : AV → Heap → Prop} (h : ACalls E g as H R) (hk : ∀ r H', R r H' → K r H') : acallF E g as H K := ⟨R, h, hk⟩
theorem acallF_ret {g : FuncId} {as : List AV} {K : AV → Heap → Prop} {r : AV} {H' : Heap} (h : ACalls E g as H fun x h => x = r ∧ h = H') (hk : K r H') : acallF E g as H K := ⟨_, h, by rintro _ _ ⟨rfl, rfl⟩; exact hk⟩
end
end Go.Am
