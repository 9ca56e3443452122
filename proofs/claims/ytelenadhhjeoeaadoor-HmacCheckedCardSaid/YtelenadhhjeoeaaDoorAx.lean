/- The abstract machine: how its sums are reckoned. No condition. -/
import Derived.Test.YtelenadhhjeoeaaDoorAv
set_option linter.unusedSectionVars false
set_option linter.unusedVariables false
set_option linter.unusedSimpArgs false
set_option linter.deprecated false
namespace Go.Am
open Go.RowKit Go.Cx

theorem pureR {P : Program} {s : Sem Value} {v : Value} {K : AV → Prop} (h : ∀ w, s.run P w = .ok v w) : (∃ r, Ret P s r ∧ K (cv r)) = K (cv v) := by
  apply propext
  constructor
  · rintro ⟨r, h1, h2⟩
    have := (h default).symm.trans (h1 default)
    cases this
    exact h2
  · intro hk
    exact ⟨v, h, hk⟩

section
variable {P : Program} {t : TypeId} {x y : Operand} {k : IntKind} {a b : Int} {K : AV → Prop}
theorem abin_ii {op : BinOp} {v : Value} (h : ∀ w, (do eqGuard op t x y (.int k a) (.int k b); binOp op t (.int k a) (.int k b) : Sem Value).run P w = .ok v w) : abin P op t x y (.v (.int k a)) (.v (.int k b)) K = K (cv v) := by
  unfold abin conc
  exact pureR h
theorem abin_add : abin P .add t x y (.v (.int k a)) (.v (.int k b)) K = K (.v (.int k (k.wrap (a + b)))) := abin_ii (v := .int k (k.wrap (a + b))) fun w => by cases k <;> rfl
theorem abin_sub : abin P .sub t x y (.v (.int k a)) (.v (.int k b)) K = K (.v (.int k (k.wrap (a - b)))) := abin_ii (v := .int k (k.wrap (a - b))) fun w => by cases k <;> rfl
theorem abin_mul : abin P .mul t x y (.v (.int k a)) (.v (.int k b)) K = K (.v (.int k (k.wrap (a * b)))) := abin_ii (v := .int k (k.wrap (a * b))) fun w => by cases k <;> rfl
theorem abin_lss : abin P .lss t x y (.v (.int k a)) (.v (.int k b)) K = K (.v (.bool (decide (a < b)))) := abin_ii (v := .bool (decide (a < b))) fun w => by cases k <;> rfl
theorem abin_leq : abin P .leq t x y (.v (.int k a)) (.v (.int k b)) K = K (.v (.bool (decide (a ≤ b)))) := abin_ii (v := .bool (decide (a ≤ b))) fun w => by cases k <;> rfl
theorem abin_gtr : abin P .gtr t x y (.v (.int k a)) (.v (.int k b)) K = K (.v (.bool (decide (b < a)))) := abin_ii (v := .bool (decide (b < a))) fun w => by cases k <;> rfl
theorem abin_geq : abin P .geq t x y (.v (.int k a)) (.v (.int k b)) K = K (.v (.bool (decide (b ≤ a)))) := abin_ii (v := .bool (decide (b ≤ a))) fun w => by cases k <;> rfl
theorem abin_eql : abin P .eql t x y (.v (.int k a)) (.v (.int k b)) K = K (.v (.bool (decide (a = b)))) := abin_ii (v := .bool (decide (a = b))) fun w => by cases k <;> rfl
theorem abin_neq : abin P .neq t x y (.v (.int k a)) (.v (.int k b)) K = K (.v (.bool (!decide (a = b)))) := abin_ii (v := .bool (!decide (a = b))) fun w => by cases k <;> rfl
theorem abin_and : abin P .and t x y (.v (.int k a)) (.v (.int k b)) K = K (.v (.int k (bits .and k a b))) := abin_ii (v := .int k (bits .and k a b)) fun w => by cases k <;> rfl
theorem abin_or : abin P .or t x y (.v (.int k a)) (.v (.int k b)) K = K (.v (.int k (bits .or k a b))) := abin_ii (v := .int k (bits .or k a b)) fun w => by cases k <;> rfl
theorem abin_xor : abin P .xor t x y (.v (.int k a)) (.v (.int k b)) K = K (.v (.int k (bits .xor k a b))) := abin_ii (v := .int k (bits .xor k a b)) fun w => by cases k <;> rfl
theorem abin_andNot : abin P .andNot t x y (.v (.int k a)) (.v (.int k b)) K = K (.v (.int k (bits .andNot k a b))) := abin_ii (v := .int k (bits .andNot k a b)) fun w => by cases k <;> rfl
theorem abin_quo (h : b ≠ 0) : abin P .quo t x y (.v (.int k a)) (.v (.int k b)) K = K (.v (.int k (k.wrap (a.tdiv b)))) := abin_ii (v := .int k (k.wrap (a.tdiv b))) fun w => by
  have : Op.intDiv .quo k a b = pure (.int k (k.wrap (a.tdiv b))) := by unfold Op.intDiv; rw [if_neg h]
  cases k <;> exact congrArg (fun s : Sem Value => s.run P w) this
theorem abin_rem (h : b ≠ 0) : abin P .rem t x y (.v (.int k a)) (.v (.int k b)) K = K (.v (.int k (a.tmod b))) := abin_ii (v := .int k (a.tmod b)) fun w => by
  have : Op.intDiv .rem k a b = pure (.int k (a.tmod b)) := by unfold Op.intDiv; rw [if_neg h]
  cases k <;> exact congrArg (fun s : Sem Value => s.run P w) this
theorem abin_shl {k' : IntKind} (h : 0 ≤ b) : abin P .shl t x y (.v (.int k a)) (.v (.int k' b)) K = K (.v (.int k (k.wrap (a * 2 ^ (min b.toNat k.bits))))) := by
  unfold abin conc
  have e : Op.shift .shl k a k' b = pure (.int k (k.wrap (a * 2 ^ (min b.toNat k.bits)))) := by unfold Op.shift; rw [if_neg (Int.not_lt.2 h)]
  exact pureR (v := .int k (k.wrap (a * 2 ^ (min b.toNat k.bits)))) fun w => congrArg (fun s : Sem Value => s.run P w) e
theorem abin_shr {k' : IntKind} (h : 0 ≤ b) : abin P .shr t x y (.v (.int k a)) (.v (.int k' b)) K = K (.v (.int k (a.fdiv (2 ^ (min b.toNat k.bits))))) := by
  unfold abin conc
  have e : Op.shift .shr k a k' b = pure (.int k (a.fdiv (2 ^ (min b.toNat k.bits)))) := by unfold Op.shift; rw [if_neg (Int.not_lt.2 h)]
  exact pureR (v := .int k (a.fdiv (2 ^ (min b.toNat k.bits)))) fun w => congrArg (fun s : Sem Value => s.run P w) e
theorem abin_str_eql {a b : ByteArray} : abin P .eql t x y (.v (.string a)) (.v (.string b)) K = K (.v (.bool (a.toList == b.toList))) := by
  unfold abin conc
  exact pureR (v := .bool (a.toList == b.toList)) fun w => rfl
theorem abin_str_neq {a b : ByteArray} : abin P .neq t x y (.v (.string a)) (.v (.string b)) K = K (.v (.bool (!(a.toList == b.toList)))) := by
  unfold abin conc
  exact pureR (v := .bool (!(a.toList == b.toList))) fun w => rfl
end

theorem cv_int (k : IntKind) (n : Int) : cv (.int k n) = .v (.int k n) := rfl
theorem cv_bool (b : Bool) : cv (.bool b) = .v (.bool b) := rfl
theorem cv_str (b : ByteArray) : cv (.string b) = .v (.string b) := rfl
theorem cv_slice (a : Option Addr) (n c : Nat) : cv (.slice a n c) = .v (.slice a n c) := rfl
theorem cv_ptr (a : Option Addr) : cv (.pointer a) = .v (.pointer a) := rfl
theorem cv_nilFunc : cv .nilFunc = .v .nilFunc := rfl

section
variable {E : Env} {T : Nat → AV} {H : Heap}
/-- A region that is reckoned at its place. -/
theorem aop_not {ty : TypeId} {t : TypeId} {x : Operand} {b : Bool} {ρ : Operand → AV} {K : AV → Heap → Prop} (h : ρ x = .v (.bool b)) : aop E (.unOp .not t x) ty ρ H K = K (.v (.bool (!b))) H := by
  show (∃ u, conc (ρ x) = some u ∧ ∃ r, Ret E.P (Op.unary .not u) r ∧ K (cv r) H) = _
  rw [h]
  simp only [conc, Option.some.injEq, exists_eq_left']
  exact pureR (K := fun v => K v H) (v := .bool (!b)) fun w => rfl
end

/-! ### data -/
/-- Bytes. -/
abbrev byts (l : List UInt8) : AV := .sl 1 (l.map bcl)
theorem getD_bytes (l : List UInt8) (i : Nat) (h : i < l.length) : (l.map bcl).getD i [] = [.v (.int .u8 ((l[i]).toNat : Int))] := by simp [h, bcl]
end Go.Am
