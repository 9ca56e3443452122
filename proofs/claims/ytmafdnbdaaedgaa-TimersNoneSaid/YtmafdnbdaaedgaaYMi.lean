/- The abstract machine: methods called through interfaces, rules of the walks. No condition. -/
import Derived.Test.YtmafdnbdaaedgaaYMq
import Derived.Test.YtmafdnbdaaedgaaYb1
set_option linter.unusedSectionVars false
set_option linter.unusedVariables false
set_option linter.unusedSimpArgs false
set_option linter.deprecated false
namespace Go.Am
open Go.RowKit Go.Cx
def jinvoke (E : Env) (x : AV) (m : String) (al : List AV) (H : Heap) [K : Kvh] : Prop := ainvoke E x m al H K.k
def jmkI (P : Program) (t : TypeId) (x : AV) [K : Kv] : Prop := amkI P t x K.k
def jtyA (P : Program) (x : AV) (t : TypeId) (ok : Bool) [K : Kv] : Prop := atyA P x t ok K.k
section
variable {E : Env} {P : Program} {t t' ty : TypeId} {x : Operand} {ρ : Operand → AV} {H : Heap} {r off : Nat} {m : String}
theorem jop_invoke {K : Kvh} {al : Array Operand} {ts : Array TypeId} : jop E (.call ⟨.invoke x m, al, ts⟩) ty ρ H = @jinvoke E (ρ x) m (al.toList.map ρ) H K := (rfl)
theorem jop_makeInterface {K : Kvh} : jop E (.makeInterface t x) ty ρ H = @jmkI E.P t (ρ x) ⟨fun v => K.k v H⟩ := (rfl)
theorem jop_typeAssert {K : Kvh} {ok : Bool} : jop E (.typeAssert x t' t ok) ty ρ H = @jtyA E.P (ρ x) t ok ⟨fun v => K.k v H⟩ := (rfl)
theorem jinvoke_m {K : Kvh} {al : List AV} : jinvoke E (.ifp t r off) m al H = match methI E.P t m with
    | some (g, none) => @jcall E g (.ptr r off :: al) H K
    | some (g, some e) => @jload E.P e (.ptr r off) H ⟨fun v => @jcall E g (v :: al) H K⟩
    | none => False := (rfl)
theorem jmkI_m {K : Kv} : jmkI P t (.ptr r off) = match ptI P t with
    | some _ => K.k (.ifp t r off)
    | none => False := by
  unfold jmkI amkI
  cases ptI P t <;> rfl
theorem jtyA_m {K : Kv} : jtyA P (.ifp t' r off) t true = match ptI P t with
    | some _ => (t' = t ∧ K.k (.tup [.ptr r off, .v (.bool true)]))
    | none => False := by
  unfold jtyA atyA
  cases ptI P t <;> rfl
theorem ifp_nb {n : Nat} : nb n (.ifp t r off) = (r < n) := by unfold nb; rfl
end
end Go.Am
