/- The abstract machine: rules for the walk; what comes behind is hidden from the simplifier till it is its turn. No condition. -/
import Derived.Test.YtckppkimjiifpaaAy
set_option linter.unusedSectionVars false
set_option linter.unusedVariables false
set_option linter.unusedSimpArgs false
set_option linter.deprecated false
namespace Go.Am
open Go.RowKit Go.Cx

class Kv where
  k : AV → Prop
class Kh where
  k : Heap → Prop
class Kvh where
  k : AV → Heap → Prop
class Kth where
  k : (Nat → AV) → Heap → Prop
class Kl where
  k : List AV → Prop

def jops (E : Env) (all : Array Oper) (l : List Oper) (T : Nat → AV) (H : Heap) [K : Kth] : Prop := aops E all l T H K.k
def jop (E : Env) (o : Op) (ty : TypeId) (ρ : Operand → AV) (H : Heap) [K : Kvh] : Prop := aop E o ty ρ H K.k
def jload (P : Program) (t : TypeId) (a : AV) (H : Heap) [K : Kv] : Prop := aload P t a H K.k
def jpart (g : Bool) (s : Nat) (cs : List AV) [K : Kv] : Prop := apart g s cs K.k
def jstore (P : Program) (t : TypeId) (a v : AV) (H : Heap) [K : Kh] : Prop := astore P t a v H K.k
def jbin (P : Program) (op : BinOp) (t : TypeId) (x y : Operand) (a b : AV) [K : Kv] : Prop := abin P op t x y a b K.k
def jconv (P : Program) (s d : TypeId) (a : AV) (H : Heap) [K : Kvh] : Prop := aconv P s d a H K.k
def jslice (P : Program) (t : TypeId) (a : AV) (lo hi mx : Option AV) [K : Kv] : Prop := aslice P t a lo hi mx K.k
def jidxA (P : Program) (t : TypeId) (a i : AV) [K : Kv] : Prop := aindexAddr P t a i K.k
def jidx (P : Program) (t : TypeId) (a i : AV) [K : Kv] : Prop := aindex P t a i K.k
def jfield (P : Program) (t : TypeId) (a : AV) (f : Nat) [K : Kv] : Prop := afield P t a f K.k
def jfieldA (P : Program) (t : TypeId) (a : AV) (f : Nat) [K : Kv] : Prop := afieldAddr P t a f K.k
def jbuild (P : Program) (t : TypeId) (ps : List (Nat × AV)) [K : Kv] : Prop := abuild P t ps K.k
def jbuildS (P : Program) (t : TypeId) (n : Nat) (ps : List (Nat × AV)) (H : Heap) [K : Kvh] : Prop := abuildSlice P t n ps H K.k
def jmake (P : Program) (t : TypeId) (l c : AV) (H : Heap) [K : Kvh] : Prop := amakeSlice P t l c H K.k
def jappend (P : Program) (ts : List TypeId) (as : List AV) (H : Heap) [K : Kvh] : Prop := aappend P ts as H K.k
def jlen (P : Program) (ts : List TypeId) (as : List AV) [K : Kv] : Prop := alenB P ts as K.k
def jlenM (P : Program) (t : TypeId) (r : Nat) (H : Heap) [K : Kv] : Prop := (∃ ke, mpI P t = some ke) ∧ ∃ ks vs st, H[r]? = some (some (.map ks vs st)) ∧ K.k (.v (.int .i64 ks.length))
def jpick (t : Bool) (a b : AV) [K : Kv] : Prop := apick t a b K.k
def jcall (E : Env) (g : FuncId) (as : List AV) (H : Heap) [K : Kvh] : Prop := acallF E g as H K.k
def jres (P : Program) (H : Heap) (T : Nat → AV) (rs : List ResultVar) [K : Kl] : Prop := ares P H T rs K.k
/-- What has several ways to be. -/
def jall (p : Bool → Prop) [K : Kv] : Prop := ∀ t, p t → K.k (.v (.bool t))

class Kg where
  run : Prop
  skip : Prop
def jguard (y : Option (Option Bool)) (want : Bool) [K : Kg] : Prop := match y with
  | some (some b) => (b = want → K.run) ∧ (¬ b = want → K.skip)
  | some none => K.skip
  | none => False
section
variable [K : Kg]
theorem jg_tt : jguard (some (some true)) true = K.run := by simp [jguard]
theorem jg_ff : jguard (some (some false)) false = K.run := by simp [jguard]
theorem jg_tf : jguard (some (some true)) false = K.skip := by simp [jguard]
theorem jg_ft : jguard (some (some false)) true = K.skip := by simp [jguard]
theorem jg_n {b : Bool} : jguard (some none) b = K.skip := (rfl)
end

section
variable {E : Env} {all : Array Oper} {os : List Oper} {T : Nat → AV} {H : Heap} [K : Kth]
theorem jops_nil : jops E all [] T H = K.k T H := (rfl)
theorem jops_one {d : Option Tmp} {o : Op} {ty : TypeId} {p : String} {af : Array Edge} : jops E all (⟨d, o, ty, p, af, none⟩ :: os) T H = @jop E o ty (ev E.gl T) H ⟨fun v H' => @jops E all os (aput T d v) H' K⟩ := (rfl)
theorem jops_g {d : Option Tmp} {o : Op} {ty : TypeId} {p : String} {af : Array Edge} {j : Nat} {b : Bool} :
    jops E all (⟨d, o, ty, p, af, some (j, b)⟩ :: os) T H = @jguard (ayield all T j) b ⟨@jop E o ty (ev E.gl T) H ⟨fun v H' => @jops E all os (aput T d v) H' K⟩, @jops E all os (aput T d (.v undef)) H K⟩ := by
  simp only [jops, aops]
  unfold jguard
  rfl
end

section
variable {E : Env} {ty t : TypeId} {ρ : Operand → AV} {H : Heap} [K : Kvh] {x y : Operand}
theorem jop_move : jop E (.move x) ty ρ H = K.k (ρ x) H := (rfl)
theorem jop_assign : jop E (.assign x) ty ρ H = K.k (ρ x) H := (rfl)
theorem jop_pick {c : Operand} : jop E (.pick c x y) ty ρ H = match ρ c with
    | .v (.bool t) => @jpick t (ρ x) (ρ y) ⟨fun v => K.k v H⟩
    | _ => False := (rfl)
theorem jop_alloc : jop E (.alloc t) ty ρ H = match tyI E.P t with
    | some (_, _, z) => K.k (.ptr H.length 0) (H ++ [some (.obj z)])
    | none => False := (rfl)
theorem jop_box : jop E (.box t x) ty ρ H = match cells1 (ρ x) with
    | some cs => K.k (.ptr H.length 0) (H ++ [some (.obj cs)])
    | none => False := (rfl)
theorem jop_build {ps : Array (Nat × Operand)} : jop E (.build t ps) ty ρ H = @jbuild E.P t (ps.toList.map fun p => (p.1, ρ p.2)) ⟨fun v => K.k v H⟩ := (rfl)
theorem jop_buildSlice {n : Nat} {ps : Array (Nat × Operand)} : jop E (.buildSlice t n ps) ty ρ H = @jbuildS E.P t n (ps.toList.map fun p => (p.1, ρ p.2)) H K := (rfl)
theorem jop_load : jop E (.load t x) ty ρ H = @jload E.P t (ρ x) H ⟨fun v => K.k v H⟩ := (rfl)
theorem jop_store : jop E (.store t x y) ty ρ H = @jstore E.P t (ρ x) (ρ y) H ⟨fun H' => K.k (.v undef) H'⟩ := (rfl)
theorem jop_nilCheck : jop E (.nilCheck x) ty ρ H = (sure (ρ x) = true ∧ K.k (ρ x) H) := (rfl)
theorem jop_bin {op : BinOp} {u : TypeId} : jop E (.binOp op t x y u) ty ρ H = @jbin E.P op t x y (ρ x) (ρ y) ⟨fun v => K.k v H⟩ := (rfl)
theorem jop_not : jop E (.unOp .not t x) ty ρ H = match ρ x with
    | .v (.bool b) => K.k (.v (.bool (!b))) H
    | a => aop E (.unOp .not t x) ty (fun _ => a) H K.k := by
  split
  · next b h => exact aop_not h
  · rfl
theorem jop_convert {s d : TypeId} : jop E (.convert s d x) ty ρ H = @jconv E.P s d (ρ x) H K := (rfl)
theorem jop_makeFunc {f : FuncId} {a b : Array Operand} : jop E (.makeFunc (.func f) a b) ty ρ H = K.k (.fn f (a.toList.map ρ) (b.toList.map ρ)) H := (rfl)
theorem jop_makeSlice : jop E (.makeSlice t x y) ty ρ H = @jmake E.P t (ρ x) (ρ y) H K := (rfl)
theorem jop_slice {lo hi mx : Option Operand} : jop E (.slice t x lo hi mx) ty ρ H = @jslice E.P t (ρ x) (lo.map ρ) (hi.map ρ) (mx.map ρ) ⟨fun v => K.k v H⟩ := (rfl)
theorem jop_fieldAddr {f : Nat} : jop E (.fieldAddr t x f) ty ρ H = @jfieldA E.P t (ρ x) f ⟨fun v => K.k v H⟩ := (rfl)
theorem jop_field {f : Nat} : jop E (.field t x f) ty ρ H = @jfield E.P t (ρ x) f ⟨fun v => K.k v H⟩ := (rfl)
theorem jop_indexAddr : jop E (.indexAddr t x y) ty ρ H = @jidxA E.P t (ρ x) (ρ y) ⟨fun v => K.k v H⟩ := (rfl)
theorem jop_index : jop E (.index t x y) ty ρ H = @jidx E.P t (ρ x) (ρ y) ⟨fun v => K.k v H⟩ := (rfl)
theorem jop_extract {i : Nat} : jop E (.extract x i) ty ρ H = match ρ x with
    | .tup vs => (match vs[i]? with
      | some a => K.k a H
      | none => False)
    | _ => False := (rfl)
theorem jop_len {as : Array Operand} {ts : Array TypeId} : jop E (.call ⟨.builtin .len, as, ts⟩) ty ρ H = match ts.toList, as.toList.map ρ with
    | [t], [.mp r] => @jlenM E.P t r H ⟨fun v => K.k v H⟩
    | ts, as => @jlen E.P ts as ⟨fun v => K.k v H⟩ := (rfl)
theorem jop_append {as : Array Operand} {ts : Array TypeId} : jop E (.call ⟨.builtin .append, as, ts⟩) ty ρ H = @jappend E.P ts.toList (as.toList.map ρ) H K := (rfl)
theorem jop_call {f : Operand} {as : Array Operand} {ts : Array TypeId} : jop E (.call ⟨.value f, as, ts⟩) ty ρ H = match ρ f with
    | .fn g first caps => @jcall E g (first ++ as.toList.map ρ ++ caps) H K
    | _ => False := (rfl)
end

section
variable {P : Program} {t : TypeId} {H : Heap} [K : Kv] {a : AV}
theorem jload_m : jload P t a H = match tyI P t with
    | some (s, g, _) => (match place H a with
      | some cs => @jpart g s cs K
      | none => False)
    | none => False := aload_m
theorem jpart_t {s : Nat} {cs : List AV} : jpart true s cs = (s ≤ cs.length ∧ K.k (.agg (cs.take s))) := (rfl)
theorem jpart_f {s : Nat} {c : AV} {cs : List AV} : jpart false s (c :: cs) = K.k c := apart_f
theorem jpick_t {b : AV} : jpick true a b = K.k a := apick_t
theorem jpick_f {b : AV} : jpick false a b = K.k b := apick_f
theorem jpick_b {c x y : Bool} : jpick c (.v (.bool x)) (.v (.bool y)) = K.k (.v (.bool (if c then x else y))) := apick_b
theorem jidxA_ptr {r off : Nat} {k : IntKind} {i : Int} : jidxA P t (.ptr r off) (.v (.int k i)) = match arI P t with
    | some (n, sz, _) => (0 ≤ i ∧ i < n) ∧ K.k (.ptr r (off + i.toNat * sz))
    | none => False := aindexAddr_ptr
theorem jidxA_cptr {cs : List AV} {k : IntKind} {i : Int} : jidxA P t (.cptr cs) (.v (.int k i)) = match arI P t with
    | some (n, sz, _) => (0 ≤ i ∧ i < n) ∧ K.k (.cptr (cs.drop (i.toNat * sz)))
    | none => False := aindexAddr_cptr
theorem jidxA_rp {r s j off : Nat} {k : IntKind} {i : Int} : jidxA P t (.rp r s j off) (.v (.int k i)) = match arI P t with
    | some (n, sz, _) => (0 ≤ i ∧ i < n) ∧ K.k (.rp r s j (off + i.toNat * sz))
    | none => False := aindexAddr_rp
theorem jidxA_sl {sz : Nat} {es : List (List AV)} {k : IntKind} {i : Int} : jidxA P t (.sl sz es) (.v (.int k i)) = ((∃ e, slI P t = some (e, sz)) ∧ (0 ≤ i ∧ i < es.length) ∧ K.k (.cptr (es.getD i.toNat []))) := (rfl)
theorem jidxA_hs {r sz off n : Nat} {k : IntKind} {i : Int} : jidxA P t (.hs r sz off n) (.v (.int k i)) = ((∃ e, slI P t = some (e, sz)) ∧ (0 ≤ i ∧ i < n) ∧ K.k (.rp r sz (off + i.toNat) 0)) := (rfl)
theorem jidxA_os {r sz off n : Nat} {k : IntKind} {i : Int} : jidxA P t (.os r sz off n) (.v (.int k i)) = ((∃ e, slI P t = some (e, sz)) ∧ (0 ≤ i ∧ i < n) ∧ K.k (.ptr r (off + i.toNat * sz))) := (rfl)
theorem jidx_agg {cs : List AV} {k : IntKind} {i : Int} : jidx P t (.agg cs) (.v (.int k i)) = match arI P t with
    | some (n, sz, g) => (0 ≤ i ∧ i < n) ∧ @jpart g sz (cs.drop (i.toNat * sz)) K
    | none => False := aindex_agg
theorem jidx_str {s : ByteArray} {k : IntKind} {i : Int} : jidx P t (.v (.string s)) (.v (.int k i)) = (P.underlying t = some .string ∧ (0 ≤ i ∧ i < s.size) ∧ K.k (.v (.int .u8 ((s.data.getD i.toNat 0).toNat : Int)))) := (rfl)
theorem jfield_m {cs : List AV} {f : Nat} : jfield P t (.agg cs) f = match stI P t with
    | some fs => (match fs[f]? with
      | some (off, s, g) => @jpart g s (cs.drop off) K
      | none => False)
    | none => False := afield_m
theorem jfieldA_m {f : Nat} : jfieldA P t a f = match stI P t with
    | some fs => (match fs[f]? with
      | some (off, s, _) => s ≠ 0 ∧ (match a with
        | .ptr r o => K.k (.ptr r (o + off))
        | .rp r sz i o => K.k (.rp r sz i (o + off))
        | .cptr cs => K.k (.cptr (cs.drop off))
        | _ => False)
      | none => False)
    | none => False := afieldAddr_m
theorem jbuild_m {ps : List (Nat × AV)} : jbuild P t ps = match tyI P t with
    | some (_, _, z) => ((match stI P t with
        | some fs => (match afill (fun i => (fs[i]?).map fun x => (x.1, x.2.1)) z ps with
          | some cs => K.k (.agg cs)
          | none => False)
        | none => False) ∨ (match arI P t with
        | some (_, sz, _) => (match afill (fun i => some (i * sz, sz)) z ps with
          | some cs => K.k (.agg cs)
          | none => False)
        | none => False))
    | none => False := abuild_m
theorem jlen_str {b : ByteArray} : jlen P [t] [.v (.string b)] = (P.underlying t = some .string ∧ K.k (.v (.int .i64 b.size))) := (rfl)
theorem jlen_sl {sz : Nat} {es : List (List AV)} : jlen P [t] [.sl sz es] = ((∃ e z, slI P t = some (e, z)) ∧ K.k (.v (.int .i64 es.length))) := alenB_sl
theorem jlen_hs {r sz off n : Nat} : jlen P [t] [.hs r sz off n] = ((∃ e z, slI P t = some (e, z)) ∧ K.k (.v (.int .i64 n))) := alenB_hs
theorem jlen_os {r sz off n : Nat} : jlen P [t] [.os r sz off n] = ((∃ e z, slI P t = some (e, z)) ∧ K.k (.v (.int .i64 n))) := alenB_os
theorem jlen_mt : jlen P [t] [.mt] = ((∃ e z, slI P t = some (e, z)) ∧ K.k (.v (.int .i64 0))) := alenB_mt
theorem jlen_nil : jlen P [t] [.v (.slice none 0 0)] = ((∃ e z, slI P t = some (e, z)) ∧ K.k (.v (.int .i64 0))) := alenB_nil
section
variable {lo hi : Option AV}
theorem jslice_sl {sz : Nat} {es : List (List AV)} : jslice P t (.sl sz es) lo hi none = (match slI P t, abound lo 0, abound hi es.length with
    | some (_, s), some l, some h => (0 ≤ l ∧ l ≤ h ∧ h ≤ es.length) ∧ sz = s ∧ K.k (.sl s ((es.take h.toNat).drop l.toNat))
    | _, _, _ => False) := aslice_sl
theorem jslice_hs {r sz off n : Nat} : jslice P t (.hs r sz off n) lo hi none = (match slI P t, abound lo 0, abound hi n with
    | some (_, s), some l, some h => (0 ≤ l ∧ l ≤ h ∧ h ≤ n) ∧ sz = s ∧ K.k (.hs r s (off + l.toNat) (h - l).toNat)
    | _, _, _ => False) := aslice_hs
theorem jslice_os {r sz off n : Nat} : jslice P t (.os r sz off n) lo hi none = (match slI P t, abound lo 0, abound hi n with
    | some (_, s), some l, some h => (0 ≤ l ∧ l ≤ h ∧ h ≤ n) ∧ sz = s ∧ K.k (.os r s (off + l.toNat * s) (h - l).toNat)
    | _, _, _ => False) := aslice_os
theorem jslice_mt : jslice P t .mt lo hi none = (match slI P t, abound lo 0, abound hi ((0 : Nat) : Int) with
    | some (_, _), some l, some h => (0 ≤ l ∧ l ≤ h ∧ h ≤ ((0 : Nat) : Int)) ∧ K.k .mt
    | _, _, _ => False) := aslice_mt
theorem jslice_nil : jslice P t (.v (.slice none 0 0)) lo hi none = (match slI P t, abound lo 0, abound hi ((0 : Nat) : Int) with
    | some (_, _), some l, some h => (0 ≤ l ∧ l ≤ h ∧ h ≤ ((0 : Nat) : Int)) ∧ K.k (.v (.slice none 0 0))
    | _, _, _ => False) := aslice_nil
theorem jslice_str {s : ByteArray} : jslice P t (.v (.string s)) lo hi none = (P.underlying t = some .string ∧ match abound lo 0, abound hi s.size with
    | some l, some h => (0 ≤ l ∧ l ≤ h ∧ h ≤ s.size) ∧ K.k (.v (.string (s.extract l.toNat h.toNat)))
    | _, _ => False) := aslice_str
theorem jslice_ptr {r off : Nat} : jslice P t (.ptr r off) lo hi none = (match arI P t with
    | some (n, sz, _) => n ≤ 1099511627776 ∧ (match abound lo 0, abound hi n with
      | some l, some h => (0 ≤ l ∧ l ≤ h ∧ h ≤ n) ∧ K.k (.os r sz (off + l.toNat * sz) (h - l).toNat)
      | _, _ => False)
    | none => False) := aslice_ptr
end
end

section
variable {P : Program} {t : TypeId} {H : Heap} [K : Kvh]
theorem jbuildS_m {n : Nat} {ps : List (Nat × AV)} : jbuildS P t n ps H = match slI P t with
    | some (e, sz) => (match tyI P e with
      | some (sz', _, z) => sz' = sz ∧ 0 < sz ∧ n * sz ≤ 16777216 ∧ (match bfill sz (List.replicate n z) ps with
        | some es => K.k (.hs H.length sz 0 n) (H ++ [some (.row true sz es)])
        | none => False)
      | none => False)
    | none => False := abuildSlice_m
theorem jappend_m {tx : TypeId} {s x : AV} : jappend P [t, tx] [s, x] H = match slI P t with
    | some (_, sz) => (match dest H sz s with
      | some (H1, old) => (match source P H sz tx x with
        | some new => old.length + new.length ≤ 68719476736 ∧ K.k (.hs H.length sz 0 (old.length + new.length)) (H1 ++ [some (.row true sz (old ++ new))])
        | none => False)
      | none => False)
    | none => False := aappend_m
theorem jmake_m {k k' : IntKind} {ln cp : Int} : jmake P t (.v (.int k ln)) (.v (.int k' cp)) H = match slI P t with
    | some (e, sz) => (match tyI P e with
      | some (sz', _, z) => sz' = sz ∧ (0 ≤ ln ∧ ln ≤ cp ∧ cp ≤ 68719476736) ∧ K.k (.hs H.length sz 0 ln.toNat) (H ++ [some (.row true sz (List.replicate ln.toNat z))])
      | none => False)
    | none => False := amakeSlice_m
theorem jconv_int {s d : TypeId} {k : IntKind} {n : Int} : jconv P s d (.v (.int k n)) H = match P.underlying s, P.underlying d with
    | some (.int _), some (.int k2) => K.k (.v (.int k2 (k2.wrap n))) H
    | _, _ => aconv P s d (.v (.int k n)) H K.k := by
  unfold jconv
  split
  · next h1 h2 => simp only [aconv, h1, h2]
  · rfl
/-- string(b) -/
theorem jconv_bytes {P : Program} {H : Heap} {K : Kvh} {s d e : TypeId} {a : AV} {l : List UInt8} (hs : P.underlying s = some (.slice e)) (he : P.underlying e = some (.int .u8)) (hd : P.underlying d = some .string) (h : elems H 1 a = some (l.map bcl)) (hk : K.k (.v (.string (str l))) H) : jconv (K := K) P s d a H := by
  unfold jconv aconv
  rw [hs, hd]
  exact ⟨he, l, h, hk⟩
end

section
variable {P : Program} {t : TypeId} {H : Heap} [K : Kh]
theorem jstore_ptr {r off : Nat} {v : AV} : jstore P t (.ptr r off) v H = match tyI P t with
    | some (s, _, _) => (match cells1 v with
      | some cs => cs.length = s ∧ (match H[r]? with
        | some (some (.obj old)) => off + s ≤ old.length ∧ K.k (H.set r (some (.obj (splice off cs old))))
        | _ => False)
      | none => False)
    | none => False := astore_ptr
theorem jstore_rp {r sz i off : Nat} {v : AV} : jstore P t (.rp r sz i off) v H = match tyI P t with
    | some (s, _, _) => (match cells1 v with
      | some cs => cs.length = s ∧ (match H[r]? with
        | some (some (.row true sz' es)) => sz' = sz ∧ i < es.length ∧ off + s ≤ (es.getD i []).length ∧ K.k (H.set r (some (.row true sz (es.set i (splice off cs (es.getD i []))))))
        | _ => False)
      | none => False)
    | none => False := astore_rp
end

section
variable {P : Program} {t : TypeId} {x y : Operand} {k : IntKind} {a b : Int} [K : Kv]
theorem jbin_add : jbin P .add t x y (.v (.int k a)) (.v (.int k b)) = K.k (.v (.int k (k.wrap (a + b)))) := abin_add
theorem jbin_sub : jbin P .sub t x y (.v (.int k a)) (.v (.int k b)) = K.k (.v (.int k (k.wrap (a - b)))) := abin_sub
theorem jbin_mul : jbin P .mul t x y (.v (.int k a)) (.v (.int k b)) = K.k (.v (.int k (k.wrap (a * b)))) := abin_mul
theorem jbin_lss : jbin P .lss t x y (.v (.int k a)) (.v (.int k b)) = K.k (.v (.bool (decide (a < b)))) := abin_lss
theorem jbin_leq : jbin P .leq t x y (.v (.int k a)) (.v (.int k b)) = K.k (.v (.bool (decide (a ≤ b)))) := abin_leq
theorem jbin_gtr : jbin P .gtr t x y (.v (.int k a)) (.v (.int k b)) = K.k (.v (.bool (decide (b < a)))) := abin_gtr
theorem jbin_geq : jbin P .geq t x y (.v (.int k a)) (.v (.int k b)) = K.k (.v (.bool (decide (b ≤ a)))) := abin_geq
theorem jbin_eql : jbin P .eql t x y (.v (.int k a)) (.v (.int k b)) = K.k (.v (.bool (decide (a = b)))) := abin_eql
theorem jbin_neq : jbin P .neq t x y (.v (.int k a)) (.v (.int k b)) = K.k (.v (.bool (!decide (a = b)))) := abin_neq
theorem jbin_and : jbin P .and t x y (.v (.int k a)) (.v (.int k b)) = K.k (.v (.int k (bits .and k a b))) := abin_and
theorem jbin_or : jbin P .or t x y (.v (.int k a)) (.v (.int k b)) = K.k (.v (.int k (bits .or k a b))) := abin_or
theorem jbin_xor : jbin P .xor t x y (.v (.int k a)) (.v (.int k b)) = K.k (.v (.int k (bits .xor k a b))) := abin_xor
theorem jbin_andNot : jbin P .andNot t x y (.v (.int k a)) (.v (.int k b)) = K.k (.v (.int k (bits .andNot k a b))) := abin_andNot
theorem jbin_quo (h : b ≠ 0) : jbin P .quo t x y (.v (.int k a)) (.v (.int k b)) = K.k (.v (.int k (k.wrap (a.tdiv b)))) := abin_quo h
theorem jbin_rem (h : b ≠ 0) : jbin P .rem t x y (.v (.int k a)) (.v (.int k b)) = K.k (.v (.int k (a.tmod b))) := abin_rem h
theorem jbin_shl {k' : IntKind} (h : 0 ≤ b) : jbin P .shl t x y (.v (.int k a)) (.v (.int k' b)) = K.k (.v (.int k (k.wrap (a * 2 ^ (min b.toNat k.bits))))) := abin_shl h
theorem jbin_shr {k' : IntKind} (h : 0 ≤ b) : jbin P .shr t x y (.v (.int k a)) (.v (.int k' b)) = K.k (.v (.int k (a.fdiv (2 ^ (min b.toNat k.bits))))) := abin_shr h
theorem jbin_str_eql {a b : ByteArray} : jbin P .eql t x y (.v (.string a)) (.v (.string b)) = K.k (.v (.bool (a.toList == b.toList))) := abin_str_eql
theorem jbin_str_neq {a b : ByteArray} : jbin P .neq t x y (.v (.string a)) (.v (.string b)) = K.k (.v (.bool (!(a.toList == b.toList)))) := abin_str_neq
end

section
variable {P : Program} {H : Heap} {T : Nat → AV} {rs : List ResultVar} [K : Kl]
theorem jres_nil : jres P H T [] = K.k [] := (rfl)
theorem jres_tmp {t : Tmp} : jres P H T (.tmp t :: rs) = @jres P H T rs ⟨fun vs => K.k (T t :: vs)⟩ := (rfl)
theorem jres_cell {p : Tmp} {ty : TypeId} : jres P H T (.cell p ty :: rs) = @jload P ty (T p) H ⟨fun v => @jres P H T rs ⟨fun vs => K.k (v :: vs)⟩⟩ := (rfl)
end

section
variable {E : Env} {n : Nat} {T : Nat → AV} {H : Heap} {Q : Exit → (Nat → AV) → Heap → Prop}
theorem z_reg {c : Code} {i : Nat} {ops : Array Oper} (hc : c = .region i ops false) (h : @jops E ops ops.toList T H ⟨fun T' H' => Q .normal T' H'⟩) : awp E n c Q T H := w_reg hc h
theorem z_call {g : FuncId} {as : List AV} {K : Kvh} {R : AV → Heap → Prop} (h : ACalls E g as H R) (hk : ∀ r H', R r H' → K.k r H') : jcall (K := K) E g as H := ⟨R, h, hk⟩
theorem z_ret {g : FuncId} {as : List AV} {K : Kvh} {r : AV} {H' : Heap} (h : ACalls E g as H fun x h => x = r ∧ h = H') (hk : K.k r H') : jcall (K := K) E g as H := acallF_ret h hk
theorem z_end {P : Program} {rs : List ResultVar} {KK : AV → Heap → Prop} (h : @jres P H T rs ⟨fun vs => KK (one vs) H⟩) : afin P rs KK .ret T H := h
theorem z_end0 {P : Program} {rs : List ResultVar} {KK : AV → Heap → Prop} (h : @jres P H T rs ⟨fun vs => KK (one vs) H⟩) : afin P rs KK .normal T H := h
/-- The function's own blocks go; nothing else was written. -/
theorem z_back {H L : Heap} {R : AV → Heap → Prop} {r : AV} (d : Nat) (hnb : nb H.length (frz d L H.length r)) (hR : R (frz d L H.length r) H) : aend H R r (H ++ L) :=
  ⟨H, L, d, rfl, rfl, fun _ _ h => .inl h, hnb, hR⟩
theorem z_back0 {H : Heap} {R : AV → Heap → Prop} {r : AV} (hnb : nb H.length r) (hR : R r H) : aend H R r H :=
  ⟨H, [], 0, by simp, rfl, fun _ _ h => .inl h, hnb, hR⟩
end

/-! ### branches -/
class Kc where
  x : Prop
  y : Prop
def jcnd (a : AV) [K : Kc] : Prop := match a with
  | .v (.bool t) => (t = true → K.x) ∧ (t = false → K.y)
  | _ => False
section
variable {K : Kc}
theorem jc_t (h : K.x) : jcnd (K := K) (.v (.bool true)) := ⟨fun _ => h, fun h => by cases h⟩
theorem jc_f (h : K.y) : jcnd (K := K) (.v (.bool false)) := ⟨fun h => (by cases h), fun _ => h⟩
theorem jc_d {p : Prop} [Decidable p] (h1 : p → K.x) (h2 : ¬ p → K.y) : jcnd (K := K) (.v (.bool (decide p))) := ⟨fun h => h1 (of_decide_eq_true h), fun h => h2 (of_decide_eq_false h)⟩
theorem jc_b {b : Bool} (h1 : b = true → K.x) (h2 : b = false → K.y) : jcnd (K := K) (.v (.bool b)) := ⟨h1, h2⟩
end
theorem z_cond {E : Env} {n : Nat} {T : Nat → AV} {H : Heap} {Q : Exit → (Nat → AV) → Heap → Prop} {c x y : Code} {o : Operand} (hc : c = .cond o x y) (h : @jcnd (ev E.gl T o) ⟨awp E n x Q T H, awp E n y Q T H⟩) : awp E n c Q T H := by
  subst hc
  unfold jcnd at h
  split at h
  · next t ht => exact ⟨t, ht, h⟩
  · exact h.elim

/-! ### the heap's own end -/
theorem hget0 (H L : Heap) : (H ++ L)[H.length]? = L[0]? := by rw [List.getElem?_append_right (Nat.le_refl _)]; simp
theorem hgetk (H L : Heap) (k : Nat) : (H ++ L)[H.length + k]? = L[k]? := by rw [List.getElem?_append_right (by omega)]; simp
theorem hset0 (H L : Heap) (x : Option Blk) : (H ++ L).set H.length x = H ++ L.set 0 x := by rw [List.set_append_right _ _ (Nat.le_refl _)]; simp
theorem hsetk (H L : Heap) (k : Nat) (x : Option Blk) : (H ++ L).set (H.length + k) x = H ++ L.set k x := by rw [List.set_append_right _ _ (by omega)]; simp
theorem hpush (H L : Heap) (x : Option Blk) : (H ++ L) ++ [x] = H ++ (L ++ [x]) := List.append_assoc ..

/-! ### statements whose order Go leaves open -/
class Kvg where
  k : AV → Option Blk → Prop
def jex (p : AV → Prop) [K : Kv] : Prop := ∃ v, p v ∧ K.k v
def jexg (p : AV → Option Blk → Prop) [K : Kvg] : Prop := ∃ v B, p v B ∧ K.k v B
def jexh (p : AV → Heap → Prop) [K : Kvh] : Prop := ∃ v H, p v H ∧ K.k v H
def jborn (P : Program) (o : Op) (ρ : Operand → AV) [K : Kv] : Prop := aborn P o ρ K.k
def jdraw (E : Env) (all : Array Oper) (H0 : Heap) (l : List Oper) (ks : List Kd) (T : Nat → AV) (H : Heap) [K : Kth] : Prop := adraw E all H0 l ks T H K.k
class Kp where
  k : Prop
/-- What must be the same. -/
def jsame {α : Type} (x y : α) [K : Kp] : Prop := x = y ∧ K.k
def jkeep (rs : List Nat) (H1 H : Heap) [K : Kp] : Prop := keepB rs H1 H ∧ K.k
theorem jkeep_nil {H1 H : Heap} [K : Kp] : jkeep [] H1 H = K.k := by simp [jkeep, keepB]
theorem jkeep_cons {r : Nat} {rs : List Nat} {H1 H : Heap} [K : Kp] : jkeep (r :: rs) H1 H = @jsame _ (H1[r]?) (H[r]?) ⟨@jkeep rs H1 H K⟩ := by simp [jkeep, keepB, jsame, and_assoc]
theorem jsame_rfl {α : Type} {x : α} [K : Kp] : jsame x x = K.k := by simp [jsame]
/-- What must hold. -/
def jwhen (p : Prop) [K : Kp] : Prop := p ∧ K.k
theorem jwhen_t [K : Kp] : jwhen True = K.k := by simp [jwhen]
theorem bcN_eq {n : Int} : bcN n = [.v (.int .u8 n)] := rfl
theorem convT_m {P : Program} {s t : TypeId} {x : Operand} : convT P (.convert s t x) = (s = t ∧ match P.underlying s with
    | some (.slice e) => P.underlying e = some (.int .u8)
    | _ => False) := rfl
theorem locOf_ptr {r o : Nat} : locOf (.ptr r o) = some r := rfl
theorem locOf_rp {r s i o : Nat} : locOf (.rp r s i o) = some r := rfl
theorem locOf_cptr {cs : List AV} : locOf (.cptr cs) = some 999 := rfl
theorem locCv_int {k : IntKind} {n : Int} : locCv (.v (.int k n)) = some 999 := rfl
section
variable {x : AV} {K : Kv} {K2 : Kvg} {K3 : Kvh}
theorem jex_eq : jex (fun v => x = v) = K.k x := by
  unfold jex
  simp
theorem jex_all : jex (fun v => Heap → x = v) = K.k x := by
  unfold jex
  apply propext
  constructor
  · rintro ⟨v, h1, h2⟩
    rw [h1 []]
    exact h2
  · intro h
    exact ⟨x, fun _ => rfl, h⟩
theorem jexg_eq {B : Option Blk} : jexg (fun v b => x = v ∧ B = b) = K2.k x B := by
  unfold jexg
  apply propext
  constructor
  · rintro ⟨v, b, ⟨rfl, rfl⟩, h2⟩
    exact h2
  · intro h
    exact ⟨x, B, ⟨rfl, rfl⟩, h⟩
theorem jexh_eq {H : Heap} : jexh (fun v h => x = v ∧ H = h) = K3.k x H := by
  unfold jexh
  apply propext
  constructor
  · rintro ⟨v, b, ⟨rfl, rfl⟩, h2⟩
    exact h2
  · intro h
    exact ⟨x, H, ⟨rfl, rfl⟩, h⟩
end
section
variable {P : Program} {t : TypeId} {ρ : Operand → AV} [K : Kv]
theorem jborn_m {n : Nat} {ps : Array (Nat × Operand)} : jborn P (.buildSlice t n ps) ρ = match slI P t with
    | some (e, sz) => (match tyI P e with
      | some (sz', _, z) => sz' = sz ∧ 0 < sz ∧ n * sz ≤ 16777216 ∧ (match bfill sz (List.replicate n z) (ps.toList.map fun p => (p.1, ρ p.2)) with
        | some es => if n = 0 then K.k .mt else K.k (.sl sz es)
        | none => False)
      | none => False)
    | none => False := by
  unfold jborn aborn
  simp only
  apply propext
  cases slI P t with
  | none => simp
  | some x =>
    obtain ⟨e, sz⟩ := x
    simp only [Option.some.injEq, Prod.mk.injEq]
    cases h0 : tyI P e with
    | none =>
      constructor
      · rintro ⟨e', sz', ⟨rfl, rfl⟩, g, z, h1, _⟩
        rw [h0] at h1; cases h1
      · intro h; exact h.elim
    | some y =>
      obtain ⟨s', g, z⟩ := y
      constructor
      · rintro ⟨e', sz', ⟨rfl, rfl⟩, g', z', h1, h2, h3, es, h4, h5⟩
        rw [h0] at h1
        cases h1
        refine ⟨rfl, h2, h3, ?_⟩
        rw [h4]
        exact h5
      · rintro ⟨rfl, h2, h3, h4⟩
        split at h4
        · next es hes => exact ⟨e, s', ⟨rfl, rfl⟩, g, z, h0, h2, h3, es, hes, h4⟩
        · exact h4.elim
end
section
variable {E : Env} {all : Array Oper} {H0 : Heap} {os : List Oper} {ks : List Kd} {T : Nat → AV} {H : Heap} [K : Kth] {d : Option Tmp} {o : Op} {ty : TypeId} {p : String} {af : Array Edge}
theorem jdraw_nil : jdraw E all H0 [] ks T H = K.k T H := by unfold jdraw adraw; rfl
theorem jdraw_q : jdraw E all H0 (⟨d, o, ty, p, af, none⟩ :: os) (.q :: ks) T H = @jex (fun v => @jop E o ty (ev E.gl T) H ⟨fun v' H' => v' = v ∧ H' = H⟩) ⟨fun v => @jdraw E all H0 os ks (aput T d v) H K⟩ := by
  unfold jdraw; rw [adraw]; rfl
theorem jdraw_l : jdraw E all H0 (⟨d, o, ty, p, af, none⟩ :: os) (.l :: ks) T H = @jex (fun v => ∀ L, @jop E o ty (ev E.gl T) (H0 ++ L) ⟨fun v' H' => v' = v ∧ H' = H0 ++ L⟩) ⟨fun v => @jdraw E all H0 os ks (aput T d v) H K⟩ := by
  unfold jdraw; rw [adraw]; rfl
theorem jdraw_b : jdraw E all H0 (⟨d, o, ty, p, af, none⟩ :: os) (.b :: ks) T H = @jex (fun v => @jborn E.P o (ev E.gl T) ⟨fun v' => v' = v⟩) ⟨fun v => @jdraw E all H0 os ks (aput T d v) H K⟩ := by
  unfold jdraw; rw [adraw]; rfl
theorem jdraw_gg : jdraw E all H0 (⟨d, o, ty, p, af, none⟩ :: os) (.g :: ks) T H = @jexg (fun v B => @jop E o ty (ev E.gl T) H ⟨fun v' H' => v' = v ∧ H' = H ++ [B]⟩) ⟨fun v B => @jdraw E all H0 os ks (aput T d v) (H ++ [B]) K⟩ := by
  unfold jdraw; rw [adraw]; rfl
theorem jdraw_e : jdraw E all H0 (⟨d, o, ty, p, af, none⟩ :: os) (.e :: ks) T H = @jexh (fun v H1 => @jop E o ty (ev E.gl T) H ⟨fun v' H' => v' = v ∧ H' = H1⟩) ⟨fun v H1 => @jdraw E all H0 os ks (aput T d v) H1 K⟩ := by
  unfold jdraw; rw [adraw]; rfl
theorem jdraw_m {t : TypeId} {x : Operand} {r : Nat} : jdraw E all H0 (⟨d, .load t x, ty, p, af, none⟩ :: os) (.m r :: ks) T H = @jsame _ (locOf (ev E.gl T x)) (some r) ⟨@jex (fun v => @jop E (.load t x) ty (ev E.gl T) H ⟨fun v' H' => v' = v ∧ H' = H⟩) ⟨fun v => @jdraw E all H0 os ks (aput T d v) H K⟩⟩ := by
  unfold jdraw; rw [adraw]; rfl
theorem jdraw_mc {t t2 : TypeId} {x : Operand} {r : Nat} : jdraw E all H0 (⟨d, .convert t t2 x, ty, p, af, none⟩ :: os) (.m r :: ks) T H = @jsame _ (locCv (ev E.gl T x)) (some r) ⟨@jex (fun v => @jop E (.convert t t2 x) ty (ev E.gl T) H ⟨fun v' H' => v' = v ∧ H' = H⟩) ⟨fun v => @jdraw E all H0 os ks (aput T d v) H K⟩⟩ := by
  unfold jdraw; rw [adraw]; rfl
theorem jdraw_f {r : List Nat} : jdraw E all H0 (⟨d, o, ty, p, af, none⟩ :: os) (.f r :: ks) T H = @jexh (fun v H1 => @jop E o ty (ev E.gl T) H ⟨fun v' H' => v' = v ∧ H' = H1⟩) ⟨fun v H1 => @jkeep r H1 H ⟨@jdraw E all H0 os ks (aput T d v) H1 K⟩⟩ := by
  unfold jdraw; rw [adraw]; rfl
theorem jdraw_p {l : List Int} : jdraw E all H0 (⟨d, o, ty, p, af, none⟩ :: os) (.p l :: ks) T H = @jwhen (@jborn E.P o (ev E.gl T) ⟨fun v' => v' = .sl 1 (l.map bcN)⟩) ⟨@jdraw E all H0 os ks (aput T d .any) H K⟩ := by
  unfold jdraw; rw [adraw]; rfl
theorem jdraw_c {s t : TypeId} {x : Operand} {j : Nat} {l : List Int} : jdraw E all H0 (⟨d, .convert s t x, ty, p, af, none⟩ :: os) (.c j l :: ks) T H = @jwhen (convT E.P (.convert s t x)) ⟨@jdraw E all H0 os ks (aput T d (.sl 1 (l.map bcN))) H K⟩ := by
  unfold jdraw; rw [adraw]; rfl
theorem jdraw_w {k : Kd} {j : Nat} {b : Bool} : jdraw E all H0 (⟨d, o, ty, p, af, some (j, b)⟩ :: os) (k :: ks) T H =
    @jguard (ayield all T j) b ⟨@jdraw E all H0 (⟨d, o, ty, p, af, none⟩ :: os) (k :: ks) T H K, @jdraw E all H0 os ks (aput T d (.v undef)) H K⟩ := by
  unfold jdraw
  have hl : lets all ⟨d, o, ty, p, af, some (j, b)⟩ T = match ayield all T j with
    | some (some c) => some (c == b)
    | some none => some false
    | none => none := rfl
  have hl2 : lets all ⟨d, o, ty, p, af, none⟩ T = some true := rfl
  cases hy : ayield all T j with
  | none => cases k <;> (conv => lhs; rw [adraw, hl, hy]) <;> rfl
  | some y =>
    cases y with
    | none => cases k <;> (conv => lhs; rw [adraw, hl, hy]) <;> rfl
    | some c =>
      cases hc : (c == b) with
      | true =>
        have : c = b := by simpa using hc
        have e : jguard (K := ⟨adraw E all H0 (⟨d, o, ty, p, af, none⟩ :: os) (k :: ks) T H K.k, adraw E all H0 os ks (aput T d (.v undef)) H K.k⟩) (some (some c)) b = adraw E all H0 (⟨d, o, ty, p, af, none⟩ :: os) (k :: ks) T H K.k := by
          subst this
          cases c <;> simp [jguard]
        rw [e]
        cases k <;> (conv => lhs; rw [adraw, hl, hy]) <;> (conv => rhs; rw [adraw, hl2]) <;> simp only [hc]
      | false =>
        have : ¬ c = b := by simpa using hc
        have e : jguard (K := ⟨adraw E all H0 (⟨d, o, ty, p, af, none⟩ :: os) (k :: ks) T H K.k, adraw E all H0 os ks (aput T d (.v undef)) H K.k⟩) (some (some c)) b = adraw E all H0 os ks (aput T d (.v undef)) H K.k := by
          simp [jguard, this]
        rw [e]
        cases k <;> (conv => lhs; rw [adraw, hl, hy]) <;> simp only [hc]
end
theorem z_draw {E : Env} {n : Nat} {T : Nat → AV} {H : Heap} {Q : Exit → (Nat → AV) → Heap → Prop} {c : Code} {ops : Array Oper} (i : Nat) (ks : List Kd) (hc : c = .region i ops true) (hm : E.P.follows .mixedOrders = true) (hok : drawOk ops ks = true)
    (h : @jdraw E ops H ops.toList ks T H ⟨fun T' H' => Q .normal T' H'⟩) : awp E n c Q T H := by
  subst hc
  exact ⟨hm, ks, hok, h⟩
theorem hgetl {H L : Heap} {r : Nat} {x : Option Blk} (h : H[r]? = some x) : (H ++ L)[r]? = some x := by
  rw [List.getElem?_append_left (List.getElem?_eq_some_iff.1 h).1]
  exact h
theorem hsetl {H L : Heap} {r : Nat} {x y : Option Blk} (h : H[r]? = some x) : (H ++ L).set r y = H.set r y ++ L :=
  List.set_append_left _ _ (List.getElem?_eq_some_iff.1 h).1

/-! ### copy, cap -/
def jcopy (P : Program) (ts : List TypeId) (as : List AV) (H : Heap) [K : Kvh] : Prop := acopy P ts as H K.k
section
variable {E : Env} {P : Program} {ty t tx : TypeId} {ρ : Operand → AV} {H : Heap} [K : Kvh]
theorem jop_copy {as : Array Operand} {ts : Array TypeId} : jop E (.call ⟨.builtin .copy, as, ts⟩) ty ρ H = @jcopy E.P ts.toList (as.toList.map ρ) H K := (rfl)
theorem jcopy_hs {r sz' off n : Nat} {x : AV} : jcopy P [t, tx] [.hs r sz' off n, x] H = match slI P t with
    | some (_, sz) => (match P.underlying tx with
      | some (.slice _) => (match elems H sz x with
        | some new => (match H[r]? with
          | some (some (.row true sz2 es)) => sz2 = sz ∧ sz' = sz ∧ off + n ≤ es.length ∧ K.k (.v (.int .i64 (min new.length n : Nat))) (H.set r (some (.row true sz (es.take off ++ new.take (min new.length n) ++ es.drop (off + min new.length n)))))
          | _ => False)
        | none => False)
      | _ => False)
    | none => False := by
  unfold jcopy acopy
  simp only
  apply propext
  constructor
  · rintro ⟨e, sz, h1, ⟨e', h2⟩, new, h3, es, h4, h5, h6, h7⟩
    rw [h1, h2]
    simp only [h3, h4]
    exact ⟨trivial, h5, h6, h7⟩
  · intro h
    split at h
    case h_2 => exact h.elim
    case h_1 e sz h1 =>
    split at h
    case h_2 => exact h.elim
    case h_1 e' h2 =>
    split at h
    case h_2 => exact h.elim
    case h_1 new h3 =>
    split at h
    case h_2 => exact h.elim
    case h_1 sz2 es h4 =>
    obtain ⟨rfl, h5, h6, h7⟩ := h
    exact ⟨e, _, h1, ⟨e', h2⟩, new, h3, es, h4, h5, h6, h7⟩
theorem jcopy_os {r sz' off n : Nat} {x : AV} : jcopy P [t, tx] [.os r sz' off n, x] H = match slI P t with
    | some (_, sz) => (match P.underlying tx with
      | some (.slice _) => (match elems H sz x with
        | some new => (match H[r]? with
          | some (some (.obj cs)) => sz' = sz ∧ off + n * sz ≤ cs.length ∧ K.k (.v (.int .i64 (min new.length n : Nat))) (H.set r (some (.obj (splice off (new.take (min new.length n)).flatten cs))))
          | _ => False)
        | none => False)
      | _ => False)
    | none => False := by
  unfold jcopy acopy
  simp only
  apply propext
  constructor
  · rintro ⟨e, sz, h1, ⟨e', h2⟩, new, h3, cs, h4, h5, h6, h7⟩
    rw [h1, h2]
    simp only [h3, h4]
    exact ⟨h5, h6, h7⟩
  · intro h
    split at h
    case h_2 => exact h.elim
    case h_1 e sz h1 =>
    split at h
    case h_2 => exact h.elim
    case h_1 e' h2 =>
    split at h
    case h_2 => exact h.elim
    case h_1 new h3 =>
    split at h
    case h_2 => exact h.elim
    case h_1 cs h4 =>
    obtain ⟨h5, h6, h7⟩ := h
    exact ⟨e, _, h1, ⟨e', h2⟩, new, h3, cs, h4, h5, h6, h7⟩
/-- How many elements fit: an empty slice's. -/
def jcap (P : Program) (ts : List TypeId) (as : List AV) [K : Kv] : Prop := abuiltin P .cap ts 0 as [] fun v _ => K.k v
theorem jop_cap {as : Array Operand} {ts : Array TypeId} : jop E (.call ⟨.builtin .cap, as, ts⟩) ty ρ H = @jcap E.P ts.toList (as.toList.map ρ) ⟨fun v => K.k v H⟩ := (rfl)
theorem jcap_mt {K : Kv} : jcap P [t] [.mt] = ((∃ e sz, slI P t = some (e, sz)) ∧ K.k (.v (.int .i64 0))) := (rfl)
theorem jcap_nil {K : Kv} : jcap P [t] [.v (.slice none 0 0)] = ((∃ e sz, slI P t = some (e, sz)) ∧ K.k (.v (.int .i64 0))) := (rfl)
end

/-! ### a slice against nil -/
/-- .. negated. -/
def jalln (p : Bool → Prop) [K : Kv] : Prop := ∀ t, p t → K.k (.v (.bool (!t)))
section
variable {P : Program} {t : TypeId} {x y : Operand} [K : Kv] {sz r off n : Nat} {es : List (List AV)}
theorem jbin_eq_sl : jbin P .eql t x y (.sl sz es) (.v (.slice none 0 0)) = match P.underlying t with
    | some (.slice _) => jall fun b => b = true → es = []
    | _ => False := by
  unfold jbin abin jall
  simp only [conc]
  cases P.underlying t with
  | none => simp
  | some d => cases d <;> simp [aeq, aeqS, nilS, nilP, nilF, surePtr, sureFn]
theorem jbin_ne_sl : jbin P .neq t x y (.sl sz es) (.v (.slice none 0 0)) = match P.underlying t with
    | some (.slice _) => jalln fun b => b = true → es = []
    | _ => False := by
  unfold jbin abin jalln
  simp only [conc]
  cases P.underlying t with
  | none => simp
  | some d => cases d <;> simp [aeq, aeqS, nilS, nilP, nilF, surePtr, sureFn]
theorem jbin_eq_hs : jbin P .eql t x y (.hs r sz off n) (.v (.slice none 0 0)) = match P.underlying t with
    | some (.slice _) => jall fun b => b = true → n = 0
    | _ => False := by
  unfold jbin abin jall
  simp only [conc]
  cases P.underlying t with
  | none => simp
  | some d => cases d <;> simp [aeq, aeqS, nilS, nilP, nilF, surePtr, sureFn]
theorem jbin_ne_hs : jbin P .neq t x y (.hs r sz off n) (.v (.slice none 0 0)) = match P.underlying t with
    | some (.slice _) => jalln fun b => b = true → n = 0
    | _ => False := by
  unfold jbin abin jalln
  simp only [conc]
  cases P.underlying t with
  | none => simp
  | some d => cases d <;> simp [aeq, aeqS, nilS, nilP, nilF, surePtr, sureFn]
end
end Go.Am
