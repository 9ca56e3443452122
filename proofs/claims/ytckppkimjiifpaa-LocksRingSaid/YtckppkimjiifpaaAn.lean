/- The abstract machine: what it does at each operation. No condition. -/
import Derived.Test.YtckppkimjiifpaaAm
set_option linter.unusedSectionVars false
set_option linter.unusedVariables false
set_option linter.unusedSimpArgs false
set_option linter.deprecated false
namespace Go.Am
open Go.RowKit Go.Cx

structure Env where
  P : Program
  gl : Nat → AV

/-- m gives a, whatever the world, and leaves it. -/
def Ret {α : Type} (P : Program) (m : Sem α) (a : α) : Prop := ∀ w, m.run P w = .ok a w

def isAggD : TypeDesc → Bool
  | .struct _ | .array _ _ => true
  | _ => false

/-- A type: how many cells, whether a struct or an array, the zero value's cells. -/
def tyI (P : Program) (t : TypeId) : Option (Nat × Bool × List AV) :=
  match P.info? t, P.underlying t with
  | some i, some d => match i.zero with
    | some z => if z.cells.size = i.size ∧ z.cells.all (·.oneCell') = true then some (i.size, isAggD d, z.cells.toList.map .v) else none
    | none => none
  | _, _ => none
/-- A slice's element type and how many cells it has. -/
def slI (P : Program) (t : TypeId) : Option (TypeId × Nat) :=
  match P.underlying t with
  | some (.slice e) => match P.info? e with
    | some i => match i.zero with
      | some z => if z.cells.size = i.size ∧ i.bytes ≤ 1024 then some (e, i.size) else none
      | none => none
    | none => none
  | _ => none
def fieldI (P : Program) (f : Field) : Option (Nat × Nat × Bool) :=
  match P.info? f.type, P.underlying f.type with
  | some i, some d => some (f.offset, i.size, isAggD d)
  | _, _ => none
def fieldsI (P : Program) : List Field → Option (List (Nat × Nat × Bool))
  | [] => some []
  | f :: fs => match fieldI P f, fieldsI P fs with
    | some x, some r => some (x :: r)
    | _, _ => none
/-- A struct's fields: offset, cells, whether struct or array. -/
def stI (P : Program) (t : TypeId) : Option (List (Nat × Nat × Bool)) :=
  match P.underlying t with
  | some (.struct fs) => fieldsI P fs.toList
  | _ => none
/-- An array's length, its elements' cells, whether these are structs or arrays. -/
def arI (P : Program) (t : TypeId) : Option (Nat × Nat × Bool) :=
  match P.underlying t with
  | some (.array n e) => match P.info? e, P.underlying e with
    | some i, some d => some (n, i.size, isAggD d)
    | _, _ => none
  | _ => none

def cv : Value → AV
  | .agg cs => if cs.all (·.oneCell') then .agg (cs.toList.map .v) else .any
  | x => .v x

def concs : List AV → Option (List Value)
  | [] => some []
  | .v x :: r => (concs r).map (x :: ·)
  | _ :: _ => none

def conc : AV → Option Value
  | .v x => some x
  | .agg cs => (concs cs).map fun l => .agg l.toArray
  | _ => none

def cells1 : AV → Option (List AV)
  | .agg cs => some cs
  | .v x => if x.oneCell' then some [.v x] else none
  | .any => none
  | .tup _ => none
  | a => some [a]

def ev (gl : Nat → AV) (T : Nat → AV) : Operand → AV
  | .tmp t => T t
  | .const v => cv v
  | .global g => gl g
  | .func f => .fn f [] []

/-- What the function f does, called with as in the memory H. -/
def ACalls (E : Env) (f : FuncId) (as : List AV) (H : Heap) (R : AV → Heap → Prop) : Prop :=
  (∃ fn, E.P.funcs[f]? = some fn ∧ (fn.name == "runtime.NumGoroutine") = false ∧ fn.body.isNone = false) ∧
  ∀ (w : World) (M : Mem) (vs : List Value), Gam E.gl M w H → VRt M H.length w as vs →
    Calls E.P f vs.toArray w fun e w' => ∃ r H' v M', e = .returned v ∧ R r H' ∧ Gam E.gl M' w' H' ∧ VR M' H'.length w' r v ∧ Ext M w H M' w' H'

/-- The cells from an address on. -/
def place (H : Heap) : AV → Option (List AV)
  | .ptr r off => match H[r]? with
    | some (some (.obj cs)) => some (cs.drop off)
    | _ => none
  | .rp r sz i off => match H[r]? with
    | some (some (.row _ sz' es)) => if sz' = sz then (es[i]?).map (·.drop off) else none
    | _ => none
  | .cptr cs => some cs
  | _ => none

/-- A value out of cells. -/
def apart (g : Bool) (s : Nat) (cs : List AV) (K : AV → Prop) : Prop :=
  match g with
  | true => s ≤ cs.length ∧ K (.agg (cs.take s))
  | false => ∃ c r, cs = c :: r ∧ K c

def aload (P : Program) (t : TypeId) (a : AV) (H : Heap) (K : AV → Prop) : Prop :=
  ∃ s g z, tyI P t = some (s, g, z) ∧ ∃ cs, place H a = some cs ∧ apart g s cs K

def splice (off : Nat) (new old : List AV) : List AV := old.take off ++ new ++ old.drop (off + new.length)

def astore (P : Program) (t : TypeId) (a v : AV) (H : Heap) (K : Heap → Prop) : Prop :=
  ∃ s g z, tyI P t = some (s, g, z) ∧ ∃ cs, cells1 v = some cs ∧ cs.length = s ∧ match a with
    | .ptr r off => ∃ old, H[r]? = some (some (.obj old)) ∧ off + s ≤ old.length ∧ K (H.set r (some (.obj (splice off cs old))))
    | .rp r sz i off => ∃ es old, H[r]? = some (some (.row true sz es)) ∧ es[i]? = some old ∧ off + s ≤ old.length ∧
        K (H.set r (some (.row true sz (es.set i (splice off cs old)))))
    | _ => False

def nilS : AV → Bool
  | .v (.slice none _ _) => true
  | _ => false
def nilP : AV → Bool
  | .v (.pointer none) => true
  | _ => false
def nilF : AV → Bool
  | .v .nilFunc => true
  | _ => false
/-- A slice against nil. -/
def aeqS (a : AV) (k : Bool → Prop) : Prop :=
  match a with
  | .sl _ es => ∀ t, (t = true → es = []) → k t
  | .mt => ∀ t, k t
  | .hs _ _ _ n => ∀ t, (t = true → n = 0) → k t
  | _ => False
def surePtr : AV → Bool
  | .ptr _ _ | .rp _ _ _ _ | .cptr _ => true
  | _ => false
def sureFn : AV → Bool
  | .fn _ _ _ => true
  | _ => false

def aeq (d : TypeDesc) (a b : AV) (k : Bool → Prop) : Prop :=
  match d with
  | .slice _ => nilS b = true ∧ aeqS a k
  | .pointer _ => ((surePtr a = true ∧ nilP b = true) ∨ (surePtr b = true ∧ nilP a = true)) ∧ k false
  | .func _ _ _ => sureFn a = true ∧ nilF b = true ∧ k false
  | _ => False

def abin (P : Program) (op : BinOp) (t : TypeId) (x y : Operand) (a b : AV) (K : AV → Prop) : Prop :=
  match conc a, conc b with
  | some u, some v => ∃ r, Ret P (do eqGuard op t x y u v; binOp op t u v) r ∧ K (cv r)
  | _, _ => ∃ d, P.underlying t = some d ∧ match op with
    | .eql => aeq d a b fun s => K (.v (.bool s))
    | .neq => aeq d a b fun s => K (.v (.bool (!s)))
    | _ => False

/-- The cells of a byte. -/
def bcl (b : UInt8) : List AV := [.v (.int .u8 (b.toNat : Int))]

def chunks (sz : Nat) : Nat → List AV → List (List AV)
  | 0, _ => []
  | n + 1, cs => cs.take sz :: chunks sz n (cs.drop sz)

/-- What a slice (or a string) reads as. -/
def elems (H : Heap) (sz : Nat) : AV → Option (List (List AV))
  | .sl sz' es => if sz' = sz then some es else none
  | .hs r sz' off n => match H[r]? with
    | some (some (.row _ sz2 es)) => if sz' = sz ∧ sz2 = sz ∧ off + n ≤ es.length then some ((es.drop off).take n) else none
    | _ => none
  | .os r sz' off n => match H[r]? with
    | some (some (.obj cs)) => if sz' = sz ∧ off + n * sz ≤ cs.length then some (chunks sz n (cs.drop off)) else none
    | _ => none
  | .mt => some []
  | .v (.slice none 0 0) => some []
  | _ => none

/-- .. an operand of append or copy. -/
def source (P : Program) (H : Heap) (sz : Nat) (t : TypeId) : AV → Option (List (List AV))
  | .v (.string s) => match P.underlying t with
    | some .string => if sz = 1 then some (s.toList.map bcl) else none
    | _ => none
  | a => match P.underlying t with
    | some (.slice _) => elems H sz a
    | _ => none

def alen : AV → Option Nat
  | .sl _ es => some es.length
  | .hs _ _ _ n => some n
  | .os _ _ _ n => some n
  | .mt => some 0
  | .v (.slice none 0 0) => some 0
  | _ => none

def aconv (P : Program) (src dst : TypeId) (a : AV) (H : Heap) (K : AV → Heap → Prop) : Prop :=
  match P.underlying src, P.underlying dst with
  | some .string, some (.slice e) => match a with
    | .v (.string s) => P.underlying e = some (.int .u8) ∧ s.size ≤ 68719476736 ∧ K (.hs H.length 1 0 s.size) (H ++ [some (.row true 1 (s.toList.map bcl))])
    | _ => False
  | some (.slice e), some (.slice _) => src = dst ∧ P.underlying e = some (.int .u8) ∧ match a with
    | .hs r sz 0 n => (∃ es, H[r]? = some (some (.row true sz es))) ∧ 0 < n ∧ K (.hs r sz 0 n) H
    | _ => False
  | some (.slice e), some .string => P.underlying e = some (.int .u8) ∧ ∃ l, elems H 1 a = some (l.map bcl) ∧ K (.v (.string (str l))) H
  | some (.int _), some (.int k2) => match a with
    | .v (.int _ n) => K (.v (.int k2 (k2.wrap n))) H
    | _ => False
  | _, _ => ∃ u, conc a = some u ∧ ∃ r, Ret P (convert src dst u) r ∧ K (cv r) H

/-- The bounds of a slice expression. -/
def abound : Option AV → Int → Option Int
  | none, d => some d
  | some (.v (.int _ i)), _ => some i
  | _, _ => none

def aslice (P : Program) (t : TypeId) (a : AV) (lo hi mx : Option AV) (K : AV → Prop) : Prop :=
  match a with
  | .v (.string s) => P.underlying t = some .string ∧ mx = none ∧ ∃ l h, abound lo 0 = some l ∧ abound hi s.size = some h ∧ (0 ≤ l ∧ l ≤ h ∧ h ≤ s.size) ∧ K (.v (.string (s.extract l.toNat h.toNat)))
  | .ptr r off => ∃ n sz g, arI P t = some (n, sz, g) ∧ n ≤ 1099511627776 ∧ mx = none ∧ ∃ l h, abound lo 0 = some l ∧ abound hi n = some h ∧ (0 ≤ l ∧ l ≤ h ∧ h ≤ n) ∧ K (.os r sz (off + l.toNat * sz) (h - l).toNat)
  | a => ∃ e sz, slI P t = some (e, sz) ∧ ∃ n, alen a = some n ∧ ∃ l h m, abound lo 0 = some l ∧ abound hi n = some h ∧ abound mx n = some m ∧ (0 ≤ l ∧ l ≤ h ∧ h ≤ m ∧ m ≤ n) ∧ (mx.isSome = true → hi.isSome = true) ∧
      ((mx.isSome = true ∧ m = l → K .mt) ∧ (¬ (mx.isSome = true ∧ m = l) → match a with
        | .sl sz' es => sz' = sz ∧ K (.sl sz ((es.take h.toNat).drop l.toNat))
        | .hs r sz' off _ => sz' = sz ∧ K (.hs r sz (off + l.toNat) (h - l).toNat)
        | .os r sz' off _ => sz' = sz ∧ K (.os r sz (off + l.toNat * sz) (h - l).toNat)
        | .mt => K .mt
        | .v (.slice none 0 0) => K (.v (.slice none 0 0))
        | _ => False))

/-- The address of an element. -/
def aindexAddr (P : Program) (t : TypeId) (x i : AV) (K : AV → Prop) : Prop :=
  match i with
  | .v (.int _ i) => match x with
    | .sl sz es => (∃ e, slI P t = some (e, sz)) ∧ (0 ≤ i ∧ i < es.length) ∧ K (.cptr (es.getD i.toNat []))
    | .hs r sz off n => (∃ e, slI P t = some (e, sz)) ∧ (0 ≤ i ∧ i < n) ∧ K (.rp r sz (off + i.toNat) 0)
    | .os r sz off n => (∃ e, slI P t = some (e, sz)) ∧ (0 ≤ i ∧ i < n) ∧ K (.ptr r (off + i.toNat * sz))
    | .ptr r off => ∃ n sz g, arI P t = some (n, sz, g) ∧ (0 ≤ i ∧ i < n) ∧ K (.ptr r (off + i.toNat * sz))
    | .rp r s j off => ∃ n sz g, arI P t = some (n, sz, g) ∧ (0 ≤ i ∧ i < n) ∧ K (.rp r s j (off + i.toNat * sz))
    | .cptr cs => ∃ n sz g, arI P t = some (n, sz, g) ∧ (0 ≤ i ∧ i < n) ∧ K (.cptr (cs.drop (i.toNat * sz)))
    | _ => False
  | _ => False

def aindex (P : Program) (t : TypeId) (x i : AV) (K : AV → Prop) : Prop :=
  match i with
  | .v (.int _ i) => match x with
    | .v (.string s) => P.underlying t = some .string ∧ (0 ≤ i ∧ i < s.size) ∧ K (.v (.int .u8 ((s.data.getD i.toNat 0).toNat : Int)))
    | .agg cs => ∃ n sz g, arI P t = some (n, sz, g) ∧ (0 ≤ i ∧ i < n) ∧ apart g sz (cs.drop (i.toNat * sz)) K
    | _ => False
  | _ => False

def afield (P : Program) (t : TypeId) (x : AV) (f : Nat) (K : AV → Prop) : Prop :=
  ∃ fs off s g, stI P t = some fs ∧ fs[f]? = some (off, s, g) ∧ ∃ cs, x = .agg cs ∧ apart g s (cs.drop off) K

def afieldAddr (P : Program) (t : TypeId) (x : AV) (f : Nat) (K : AV → Prop) : Prop :=
  ∃ fs off s g, stI P t = some fs ∧ fs[f]? = some (off, s, g) ∧ s ≠ 0 ∧ match x with
    | .ptr r o => K (.ptr r (o + off))
    | .rp r sz i o => K (.rp r sz i (o + off))
    | .cptr cs => K (.cptr (cs.drop off))
    | _ => False

def afill (pl : Nat → Option (Nat × Nat)) (cells : List AV) : List (Nat × AV) → Option (List AV)
  | [] => some cells
  | (i, v) :: rest => match pl i, cells1 v with
    | some (off, size), some cs => if cs.length = size ∧ off + cs.length ≤ cells.length then afill pl (splice off cs cells) rest else none
    | _, _ => none

def abuild (P : Program) (t : TypeId) (parts : List (Nat × AV)) (K : AV → Prop) : Prop :=
  ∃ s g z, tyI P t = some (s, g, z) ∧ ((∃ fs, stI P t = some fs ∧ ∃ cs, afill (fun i => (fs[i]?).map fun x => (x.1, x.2.1)) z parts = some cs ∧ K (.agg cs)) ∨
    (∃ n sz g, arI P t = some (n, sz, g) ∧ ∃ cs, afill (fun i => some (i * sz, sz)) z parts = some cs ∧ K (.agg cs)))

def bfill (sz : Nat) (es : List (List AV)) : List (Nat × AV) → Option (List (List AV))
  | [] => some es
  | (i, v) :: rest => match cells1 v with
    | some cs => if cs.length = sz ∧ i < es.length then bfill sz (es.set i cs) rest else none
    | none => none

def abuildSlice (P : Program) (t : TypeId) (len : Nat) (parts : List (Nat × AV)) (H : Heap) (K : AV → Heap → Prop) : Prop :=
  ∃ e sz, slI P t = some (e, sz) ∧ ∃ g z, tyI P e = some (sz, g, z) ∧ 0 < sz ∧ len * sz ≤ 16777216 ∧ ∃ es, bfill sz (List.replicate len z) parts = some es ∧
    K (.hs H.length sz 0 len) (H ++ [some (.row true sz es)])

def amakeSlice (P : Program) (t : TypeId) (l c : AV) (H : Heap) (K : AV → Heap → Prop) : Prop :=
  ∃ e sz, slI P t = some (e, sz) ∧ ∃ g z, tyI P e = some (sz, g, z) ∧ ∃ k k' ln cp, l = .v (.int k ln) ∧ c = .v (.int k' cp) ∧ (0 ≤ ln ∧ ln ≤ cp ∧ cp ≤ 68719476736) ∧
    K (.hs H.length sz 0 ln.toNat) (H ++ [some (.row true sz (List.replicate ln.toNat z))])

/-- What is appended to: the row that goes, and what there was. -/
def dest (H : Heap) (sz : Nat) : AV → Option (Heap × List (List AV))
  | .v (.slice none 0 0) => some (H, [])
  | .mt => some (H, [])
  | .hs r sz' off n => match H[r]? with
    | some (some (.row true sz2 es)) => if sz' = sz ∧ sz2 = sz ∧ off = 0 ∧ n ≤ es.length then some (H.set r none, es.take n) else none
    | _ => none
  | _ => none

def aappend (P : Program) (ts : List TypeId) (as : List AV) (H : Heap) (K : AV → Heap → Prop) : Prop :=
  match ts, as with
  | [t, tx], [s, x] => ∃ e sz, slI P t = some (e, sz) ∧ ∃ H1 old, dest H sz s = some (H1, old) ∧ ∃ new, source P H sz tx x = some new ∧ old.length + new.length ≤ 68719476736 ∧
      K (.hs H.length sz 0 (old.length + new.length)) (H1 ++ [some (.row true sz (old ++ new))])
  | _, _ => False

def acopy (P : Program) (ts : List TypeId) (as : List AV) (H : Heap) (K : AV → Heap → Prop) : Prop :=
  match ts, as with
  | [t, tx], [d, x] => ∃ e sz, slI P t = some (e, sz) ∧ (∃ e', P.underlying tx = some (.slice e')) ∧ ∃ new, elems H sz x = some new ∧ match d with
    | .hs r sz' off n => ∃ es, H[r]? = some (some (.row true sz es)) ∧ sz' = sz ∧ off + n ≤ es.length ∧
        K (.v (.int .i64 (min new.length n : Nat))) (H.set r (some (.row true sz (es.take off ++ new.take (min new.length n) ++ es.drop (off + min new.length n)))))
    | .os r sz' off n => ∃ cs, H[r]? = some (some (.obj cs)) ∧ sz' = sz ∧ off + n * sz ≤ cs.length ∧
        K (.v (.int .i64 (min new.length n : Nat))) (H.set r (some (.obj (splice off (new.take (min new.length n)).flatten cs))))
    | _ => False
  | _, _ => False

def alenB (P : Program) (ts : List TypeId) (as : List AV) (K : AV → Prop) : Prop :=
  match ts, as with
  | [t], [.v (.string s)] => P.underlying t = some .string ∧ K (.v (.int .i64 s.size))
  | [t], [a] => (∃ e sz, slI P t = some (e, sz)) ∧ ∃ n, alen a = some n ∧ K (.v (.int .i64 n))
  | _, _ => False

def concl : List AV → Option (List Value)
  | [] => some []
  | a :: r => match conc a, concl r with
    | some x, some l => some (x :: l)
    | _, _ => none

/-! ### maps: keys are numbers of 64 bits -/
/-- A map's key and element types. -/
def mpI (P : Program) (t : TypeId) : Option (TypeId × TypeId) :=
  match P.underlying t with
  | some (.map k e) => (match P.underlying k with
    | some (.int .i64) => some (k, e)
    | _ => none)
  | _ => none
/-- The zero of a type. -/
def zvI (P : Program) (t : TypeId) : Option AV := (P.info? t).bind fun i => i.zero.map cv
/-- Where a key stands. -/
def kAt (ks : List Int) (k : Int) : Option Nat := if k ∈ ks then some (ks.idxOf k) else none
def kPut (ks : List Int) (vs : List AV) (k : Int) (a : AV) : Blk :=
  match kAt ks k with
  | some i => .map ks (vs.set i a) none
  | none => .map (ks ++ [k]) (vs ++ [a]) none
def kDel (ks : List Int) (vs : List AV) (k : Int) : Blk :=
  match kAt ks k with
  | some i => .map (ks.eraseIdx i) (vs.eraseIdx i) none
  | none => .map ks vs none

def amakeMap (P : Program) (t : TypeId) (r : Option AV) (H : Heap) (K : AV → Heap → Prop) : Prop :=
  ∃ ke, mpI P t = some ke ∧ r = none ∧ K (.mp H.length) (H ++ [some (.map [] [] none)])
def alookup (P : Program) (t : TypeId) (m k : AV) (ok : Bool) (H : Heap) (K : AV → Prop) : Prop :=
  ∃ kt e z, mpI P t = some (kt, e) ∧ zvI P e = some z ∧ ∃ x, k = .v (.int .i64 x) ∧ ∃ r, m = .mp r ∧ ∃ ks vs st, H[r]? = some (some (.map ks vs st)) ∧
    match kAt ks x with
    | some i => K (if ok then .tup [vs.getD i .any, .v (.bool true)] else vs.getD i .any)
    | none => K (if ok then .tup [z, .v (.bool false)] else z)
def amapUpdate (P : Program) (t : TypeId) (m k a : AV) (H : Heap) (K : Heap → Prop) : Prop :=
  ∃ ke, mpI P t = some ke ∧ ∃ x, k = .v (.int .i64 x) ∧ ∃ r, m = .mp r ∧ ∃ ks vs st, H[r]? = some (some (.map ks vs st)) ∧ K (H.set r (some (kPut ks vs x a)))
def adelete (P : Program) (ts : List TypeId) (as : List AV) (H : Heap) (K : AV → Heap → Prop) : Prop :=
  match ts, as with
  | [t, _], [m, k] => ∃ ke, mpI P t = some ke ∧ ∃ x, k = .v (.int .i64 x) ∧ ∃ r, m = .mp r ∧ ∃ ks vs st, H[r]? = some (some (.map ks vs st)) ∧ K (.tup []) (H.set r (some (kDel ks vs x)))
  | _, _ => False
def alenM (P : Program) (ts : List TypeId) (as : List AV) (H : Heap) (K : AV → Prop) : Prop :=
  match ts, as with
  | [t], [.mp r] => (∃ ke, mpI P t = some ke) ∧ ∃ ks vs st, H[r]? = some (some (.map ks vs st)) ∧ K (.v (.int .i64 ks.length))
  | ts, as => alenB P ts as K
/-- A walk over a map begins: the stamps are told. -/
def arange (P : Program) (t : TypeId) (m : AV) (H : Heap) (K : AV → Heap → Prop) : Prop :=
  ∃ ke, mpI P t = some ke ∧ ∃ r, m = .mp r ∧ ∃ ks vs st, H[r]? = some (some (.map ks vs st)) ∧
    ∀ bs c, K (.ptr H.length 0) (H.set r (some (.map ks vs (some (bs, c)))) ++ [some (.iter r bs c [])])
/-- .. goes on: any entry that has not been met, or the end. -/
def anext (x : AV) (str : Bool) (H : Heap) (K : AV → Heap → Prop) : Prop :=
  str = false ∧ ∃ q, x = .ptr q 0 ∧ ∃ r bs c seen, H[q]? = some (some (.iter r bs c seen)) ∧ ∃ ks vs, H[r]? = some (some (.map ks vs (some (bs, c)))) ∧
    ((∀ i, i < ks.length → i ∈ seen) → K (.tup [.v (.bool false)]) H) ∧
    ∀ i, i < ks.length → i ∉ seen → K (.tup [.v (.bool true), .v (.int .i64 (ks.getD i 0)), vs.getD i .any]) (H.set q (some (.iter r bs c (seen ++ [i]))))
def aentry (x : AV) (H : Heap) (K : AV → Prop) : Prop :=
  ∃ q, x = .ptr q 0 ∧ ∃ r bs c seen, H[q]? = some (some (.iter r bs c seen)) ∧ ∃ ks vs, H[r]? = some (some (.map ks vs (some (bs, c)))) ∧
    ∃ i, seen.getLast? = some i ∧ i < ks.length ∧ K (.tup [.v (.int .i64 (ks.getD i 0)), vs.getD i .any])

def abuiltin (P : Program) (b : Builtin) (ts : List TypeId) (ty : TypeId) (as : List AV) (H : Heap) (K : AV → Heap → Prop) : Prop :=
  match b with
  | .len => alenM P ts as H fun v => K v H
  | .delete => adelete P ts as H K
  | .append => aappend P ts as H K
  | .copy => acopy P ts as H K
  | .cap => match ts, as with
    | [t], [.mt] => (∃ e sz, slI P t = some (e, sz)) ∧ K (.v (.int .i64 0)) H
    | [t], [.v (.slice none 0 0)] => (∃ e sz, slI P t = some (e, sz)) ∧ K (.v (.int .i64 0)) H
    | _, _ => False
  | .min => ∃ us, concl as = some us ∧ ∃ r, Ret P (Builtin.min_ ts.toArray ty us.toArray) r ∧ K (cv r) H
  | .max => ∃ us, concl as = some us ∧ ∃ r, Ret P (Builtin.max_ ts.toArray ty us.toArray) r ∧ K (cv r) H
  | _ => False

/-- A call of a function of the program. -/
def acallF (E : Env) (g : FuncId) (as : List AV) (H : Heap) (K : AV → Heap → Prop) : Prop := ∃ R, ACalls E g as H R ∧ ∀ r H', R r H' → K r H'

def acall (E : Env) (ρ : Operand → AV) (c : Call) (ty : TypeId) (H : Heap) (K : AV → Heap → Prop) : Prop :=
  match c.callee with
  | .builtin b => abuiltin E.P b c.argTypes.toList ty (c.args.toList.map ρ) H K
  | .value f => match ρ f with
    | .fn g first caps => acallF E g (first ++ c.args.toList.map ρ ++ caps) H K
    | _ => False
  | .invoke _ _ => False

def sure : AV → Bool
  | .ptr _ _ | .rp _ _ _ _ | .cptr _ | .fn _ _ _ => true
  | _ => false

/-- One of two. -/
def apick (t : Bool) (a b : AV) (K : AV → Prop) : Prop := (t = true → K a) ∧ (t = false → K b)

def aop (E : Env) (o : Op) (ty : TypeId) (ρ : Operand → AV) (H : Heap) (K : AV → Heap → Prop) : Prop :=
  match o with
  | .move x | .assign x => K (ρ x) H
  | .pick c a b => match ρ c with
    | .v (.bool t) => apick t (ρ a) (ρ b) fun v => K v H
    | _ => False
  | .alloc t => match tyI E.P t with
    | some (_, _, z) => K (.ptr H.length 0) (H ++ [some (.obj z)])
    | none => False
  | .box _ x => match cells1 (ρ x) with
    | some cs => K (.ptr H.length 0) (H ++ [some (.obj cs)])
    | none => False
  | .build t parts => abuild E.P t (parts.toList.map fun p => (p.1, ρ p.2)) fun v => K v H
  | .buildSlice t len parts => abuildSlice E.P t len (parts.toList.map fun p => (p.1, ρ p.2)) H K
  | .load t a => aload E.P t (ρ a) H fun v => K v H
  | .store t a x => astore E.P t (ρ a) (ρ x) H fun H' => K (.v undef) H'
  | .nilCheck x => sure (ρ x) = true ∧ K (ρ x) H
  | .binOp op t x y _ => abin E.P op t x y (ρ x) (ρ y) fun v => K v H
  | .unOp op _ x => ∃ u, conc (ρ x) = some u ∧ ∃ r, Ret E.P (Op.unary op u) r ∧ K (cv r) H
  | .convert src dst x => aconv E.P src dst (ρ x) H K
  | .makeFunc f first caps => match f with
    | .func f => K (.fn f (first.toList.map ρ) (caps.toList.map ρ)) H
    | _ => False
  | .makeSlice t l c => amakeSlice E.P t (ρ l) (ρ c) H K
  | .slice t x lo hi mx => aslice E.P t (ρ x) (lo.map ρ) (hi.map ρ) (mx.map ρ) fun v => K v H
  | .fieldAddr t x f => afieldAddr E.P t (ρ x) f fun v => K v H
  | .field t x f => afield E.P t (ρ x) f fun v => K v H
  | .indexAddr t x i => aindexAddr E.P t (ρ x) (ρ i) fun v => K v H
  | .index t x i => aindex E.P t (ρ x) (ρ i) fun v => K v H
  | .extract x i => match ρ x with
    | .tup vs => (match vs[i]? with
      | some a => K a H
      | none => False)
    | _ => False
  | .call c => acall E ρ c ty H K
  | .makeMap t r => amakeMap E.P t (r.map ρ) H K
  | .lookup t m k ok => alookup E.P t (ρ m) (ρ k) ok H fun v => K v H
  | .mapUpdate t m k x => amapUpdate E.P t (ρ m) (ρ k) (ρ x) H fun H' => K (.v undef) H'
  | .range t m => arange E.P t (ρ m) H K
  | .next x s => anext (ρ x) s H K
  | .entry x => aentry (ρ x) H fun v => K v H
  | _ => False

def put (T : Nat → AV) (d : Nat) (v : AV) : Nat → AV := fun i => if i = d then v else T i
def aput (T : Nat → AV) : Option Tmp → AV → Nat → AV
  | some d, v => put T d v
  | none, _ => T

def dstOk (N : Nat) : Option Tmp → Bool
  | some d => decide (d < N)
  | none => true

/-- The slots that are written are there. -/
def codeOk (N : Nat) : Code → Bool
  | .region _ ops _ => ops.toList.all fun o => dstOk N o.dst
  | .seq a b => codeOk N a && codeOk N b
  | .cond _ a b => codeOk N a && codeOk N b
  | .block _ c | .scope c | .loop c => codeOk N c
  | _ => true

/-- What a guard sees. -/
def ayield (all : Array Oper) (T : Nat → AV) (j : Nat) : Option (Option Bool) :=
  match (all[j]?).bind (·.dst) with
  | some d => match T d with
    | .v (.bool b) => some (some b)
    | .v (.tuple _) => some none
    | _ => none
  | none => none

def aops (E : Env) (all : Array Oper) : List Oper → (Nat → AV) → Heap → ((Nat → AV) → Heap → Prop) → Prop
  | [], T, H, K => K T H
  | o :: os, T, H, K => match o.guard with
    | none => aop E o.op o.type (ev E.gl T) H fun v H' => aops E all os (aput T o.dst v) H' K
    | some (j, want) => match ayield all T j with
      | some (some b) => (b = want → aop E o.op o.type (ev E.gl T) H fun v H' => aops E all os (aput T o.dst v) H' K) ∧
          (¬ b = want → aops E all os (aput T o.dst (.v undef)) H K)
      | some none => aops E all os (aput T o.dst (.v undef)) H K
      | none => False

end Go.Am
