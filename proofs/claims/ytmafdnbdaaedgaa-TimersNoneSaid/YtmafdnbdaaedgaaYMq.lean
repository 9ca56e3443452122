/- The abstract machine: rules for maps in a walk. No condition. -/
import Derived.Test.YtmafdnbdaaedgaaYb1
import Derived.Test.YtmafdnbdaaedgaaYGn
set_option linter.unusedSectionVars false
set_option linter.unusedVariables false
set_option linter.unusedSimpArgs false
set_option linter.deprecated false
namespace Go.Am
open Go.RowKit Go.Cx

/-! ### maps as lists -/
/-- A map's block: its entries. -/
def mB {α : Type} (f : α → AV) (m : List (Int × α)) : Blk := .map (m.map (·.1)) (m.map fun p => f p.2) none
/-- .. while it is walked over. -/
def mS {α : Type} (f : α → AV) (m : List (Int × α)) (bs : List Nat) (c : Nat) : Blk := .map (m.map (·.1)) (m.map fun p => f p.2) (some (bs, c))
def vI (n : Int) : AV := .v (.int .i64 n)
def mfind {α : Type} (m : List (Int × α)) (x : Int) : Option α := (m.find? fun p => p.1 == x).map (·.2)
def mput {α : Type} (m : List (Int × α)) (x : Int) (a : α) : List (Int × α) := match kAt (m.map (·.1)) x with
  | some i => m.set i (x, a)
  | none => m ++ [(x, a)]
def mdel {α : Type} (m : List (Int × α)) (x : Int) : List (Int × α) := match kAt (m.map (·.1)) x with
  | some i => m.eraseIdx i
  | none => m
section
variable {α : Type} {f : α → AV} {m : List (Int × α)}
theorem mfind_none {x : Int} (h : kAt (m.map (·.1)) x = none) : mfind m x = none := by
  unfold mfind
  have := kAt_none h
  rw [List.find?_eq_none.2]
  · rfl
  · intro p hp hh
    exact this (List.mem_map.2 ⟨p, hp, by simpa using hh⟩)
theorem find_idx {x : Int} : ∀ {m : List (Int × α)}, x ∈ m.map (·.1) → ∃ a, m[(m.map (·.1)).idxOf x]? = some (x, a) ∧ m.find? (fun p => p.1 == x) = some (x, a)
  | [], h => by simp at h
  | (y, b) :: m, h => by
    by_cases e : y = x
    · subst e
      exact ⟨b, by simp, by simp⟩
    · have h2 : x ∈ m.map (·.1) := by
        rcases List.mem_cons.1 h with h | h
        · exact absurd h.symm e
        · exact h
      obtain ⟨a, h3, h4⟩ := find_idx h2
      refine ⟨a, ?_, ?_⟩
      · have h5 : (y == x) = false := by simpa using e
        rw [List.map_cons, List.idxOf_cons, h5]
        exact h3
      · rw [List.find?_cons_of_neg (by simpa using e)]
        exact h4
theorem mfind_some {x : Int} {i : Nat} (h : kAt (m.map (·.1)) x = some i) : ∃ a, m[i]? = some (x, a) ∧ mfind m x = some a := by
  have h0 := h
  unfold kAt at h
  split at h
  case isFalse => cases h
  next hx =>
  cases h
  obtain ⟨a, h3, h4⟩ := find_idx hx
  exact ⟨a, h3, by unfold mfind; rw [h4]; rfl⟩
theorem kPut_mB {x : Int} {a : α} : kPut (m.map (·.1)) (m.map fun p => f p.2) x (f a) = mB f (mput m x a) := by
  unfold kPut mput mB
  cases h : kAt (m.map (·.1)) x with
  | none => simp
  | some i =>
    obtain ⟨b, h1, _⟩ := mfind_some h
    simp only [List.map_set]
    congr 1
    apply List.ext_getElem?
    intro q
    rw [List.getElem?_set]
    by_cases hq : i = q
    · subst hq
      rw [if_pos rfl, if_pos (by simpa using (List.getElem?_eq_some_iff.1 h1).1), List.getElem?_map, h1]
      rfl
    · rw [if_neg hq]
theorem map_eraseIdx' {β γ : Type} (g : β → γ) : ∀ (l : List β) (i : Nat), (l.eraseIdx i).map g = (l.map g).eraseIdx i
  | [], _ => rfl
  | _ :: _, 0 => rfl
  | a :: l, i + 1 => by simp [map_eraseIdx' g l i]
theorem kDel_mB {x : Int} : kDel (m.map (·.1)) (m.map fun p => f p.2) x = mB f (mdel m x) := by
  unfold kDel mdel mB
  cases h : kAt (m.map (·.1)) x with
  | none => rfl
  | some i => simp only [map_eraseIdx']
theorem amaps_vals {g : Nat → Nat} (h : ∀ a, amap g (f a) = f a) : ∀ m : List (Int × α), amaps g (m.map fun p => f p.2) = m.map fun p => f p.2
  | [] => rfl
  | p :: m => by simp only [List.map_cons]; unfold amaps; rw [h, amaps_vals h m]
theorem bmap_mI {g : Nat → Nat} {m : List (Int × Int)} : bmap g (mB vI m) = mB vI m := by
  show Blk.map (m.map (·.1)) (amaps g (m.map fun p => vI p.2)) none = _
  rw [amaps_vals fun _ => rfl]
  rfl
theorem bmap_mSI {g : Nat → Nat} {m : List (Int × Int)} {bs : List Nat} {c : Nat} : bmap g (mS vI m bs c) = mS vI m bs c := by
  show Blk.map (m.map (·.1)) (amaps g (m.map fun p => vI p.2)) (some (bs, c)) = _
  rw [amaps_vals fun _ => rfl]
  rfl
section
variable {n : Nat} {g : Nat → Nat} {cs vs : List AV} {hot : Bool} {sz : Nat} {es : List (List AV)} {ks : List Int} {st : Option (List Nat × Nat)} {q c : Nat} {bs seen : List Nat}
theorem nbB_o : nbB n (.obj cs) = nbs n cs := rfl
theorem nbB_r : nbB n (.row hot sz es) = nbss n es := rfl
theorem nbB_i : nbB n (.iter q bs c seen) = (q < n) := rfl
theorem bmap_o : bmap g (.obj cs) = .obj (amaps g cs) := rfl
theorem bmap_r : bmap g (.row hot sz es) = .row hot sz (amapss g es) := rfl
theorem bmap_i : bmap g (.iter q bs c seen) = .iter (g q) bs c seen := rfl
theorem gfB_o : gfB (.obj cs) = gfs cs := rfl
theorem gfB_r : gfB (.row hot sz es) = (hot = true ∧ gfss es) := rfl
theorem gfB_i : gfB (.iter q bs c seen) = True := rfl
end
theorem mB_nil : Blk.map [] [] none = mB vI [] := rfl
end

/-! ### rules -/
section
variable {E : Env} {P : Program} {ty t : TypeId} {ρ : Operand → AV} {H : Heap} {x y k : Operand} {r q : Nat} {ok : Bool}
def jmmake (P : Program) (t : TypeId) (r : Option AV) (H : Heap) [K : Kvh] : Prop := amakeMap P t r H K.k
def jlook (P : Program) (t : TypeId) (m k : AV) (ok : Bool) (H : Heap) [K : Kv] : Prop := alookup P t m k ok H K.k
def jmput (P : Program) (t : TypeId) (m k a : AV) (H : Heap) [K : Kh] : Prop := amapUpdate P t m k a H K.k
def jmdel (P : Program) (ts : List TypeId) (al : List AV) (H : Heap) [K : Kvh] : Prop := adelete P ts al H K.k
def jrange (P : Program) (t : TypeId) (m : AV) (H : Heap) [K : Kvh] : Prop := arange P t m H K.k
def jnext (a : AV) (s : Bool) (H : Heap) [K : Kvh] : Prop := anext a s H K.k
def jentry (a : AV) (H : Heap) [K : Kv] : Prop := aentry a H K.k
theorem jop_makeMap {K : Kvh} {o : Option Operand} : jop E (.makeMap t o) ty ρ H = @jmmake E.P t (o.map ρ) H K := (rfl)
theorem jop_lookup {K : Kvh} : jop E (.lookup t x k ok) ty ρ H = @jlook E.P t (ρ x) (ρ k) ok H ⟨fun v => K.k v H⟩ := (rfl)
theorem jop_mapUpdate {K : Kvh} : jop E (.mapUpdate t x k y) ty ρ H = @jmput E.P t (ρ x) (ρ k) (ρ y) H ⟨fun H' => K.k (.v undef) H'⟩ := (rfl)
theorem jop_delete {K : Kvh} {al : Array Operand} {ts : Array TypeId} : jop E (.call ⟨.builtin .delete, al, ts⟩) ty ρ H = @jmdel E.P ts.toList (al.toList.map ρ) H K := (rfl)
theorem jop_range {K : Kvh} : jop E (.range t x) ty ρ H = @jrange E.P t (ρ x) H K := (rfl)
theorem jop_next {K : Kvh} {s : Bool} : jop E (.next x s) ty ρ H = @jnext (ρ x) s H K := (rfl)
theorem jop_entry {K : Kvh} : jop E (.entry x) ty ρ H = @jentry (ρ x) H ⟨fun v => K.k v H⟩ := (rfl)
theorem jmmake_m {K : Kvh} : jmmake P t none H = match mpI P t with
    | some _ => K.k (.mp H.length) (H ++ [some (.map [] [] none)])
    | none => False := by
  unfold jmmake amakeMap
  cases mpI P t with
  | none => simp
  | some ke => simp
/-- A key looked for in a block. -/
def jlk (z : Option AV) (b : Option (Option Blk)) (x : Int) (ok : Bool) [K : Kv] : Prop := ∃ z', z = some z' ∧ ∃ ks vs st, b = some (some (.map ks vs st)) ∧ match kAt ks x with
    | some i => K.k (if ok then .tup [vs.getD i .any, .v (.bool true)] else vs.getD i .any)
    | none => K.k (if ok then .tup [z', .v (.bool false)] else z')
theorem jlook_m {K : Kv} {n : Int} : jlook P t (.mp r) (.v (.int .i64 n)) ok H = match mpI P t with
    | some (_, e) => jlk (zvI P e) H[r]? n ok
    | none => False := by
  unfold jlook alookup jlk
  apply propext
  constructor
  · rintro ⟨kt, e, z, h1, hz, x, hx, r', hr, ks, vs, st, hh, hk⟩
    cases hx
    cases hr
    rw [h1]
    exact ⟨z, hz, ks, vs, st, hh, hk⟩
  · intro h
    split at h
    · next kt e h1 =>
      obtain ⟨z, hz, ks, vs, st, hh, hk⟩ := h
      exact ⟨kt, e, z, h1, hz, n, rfl, r, rfl, ks, vs, st, hh, hk⟩
    · exact h.elim
theorem jlk_mB {K : Kv} {α : Type} {f : α → AV} {m : List (Int × α)} {z : AV} {n : Int} {st : Option (List Nat × Nat)} : jlk (some z) (some (some (.map (m.map (·.1)) (m.map fun p => f p.2) st))) n ok = match mfind m n with
    | some a => K.k (if ok then .tup [f a, .v (.bool true)] else f a)
    | none => K.k (if ok then .tup [z, .v (.bool false)] else z) := by
  unfold jlk
  apply propext
  constructor
  · rintro ⟨z', e1, ks, vs, st, e2, h⟩
    cases e1
    simp only [Option.some.injEq, Blk.map.injEq] at e2
    obtain ⟨rfl, rfl, rfl⟩ := e2
    cases hk : kAt (m.map (·.1)) n with
    | none =>
      rw [mfind_none hk]
      rw [hk] at h
      exact h
    | some i =>
      obtain ⟨a, h1, h2⟩ := mfind_some hk
      rw [h2]
      rw [hk] at h
      have e : (m.map fun p => f p.2).getD i .any = f a := by rw [List.getD_eq_getElem?_getD, List.getElem?_map, h1]; rfl
      simp only [e] at h
      exact h
  · intro h
    refine ⟨z, rfl, _, _, _, rfl, ?_⟩
    cases hk : kAt (m.map (·.1)) n with
    | none =>
      rw [mfind_none hk] at h
      exact h
    | some i =>
      obtain ⟨a, h1, h2⟩ := mfind_some hk
      rw [h2] at h
      have e : (m.map fun p => f p.2).getD i .any = f a := by rw [List.getD_eq_getElem?_getD, List.getElem?_map, h1]; rfl
      simp only [e]
      exact h
/-- .. numbers: none reads as 0. -/
theorem jlk_mI {K : Kv} {m : List (Int × Int)} {n : Int} : jlk (some (.v (.int .i64 0))) (some (some (mB vI m))) n false = K.k (.v (.int .i64 ((mfind m n).getD 0))) := by
  unfold mB
  rw [jlk_mB]
  cases mfind m n <;> rfl
def jmp2 (r : Nat) (b : Option (Option Blk)) (n : Int) (a : AV) (H : Heap) [K : Kh] : Prop := ∃ ks vs st, b = some (some (.map ks vs st)) ∧ K.k (H.set r (some (kPut ks vs n a)))
theorem jmput_m {K : Kh} {n : Int} {a : AV} : jmput P t (.mp r) (.v (.int .i64 n)) a H = match mpI P t with
    | some _ => jmp2 r H[r]? n a H
    | none => False := by
  unfold jmput amapUpdate jmp2
  apply propext
  constructor
  · rintro ⟨ke, h1, x, hx, r', hr, ks, vs, st, hh, hk⟩
    cases hx
    cases hr
    rw [h1]
    exact ⟨ks, vs, st, hh, hk⟩
  · intro h
    split at h
    · next ke h1 =>
      obtain ⟨ks, vs, st, hh, hk⟩ := h
      exact ⟨ke, h1, n, rfl, r, rfl, ks, vs, st, hh, hk⟩
    · exact h.elim
theorem jmp2_mB {K : Kh} {α : Type} {f : α → AV} {m : List (Int × α)} {n : Int} {a : α} : jmp2 r (some (some (mB f m))) n (f a) H = K.k (H.set r (some (mB f (mput m n a)))) := by
  unfold jmp2
  apply propext
  constructor
  · rintro ⟨ks, vs, st, e, h⟩
    unfold mB at e
    simp only [Option.some.injEq, Blk.map.injEq] at e
    obtain ⟨rfl, rfl, rfl⟩ := e
    rwa [kPut_mB] at h
  · intro h
    exact ⟨_, _, _, rfl, by rw [kPut_mB]; exact h⟩
def jmd2 (r : Nat) (b : Option (Option Blk)) (n : Int) (H : Heap) [K : Kvh] : Prop := ∃ ks vs st, b = some (some (.map ks vs st)) ∧ K.k (.tup []) (H.set r (some (kDel ks vs n)))
theorem jmdel_m {K : Kvh} {n : Int} {t2 : TypeId} : jmdel P [t, t2] [.mp r, .v (.int .i64 n)] H = match mpI P t with
    | some _ => jmd2 r H[r]? n H
    | none => False := by
  unfold jmdel adelete jmd2
  simp only
  apply propext
  constructor
  · rintro ⟨ke, h1, x, hx, r', hr, ks, vs, st, hh, hk⟩
    cases hx
    cases hr
    rw [h1]
    exact ⟨ks, vs, st, hh, hk⟩
  · intro h
    split at h
    · next ke h1 =>
      obtain ⟨ks, vs, st, hh, hk⟩ := h
      exact ⟨ke, h1, n, rfl, r, rfl, ks, vs, st, hh, hk⟩
    · exact h.elim
theorem jmd2_mB {K : Kvh} {α : Type} {f : α → AV} {m : List (Int × α)} {n : Int} : jmd2 r (some (some (mB f m))) n H = K.k (.tup []) (H.set r (some (mB f (mdel m n)))) := by
  unfold jmd2
  apply propext
  constructor
  · rintro ⟨ks, vs, st, e, h⟩
    unfold mB at e
    simp only [Option.some.injEq, Blk.map.injEq] at e
    obtain ⟨rfl, rfl, rfl⟩ := e
    rwa [kDel_mB] at h
  · intro h
    exact ⟨_, _, _, rfl, by rw [kDel_mB]; exact h⟩
/-- How many entries. -/
def jlm (b : Option (Option Blk)) [K : Kv] : Prop := ∃ ks vs st, b = some (some (.map ks vs st)) ∧ K.k (.v (.int .i64 ks.length))
theorem jlm_mB {K : Kv} {α : Type} {f : α → AV} {m : List (Int × α)} : jlm (some (some (mB f m))) = K.k (.v (.int .i64 (m.length : Int))) := by
  unfold jlm mB
  apply propext
  constructor
  · rintro ⟨ks, vs, st, e, h⟩
    simp only [Option.some.injEq, Blk.map.injEq] at e
    obtain ⟨rfl, rfl, rfl⟩ := e
    rwa [List.length_map] at h
  · intro h
    exact ⟨_, _, _, rfl, by rw [List.length_map]; exact h⟩
/-- A walk over a map begins. -/
def jrg (r : Nat) (b : Option (Option Blk)) (H : Heap) [K : Kvh] : Prop := ∃ ks vs st, b = some (some (.map ks vs st)) ∧ ∀ bs c, K.k (.ptr H.length 0) (H.set r (some (.map ks vs (some (bs, c)))) ++ [some (.iter r bs c [])])
theorem jrange_m {K : Kvh} : jrange P t (.mp r) H = match mpI P t with
    | some _ => jrg r H[r]? H
    | none => False := by
  unfold jrange arange jrg
  apply propext
  constructor
  · rintro ⟨ke, h1, r', hr, ks, vs, st, hh, hk⟩
    cases hr
    rw [h1]
    exact ⟨ks, vs, st, hh, hk⟩
  · intro h
    split at h
    · next ke h1 =>
      obtain ⟨ks, vs, st, hh, hk⟩ := h
      exact ⟨ke, h1, r, rfl, ks, vs, st, hh, hk⟩
    · exact h.elim
/-- .. goes on. -/
def jnx (q : Nat) (b : Option (Option Blk)) (H : Heap) [K : Kvh] : Prop := ∃ r bs c seen, b = some (some (.iter r bs c seen)) ∧ ∃ ks vs, H[r]? = some (some (.map ks vs (some (bs, c)))) ∧
    ((∀ i, i < ks.length → i ∈ seen) → K.k (.tup [.v (.bool false)]) H) ∧
    ∀ i, i < ks.length → i ∉ seen → K.k (.tup [.v (.bool true), .v (.int .i64 (ks.getD i 0)), vs.getD i .any]) (H.set q (some (.iter r bs c (seen ++ [i]))))
theorem jnext_m {K : Kvh} : jnext (.ptr q 0) false H = jnx q H[q]? H := by
  unfold jnext anext jnx
  apply propext
  constructor
  · rintro ⟨_, q', hq, h⟩
    cases hq
    exact h
  · intro h
    exact ⟨rfl, q, rfl, h⟩
def jny (q r : Nat) (bs : List Nat) (c : Nat) (seen : List Nat) (b : Option (Option Blk)) (H : Heap) [K : Kvh] : Prop := ∃ ks vs, b = some (some (.map ks vs (some (bs, c)))) ∧
    ((∀ i, i < ks.length → i ∈ seen) → K.k (.tup [.v (.bool false)]) H) ∧
    ∀ i, i < ks.length → i ∉ seen → K.k (.tup [.v (.bool true), .v (.int .i64 (ks.getD i 0)), vs.getD i .any]) (H.set q (some (.iter r bs c (seen ++ [i]))))
theorem jnx_m {K : Kvh} {bs : List Nat} {c : Nat} {seen : List Nat} : jnx q (some (some (.iter r bs c seen))) H = jny q r bs c seen H[r]? H := by
  unfold jnx jny
  apply propext
  constructor
  · rintro ⟨r', bs', c', seen', e, h⟩
    cases e
    exact h
  · intro h
    exact ⟨r, bs, c, seen, rfl, h⟩
/-- The entry that was met last. -/
def jen (b : Option (Option Blk)) (H : Heap) [K : Kv] : Prop := ∃ r bs c seen, b = some (some (.iter r bs c seen)) ∧ ∃ ks vs, H[r]? = some (some (.map ks vs (some (bs, c)))) ∧
    ∃ i, seen.getLast? = some i ∧ i < ks.length ∧ K.k (.tup [.v (.int .i64 (ks.getD i 0)), vs.getD i .any])
theorem jentry_m {K : Kv} : jentry (.ptr q 0) H = jen H[q]? H := by
  unfold jentry aentry jen
  apply propext
  constructor
  · rintro ⟨q', hq, h⟩
    cases hq
    exact h
  · intro h
    exact ⟨q, rfl, h⟩
def jeo (bs : List Nat) (c i : Nat) (b : Option (Option Blk)) [K : Kv] : Prop := ∃ ks vs, b = some (some (.map ks vs (some (bs, c)))) ∧ i < ks.length ∧ K.k (.tup [.v (.int .i64 (ks.getD i 0)), vs.getD i .any])
theorem jen_m {K : Kv} {bs : List Nat} {c i : Nat} {seen : List Nat} : jen (some (some (.iter r bs c (seen ++ [i])))) H = jeo bs c i H[r]? := by
  unfold jen jeo
  apply propext
  constructor
  · rintro ⟨r', bs', c', seen', e, ks, vs, h1, j, h2, h3, h4⟩
    cases e
    rw [List.getLast?_append] at h2
    simp at h2
    subst h2
    exact ⟨ks, vs, h1, h3, h4⟩
  · rintro ⟨ks, vs, h1, h3, h4⟩
    exact ⟨r, bs, c, _, rfl, ks, vs, h1, i, by simp, h3, h4⟩
theorem jeo_mS {K : Kv} {α : Type} {f : α → AV} {m : List (Int × α)} {bs : List Nat} {c i : Nat} : jeo bs c i (some (some (mS f m bs c))) = match m[i]? with
    | some p => K.k (.tup [.v (.int .i64 p.1), f p.2])
    | none => False := by
  unfold jeo mS
  apply propext
  constructor
  · rintro ⟨ks, vs, e, hi, h⟩
    simp only [Option.some.injEq, Blk.map.injEq, and_true] at e
    obtain ⟨rfl, rfl⟩ := e
    rw [List.length_map] at hi
    have e1 : (m.map (·.1)).getD i 0 = m[i].1 := by rw [List.getD_eq_getElem?_getD, List.getElem?_map, List.getElem?_eq_getElem hi]; rfl
    have e2 : (m.map fun p => f p.2).getD i .any = f m[i].2 := by rw [List.getD_eq_getElem?_getD, List.getElem?_map, List.getElem?_eq_getElem hi]; rfl
    rw [e1, e2] at h
    rw [List.getElem?_eq_getElem hi]
    exact h
  · intro h
    split at h
    · next p hp =>
      have hi := (List.getElem?_eq_some_iff.1 hp).1
      have e1 : (m.map (·.1)).getD i 0 = p.1 := by rw [List.getD_eq_getElem?_getD, List.getElem?_map, hp]; rfl
      have e2 : (m.map fun p => f p.2).getD i .any = f p.2 := by rw [List.getD_eq_getElem?_getD, List.getElem?_map, hp]; rfl
      exact ⟨_, _, rfl, by rw [List.length_map]; exact hi, by rw [e1, e2]; exact h⟩
    · exact h.elim
/-! ### a map's block told anew -/
end
end Go.Am
