/- The abstract machine: rules for maps in a walk. No condition. -/
import Derived.Test.YtckppkimjiifpaaQb1
import Derived.Test.YtckppkimjiifpaaQGn
set_option linter.unusedSectionVars false
set_option linter.unusedVariables false
set_option linter.unusedSimpArgs false
set_option linter.deprecated false
namespace Go.Am
open Go.RowKit Go.Cx

/-! ### maps as lists -/
/-- A map's block: its entries. -/
def mB {α : Type} (f : α → AV) (m : List (Int × α)) : Blk := .map (m.map (·.1)) (m.map fun p => f p.2) none
/-- .. while it is walked over. -/
def mS {α : Type} (f : α → AV) (m : List (Int × α)) (bs : List Nat) (c : Nat) : Blk := .map (m.map (·.1)) (m.map fun p => f p.2) (some (bs, c))
def vI (n : Int) : AV := .v (.int .i64 n)
def mfind {α : Type} (m : List (Int × α)) (x : Int) : Option α := (m.find? fun p => p.1 == x).map (·.2)
def mput {α : Type} (m : List (Int × α)) (x : Int) (a : α) : List (Int × α) := match kAt (m.map (·.1)) x with
  | some i => m.set i (x, a)
  | none => m ++ [(x, a)]
def mdel {α : Type} (m : List (Int × α)) (x : Int) : List (Int × α) := match kAt (m.map (·.1)) x with
  | some i => m.eraseIdx i
  | none => m
section
variable {α : Type} {f : α → AV} {m : List (Int × α)}
theorem mfind_none {x : Int} (h : kAt (m.map (·.1)) x = none) : mfind m x = none := by
  unfold mfind
  have := kAt_none h
  rw [List.find?_eq_none.2]
  · rfl
  · intro p hp hh
    exact this (List.mem_map.2 ⟨p, hp, by simpa using hh⟩)
theorem find_idx {x : Int} : ∀ {m : List (Int × α)}, x ∈ m.map (·.1) → ∃ a, m[(m.map (·.1)).idxOf x]? = some (x, a) ∧ m.find? (fun p => p.1 == x) = some (x, a)
  | [], h => by simp at h
  | (y, b) :: m, h => by
    by_cases e : y = x
    · subst e
      exact ⟨b, by simp, by simp⟩
    · have h2 : x ∈ m.map (·.1) := by
        rcases List.mem_cons.1 h with h | h
        · exact absurd h.symm e
        · exact h
      obtain ⟨a, h3, h4⟩ := find_idx h2
      refine ⟨a, ?_, ?_⟩
      · have h5 : (y == x) = false := by simpa using e
        rw [List.map_cons, List.idxOf_cons, h5]
        exact h3
      · rw [List.find?_cons_of_neg (by simpa using e)]
        exact h4
theorem mfind_some {x : Int} {i : Nat} (h : kAt (m.map (·.1)) x = some i) : ∃ a, m[i]? = some (x, a) ∧ mfind m x = some a := by
  have h0 := h
  unfold kAt at h
  split at h
  case isFalse => cases h
  next hx =>
  cases h
  obtain ⟨a, h3, h4⟩ := find_idx hx
  exact ⟨a, h3, by unfold mfind; rw [h4]; rfl⟩
theorem kPut_mB {x : Int} {a : α} : kPut (m.map (·.1)) (m.map fun p => f p.2) x (f a) = mB f (mput m x a) := by
  unfold kPut mput mB
  cases h : kAt (m.map (·.1)) x with
  | none => simp
  | some i =>
    obtain ⟨b, h1, _⟩ := mfind_some h
    simp only [List.map_set]
    congr 1
    apply List.ext_getElem?
    intro q
    rw [List.getElem?_set]
    by_cases hq : i = q
    · subst hq
      rw [if_pos rfl, if_pos (by simpa using (List.getElem?_eq_some_iff.1 h1).1), List.getElem?_map, h1]
      rfl
    · rw [if_neg hq]
theorem map_eraseIdx' {β γ : Type} (g : β → γ) : ∀ (l : List β) (i : Nat), (l.eraseIdx i).map g = (l.map g).eraseIdx i
  | [], _ => rfl
  | _ :: _, 0 => rfl
  | a :: l, i + 1 => by simp [map_eraseIdx' g l i]
theorem kDel_mB {x : Int} : kDel (m.map (·.1)) (m.map fun p => f p.2) x = mB f (mdel m x) := by
  unfold kDel mdel mB
  cases h : kAt (m.map (·.1)) x with
  | none => rfl
  | some i => simp only [map_eraseIdx']
theorem nbB_mB {n : Nat} (h : ∀ a, nb n (f a)) : nbB n (mB f m) := nbs_iff.2 fun a ha => by
  obtain ⟨p, _, rfl⟩ := List.mem_map.1 ha
  exact h p.2
theorem nbB_mI {n : Nat} {m : List (Int × Int)} : nbB n (mB vI m) = True := eq_true (nbB_mB fun _ => trivial)
theorem nbB_mSI {n : Nat} {m : List (Int × Int)} {bs : List Nat} {c : Nat} : nbB n (mS vI m bs c) = True := eq_true (nbB_mB (m := m) fun _ => trivial)
theorem amaps_vals {g : Nat → Nat} (h : ∀ a, amap g (f a) = f a) : ∀ m : List (Int × α), amaps g (m.map fun p => f p.2) = m.map fun p => f p.2
  | [] => rfl
  | p :: m => by simp only [List.map_cons]; unfold amaps; rw [h, amaps_vals h m]
theorem bmap_mI {g : Nat → Nat} {m : List (Int × Int)} : bmap g (mB vI m) = mB vI m := by
  show Blk.map (m.map (·.1)) (amaps g (m.map fun p => vI p.2)) none = _
  rw [amaps_vals fun _ => rfl]
  rfl
theorem bmap_mSI {g : Nat → Nat} {m : List (Int × Int)} {bs : List Nat} {c : Nat} : bmap g (mS vI m bs c) = mS vI m bs c := by
  show Blk.map (m.map (·.1)) (amaps g (m.map fun p => vI p.2)) (some (bs, c)) = _
  rw [amaps_vals fun _ => rfl]
  rfl
section
variable {n : Nat} {g : Nat → Nat} {cs vs : List AV} {hot : Bool} {sz : Nat} {es : List (List AV)} {ks : List Int} {st : Option (List Nat × Nat)} {q c : Nat} {bs seen : List Nat}
theorem nbB_o : nbB n (.obj cs) = nbs n cs := rfl
theorem nbB_r : nbB n (.row hot sz es) = nbss n es := rfl
theorem nbB_i : nbB n (.iter q bs c seen) = (q < n) := rfl
theorem bmap_o : bmap g (.obj cs) = .obj (amaps g cs) := rfl
theorem bmap_r : bmap g (.row hot sz es) = .row hot sz (amapss g es) := rfl
theorem bmap_i : bmap g (.iter q bs c seen) = .iter (g q) bs c seen := rfl
theorem gfB_o : gfB (.obj cs) = gfs cs := rfl
theorem gfB_r : gfB (.row hot sz es) = (hot = true ∧ gfss es) := rfl
theorem gfB_i : gfB (.iter q bs c seen) = True := rfl
end
theorem Cq.cl {E : Env} {n : Nat} {T T' : Nat → AV} {H H' : Heap} {p : (Nat → AV) → Heap → Prop} (h : Cq E n T H T' H') (k : Cl E n p T' H') : Cl E n p T H := by
  obtain ⟨T2, H2, c, hp⟩ := k
  exact ⟨T2, H2, h.trans c, hp⟩
theorem mB_nil : Blk.map [] [] none = mB vI [] := rfl
end

/-! ### rules -/
section
variable {E : Env} {P : Program} {ty t : TypeId} {ρ : Operand → AV} {H : Heap} {x y k : Operand} {r q : Nat} {ok : Bool}
def jmmake (P : Program) (t : TypeId) (r : Option AV) (H : Heap) [K : Kvh] : Prop := amakeMap P t r H K.k
def jlook (P : Program) (t : TypeId) (m k : AV) (ok : Bool) (H : Heap) [K : Kv] : Prop := alookup P t m k ok H K.k
def jmput (P : Program) (t : TypeId) (m k a : AV) (H : Heap) [K : Kh] : Prop := amapUpdate P t m k a H K.k
def jmdel (P : Program) (ts : List TypeId) (al : List AV) (H : Heap) [K : Kvh] : Prop := adelete P ts al H K.k
def jrange (P : Program) (t : TypeId) (m : AV) (H : Heap) [K : Kvh] : Prop := arange P t m H K.k
def jnext (a : AV) (s : Bool) (H : Heap) [K : Kvh] : Prop := anext a s H K.k
def jentry (a : AV) (H : Heap) [K : Kv] : Prop := aentry a H K.k
theorem jop_makeMap {K : Kvh} {o : Option Operand} : jop E (.makeMap t o) ty ρ H = @jmmake E.P t (o.map ρ) H K := (rfl)
theorem jop_lookup {K : Kvh} : jop E (.lookup t x k ok) ty ρ H = @jlook E.P t (ρ x) (ρ k) ok H ⟨fun v => K.k v H⟩ := (rfl)
theorem jop_mapUpdate {K : Kvh} : jop E (.mapUpdate t x k y) ty ρ H = @jmput E.P t (ρ x) (ρ k) (ρ y) H ⟨fun H' => K.k (.v undef) H'⟩ := (rfl)
theorem jop_delete {K : Kvh} {al : Array Operand} {ts : Array TypeId} : jop E (.call ⟨.builtin .delete, al, ts⟩) ty ρ H = @jmdel E.P ts.toList (al.toList.map ρ) H K := (rfl)
theorem jop_range {K : Kvh} : jop E (.range t x) ty ρ H = @jrange E.P t (ρ x) H K := (rfl)
theorem jop_next {K : Kvh} {s : Bool} : jop E (.next x s) ty ρ H = @jnext (ρ x) s H K := (rfl)
theorem jop_entry {K : Kvh} : jop E (.entry x) ty ρ H = @jentry (ρ x) H ⟨fun v => K.k v H⟩ := (rfl)
theorem jmmake_m {K : Kvh} : jmmake P t none H = match mpI P t with
    | some _ => K.k (.mp H.length) (H ++ [some (.map [] [] none)])
    | none => False := by
  unfold jmmake amakeMap
  cases mpI P t with
  | none => simp
  | some ke => simp
/-- A key looked for in a block. -/
def jlk (z : Option AV) (b : Option (Option Blk)) (x : Int) (ok : Bool) [K : Kv] : Prop := ∃ z', z = some z' ∧ ∃ ks vs st, b = some (some (.map ks vs st)) ∧ match kAt ks x with
    | some i => K.k (if ok then .tup [vs.getD i .any, .v (.bool true)] else vs.getD i .any)
    | none => K.k (if ok then .tup [z', .v (.bool false)] else z')
theorem jlook_m {K : Kv} {n : Int} : jlook P t (.mp r) (.v (.int .i64 n)) ok H = match mpI P t with
    | some (_, e) => jlk (zvI P e) H[r]? n ok
    | none => False := by
  unfold jlook alookup jlk
  apply propext
  constructor
  · rintro ⟨kt, e, z, h1, hz, x, hx, r', hr, ks, vs, st, hh, hk⟩
    cases hx
    cases hr
    rw [h1]
    exact ⟨z, hz, ks, vs, st, hh, hk⟩
  · intro h
    split at h
    · next kt e h1 =>
      obtain ⟨z, hz, ks, vs, st, hh, hk⟩ := h
      exact ⟨kt, e, z, h1, hz, n, rfl, r, rfl, ks, vs, st, hh, hk⟩
    · exact h.elim
theorem jlk_mB {K : Kv} {α : Type} {f : α → AV} {m : List (Int × α)} {z : AV} {n : Int} {st : Option (List Nat × Nat)} : jlk (some z) (some (some (.map (m.map (·.1)) (m.map fun p => f p.2) st))) n ok = match mfind m n with
    | some a => K.k (if ok then .tup [f a, .v (.bool true)] else f a)
    | none => K.k (if ok then .tup [z, .v (.bool false)] else z) := by
  unfold jlk
  apply propext
  constructor
  · rintro ⟨z', e1, ks, vs, st, e2, h⟩
    cases e1
    simp only [Option.some.injEq, Blk.map.injEq] at e2
    obtain ⟨rfl, rfl, rfl⟩ := e2
    cases hk : kAt (m.map (·.1)) n with
    | none =>
      rw [mfind_none hk]
      rw [hk] at h
      exact h
    | some i =>
      obtain ⟨a, h1, h2⟩ := mfind_some hk
      rw [h2]
      rw [hk] at h
      have e : (m.map fun p => f p.2).getD i .any = f a := by rw [List.getD_eq_getElem?_getD, List.getElem?_map, h1]; rfl
      simp only [e] at h
      exact h
  · intro h
    refine ⟨z, rfl, _, _, _, rfl, ?_⟩
    cases hk : kAt (m.map (·.1)) n with
    | none =>
      rw [mfind_none hk] at h
      exact h
    | some i =>
      obtain ⟨a, h1, h2⟩ := mfind_some hk
      rw [h2] at h
      have e : (m.map fun p => f p.2).getD i .any = f a := by rw [List.getD_eq_getElem?_getD, List.getElem?_map, h1]; rfl
      simp only [e]
      exact h
/-- .. numbers: none reads as 0. -/
theorem jlk_mI {K : Kv} {m : List (Int × Int)} {n : Int} : jlk (some (.v (.int .i64 0))) (some (some (mB vI m))) n false = K.k (.v (.int .i64 ((mfind m n).getD 0))) := by
  unfold mB
  rw [jlk_mB]
  cases mfind m n <;> rfl
def jmp2 (r : Nat) (b : Option (Option Blk)) (n : Int) (a : AV) (H : Heap) [K : Kh] : Prop := ∃ ks vs st, b = some (some (.map ks vs st)) ∧ K.k (H.set r (some (kPut ks vs n a)))
theorem jmput_m {K : Kh} {n : Int} {a : AV} : jmput P t (.mp r) (.v (.int .i64 n)) a H = match mpI P t with
    | some _ => jmp2 r H[r]? n a H
    | none => False := by
  unfold jmput amapUpdate jmp2
  apply propext
  constructor
  · rintro ⟨ke, h1, x, hx, r', hr, ks, vs, st, hh, hk⟩
    cases hx
    cases hr
    rw [h1]
    exact ⟨ks, vs, st, hh, hk⟩
  · intro h
    split at h
    · next ke h1 =>
      obtain ⟨ks, vs, st, hh, hk⟩ := h
      exact ⟨ke, h1, n, rfl, r, rfl, ks, vs, st, hh, hk⟩
    · exact h.elim
theorem jmp2_mB {K : Kh} {α : Type} {f : α → AV} {m : List (Int × α)} {n : Int} {a : α} : jmp2 r (some (some (mB f m))) n (f a) H = K.k (H.set r (some (mB f (mput m n a)))) := by
  unfold jmp2
  apply propext
  constructor
  · rintro ⟨ks, vs, st, e, h⟩
    unfold mB at e
    simp only [Option.some.injEq, Blk.map.injEq] at e
    obtain ⟨rfl, rfl, rfl⟩ := e
    rwa [kPut_mB] at h
  · intro h
    exact ⟨_, _, _, rfl, by rw [kPut_mB]; exact h⟩
theorem jmp2_mI {K : Kh} {m : List (Int × Int)} {n a : Int} : jmp2 r (some (some (mB vI m))) n (.v (.int .i64 a)) H = K.k (H.set r (some (mB vI (mput m n a)))) := jmp2_mB (f := vI)
def jmd2 (r : Nat) (b : Option (Option Blk)) (n : Int) (H : Heap) [K : Kvh] : Prop := ∃ ks vs st, b = some (some (.map ks vs st)) ∧ K.k (.tup []) (H.set r (some (kDel ks vs n)))
theorem jmdel_m {K : Kvh} {n : Int} {t2 : TypeId} : jmdel P [t, t2] [.mp r, .v (.int .i64 n)] H = match mpI P t with
    | some _ => jmd2 r H[r]? n H
    | none => False := by
  unfold jmdel adelete jmd2
  simp only
  apply propext
  constructor
  · rintro ⟨ke, h1, x, hx, r', hr, ks, vs, st, hh, hk⟩
    cases hx
    cases hr
    rw [h1]
    exact ⟨ks, vs, st, hh, hk⟩
  · intro h
    split at h
    · next ke h1 =>
      obtain ⟨ks, vs, st, hh, hk⟩ := h
      exact ⟨ke, h1, n, rfl, r, rfl, ks, vs, st, hh, hk⟩
    · exact h.elim
theorem jmd2_mB {K : Kvh} {α : Type} {f : α → AV} {m : List (Int × α)} {n : Int} : jmd2 r (some (some (mB f m))) n H = K.k (.tup []) (H.set r (some (mB f (mdel m n)))) := by
  unfold jmd2
  apply propext
  constructor
  · rintro ⟨ks, vs, st, e, h⟩
    unfold mB at e
    simp only [Option.some.injEq, Blk.map.injEq] at e
    obtain ⟨rfl, rfl, rfl⟩ := e
    rwa [kDel_mB] at h
  · intro h
    exact ⟨_, _, _, rfl, by rw [kDel_mB]; exact h⟩
/-- How many entries. -/
def jlm (b : Option (Option Blk)) [K : Kv] : Prop := ∃ ks vs st, b = some (some (.map ks vs st)) ∧ K.k (.v (.int .i64 ks.length))
theorem jlenM_m {K : Kv} : jlenM P t r H = match mpI P t with
    | some _ => jlm H[r]?
    | none => False := by
  unfold jlenM jlm
  cases mpI P t with
  | none => simp
  | some ke => simp
theorem jlm_mB {K : Kv} {α : Type} {f : α → AV} {m : List (Int × α)} : jlm (some (some (mB f m))) = K.k (.v (.int .i64 (m.length : Int))) := by
  unfold jlm mB
  apply propext
  constructor
  · rintro ⟨ks, vs, st, e, h⟩
    simp only [Option.some.injEq, Blk.map.injEq] at e
    obtain ⟨rfl, rfl, rfl⟩ := e
    rwa [List.length_map] at h
  · intro h
    exact ⟨_, _, _, rfl, by rw [List.length_map]; exact h⟩
/-- A walk over a map begins. -/
def jrg (r : Nat) (b : Option (Option Blk)) (H : Heap) [K : Kvh] : Prop := ∃ ks vs st, b = some (some (.map ks vs st)) ∧ ∀ bs c, K.k (.ptr H.length 0) (H.set r (some (.map ks vs (some (bs, c)))) ++ [some (.iter r bs c [])])
theorem jrange_m {K : Kvh} : jrange P t (.mp r) H = match mpI P t with
    | some _ => jrg r H[r]? H
    | none => False := by
  unfold jrange arange jrg
  apply propext
  constructor
  · rintro ⟨ke, h1, r', hr, ks, vs, st, hh, hk⟩
    cases hr
    rw [h1]
    exact ⟨ks, vs, st, hh, hk⟩
  · intro h
    split at h
    · next ke h1 =>
      obtain ⟨ks, vs, st, hh, hk⟩ := h
      exact ⟨ke, h1, r, rfl, ks, vs, st, hh, hk⟩
    · exact h.elim
theorem jrg_go {K : Kvh} {α : Type} {f : α → AV} {m : List (Int × α)} (h : ∀ bs c, K.k (.ptr H.length 0) (H.set r (some (mS f m bs c)) ++ [some (.iter r bs c [])])) : jrg r (some (some (mB f m))) H := ⟨_, _, _, rfl, h⟩
/-- .. goes on. -/
def jnx (q : Nat) (b : Option (Option Blk)) (H : Heap) [K : Kvh] : Prop := ∃ r bs c seen, b = some (some (.iter r bs c seen)) ∧ ∃ ks vs, H[r]? = some (some (.map ks vs (some (bs, c)))) ∧
    ((∀ i, i < ks.length → i ∈ seen) → K.k (.tup [.v (.bool false)]) H) ∧
    ∀ i, i < ks.length → i ∉ seen → K.k (.tup [.v (.bool true), .v (.int .i64 (ks.getD i 0)), vs.getD i .any]) (H.set q (some (.iter r bs c (seen ++ [i]))))
theorem jnext_m {K : Kvh} : jnext (.ptr q 0) false H = jnx q H[q]? H := by
  unfold jnext anext jnx
  apply propext
  constructor
  · rintro ⟨_, q', hq, h⟩
    cases hq
    exact h
  · intro h
    exact ⟨rfl, q, rfl, h⟩
def jny (q r : Nat) (bs : List Nat) (c : Nat) (seen : List Nat) (b : Option (Option Blk)) (H : Heap) [K : Kvh] : Prop := ∃ ks vs, b = some (some (.map ks vs (some (bs, c)))) ∧
    ((∀ i, i < ks.length → i ∈ seen) → K.k (.tup [.v (.bool false)]) H) ∧
    ∀ i, i < ks.length → i ∉ seen → K.k (.tup [.v (.bool true), .v (.int .i64 (ks.getD i 0)), vs.getD i .any]) (H.set q (some (.iter r bs c (seen ++ [i]))))
theorem jnx_m {K : Kvh} {bs : List Nat} {c : Nat} {seen : List Nat} : jnx q (some (some (.iter r bs c seen))) H = jny q r bs c seen H[r]? H := by
  unfold jnx jny
  apply propext
  constructor
  · rintro ⟨r', bs', c', seen', e, h⟩
    cases e
    exact h
  · intro h
    exact ⟨r, bs, c, seen, rfl, h⟩
theorem jny_go {K : Kvh} {α : Type} {f : α → AV} {m : List (Int × α)} {bs : List Nat} {c : Nat} {seen : List Nat} (h1 : (∀ i, i < m.length → i ∈ seen) → K.k (.tup [.v (.bool false)]) H)
    (h2 : ∀ i k a, m[i]? = some (k, a) → i ∉ seen → K.k (.tup [.v (.bool true), .v (.int .i64 k), f a]) (H.set q (some (.iter r bs c (seen ++ [i]))))) : jny q r bs c seen (some (some (mS f m bs c))) H := by
  refine ⟨_, _, rfl, fun h => h1 fun i hi => h i (by simpa using hi), fun i hi hs => ?_⟩
  rw [List.length_map] at hi
  have e1 : (m.map (·.1)).getD i 0 = m[i].1 := by rw [List.getD_eq_getElem?_getD, List.getElem?_map, List.getElem?_eq_getElem hi]; rfl
  have e2 : (m.map fun p => f p.2).getD i .any = f m[i].2 := by rw [List.getD_eq_getElem?_getD, List.getElem?_map, List.getElem?_eq_getElem hi]; rfl
  rw [e1, e2]
  exact h2 i _ _ (List.getElem?_eq_getElem hi) hs
/-- The entry that was met last. -/
def jen (b : Option (Option Blk)) (H : Heap) [K : Kv] : Prop := ∃ r bs c seen, b = some (some (.iter r bs c seen)) ∧ ∃ ks vs, H[r]? = some (some (.map ks vs (some (bs, c)))) ∧
    ∃ i, seen.getLast? = some i ∧ i < ks.length ∧ K.k (.tup [.v (.int .i64 (ks.getD i 0)), vs.getD i .any])
theorem jentry_m {K : Kv} : jentry (.ptr q 0) H = jen H[q]? H := by
  unfold jentry aentry jen
  apply propext
  constructor
  · rintro ⟨q', hq, h⟩
    cases hq
    exact h
  · intro h
    exact ⟨q, rfl, h⟩
def jeo (bs : List Nat) (c i : Nat) (b : Option (Option Blk)) [K : Kv] : Prop := ∃ ks vs, b = some (some (.map ks vs (some (bs, c)))) ∧ i < ks.length ∧ K.k (.tup [.v (.int .i64 (ks.getD i 0)), vs.getD i .any])
theorem jen_m {K : Kv} {bs : List Nat} {c i : Nat} {seen : List Nat} : jen (some (some (.iter r bs c (seen ++ [i])))) H = jeo bs c i H[r]? := by
  unfold jen jeo
  apply propext
  constructor
  · rintro ⟨r', bs', c', seen', e, ks, vs, h1, j, h2, h3, h4⟩
    cases e
    rw [List.getLast?_append] at h2
    simp at h2
    subst h2
    exact ⟨ks, vs, h1, h3, h4⟩
  · rintro ⟨ks, vs, h1, h3, h4⟩
    exact ⟨r, bs, c, _, rfl, ks, vs, h1, i, by simp, h3, h4⟩
theorem jeo_mS {K : Kv} {α : Type} {f : α → AV} {m : List (Int × α)} {bs : List Nat} {c i : Nat} : jeo bs c i (some (some (mS f m bs c))) = match m[i]? with
    | some p => K.k (.tup [.v (.int .i64 p.1), f p.2])
    | none => False := by
  unfold jeo mS
  apply propext
  constructor
  · rintro ⟨ks, vs, e, hi, h⟩
    simp only [Option.some.injEq, Blk.map.injEq, and_true] at e
    obtain ⟨rfl, rfl⟩ := e
    rw [List.length_map] at hi
    have e1 : (m.map (·.1)).getD i 0 = m[i].1 := by rw [List.getD_eq_getElem?_getD, List.getElem?_map, List.getElem?_eq_getElem hi]; rfl
    have e2 : (m.map fun p => f p.2).getD i .any = f m[i].2 := by rw [List.getD_eq_getElem?_getD, List.getElem?_map, List.getElem?_eq_getElem hi]; rfl
    rw [e1, e2] at h
    rw [List.getElem?_eq_getElem hi]
    exact h
  · intro h
    split at h
    · next p hp =>
      have hi := (List.getElem?_eq_some_iff.1 hp).1
      have e1 : (m.map (·.1)).getD i 0 = p.1 := by rw [List.getD_eq_getElem?_getD, List.getElem?_map, hp]; rfl
      have e2 : (m.map fun p => f p.2).getD i .any = f p.2 := by rw [List.getD_eq_getElem?_getD, List.getElem?_map, hp]; rfl
      exact ⟨_, _, rfl, by rw [List.length_map]; exact hi, by rw [e1, e2]; exact h⟩
    · exact h.elim
/-! ### a map's block told anew -/
theorem cq_mblk {n : Nat} {T : Nat → AV} (r : Nat) {B B' : Blk} (hr : H[r]? = some (some B)) (hh : B.isHot = true) (hB : ∀ (M : Mem) (w : World), BR M H.length w r B → (∃ b, M.blk r = some b) ∧ BR M H.length w r B') : Cq E n T H T (H.set r (some B')) := fun hn => by
  refine ⟨by simpa using hn, fun M w N a hG hT => ?_⟩
  obtain ⟨⟨b, hb⟩, hB2⟩ := hB M w (hG.blks r B hr)
  obtain ⟨g1, g2⟩ := hG.writeO (w' := w) (B' := B') hr hh hb rfl rfl rfl rfl (fun _ _ => rfl) fun _ _ => hB2
  refine ⟨M, g1, ?_, .of hn g2⟩
  rw [List.length_set]
  exact hT
/-- The stamps are forgotten. -/
theorem cq_forget {n : Nat} {T : Nat → AV} {α : Type} {f : α → AV} {m : List (Int × α)} {bs : List Nat} {c : Nat} (r : Nat) (hr : H[r]? = some (some (mS f m bs c))) : Cq E n T H T (H.set r (some (mB f m))) := by
  refine cq_mblk r hr rfl fun M w h => ?_
  obtain ⟨b, es, c', l, k1, k2, k3, k4, k5, k6, k7⟩ := h
  exact ⟨⟨b, k1⟩, b, es, c', l, k1, k2, k3, k4, k5, k6, by simp⟩
theorem VRt.permL {M : Mem} {n : Nat} {w : World} {α : Type} {f : α → AV} : ∀ {m m' : List (Int × α)}, m.Perm m' → ∀ {l : List MapEntry}, l.map (·.key) = (m.map (·.1)).map (.int .i64) → VRt M n w (m.map fun p => f p.2) (l.map (·.val)) →
    ∃ l' : List MapEntry, l'.Perm l ∧ l'.map (·.key) = (m'.map (·.1)).map (.int .i64) ∧ VRt M n w (m'.map fun p => f p.2) (l'.map (·.val)) := by
  intro m m' hp
  induction hp with
  | nil => intro l h1 h2; exact ⟨l, .refl _, h1, h2⟩
  | cons x hp ih =>
    intro l h1 h2
    match l, h1 with
    | e :: l, h1 =>
      simp only [List.map_cons, List.cons.injEq] at h1
      simp only [List.map_cons] at h2
      unfold VRt at h2
      obtain ⟨u, r, e1, h3, h4⟩ := h2
      cases e1
      obtain ⟨l', q1, q2, q3⟩ := ih h1.2 h4
      refine ⟨e :: l', q1.cons _, by simp [h1.1, q2], ?_⟩
      simp only [List.map_cons]
      unfold VRt
      exact ⟨_, _, rfl, h3, q3⟩
    | [], h1 => simp at h1
  | swap x y m =>
    intro l h1 h2
    match l, h1 with
    | e1 :: e2 :: l, h1 =>
      simp only [List.map_cons, List.cons.injEq] at h1
      simp only [List.map_cons] at h2
      unfold VRt at h2
      obtain ⟨u, r, q1, h3, h4⟩ := h2
      cases q1
      unfold VRt at h4
      obtain ⟨u, r, q1, h5, h6⟩ := h4
      cases q1
      refine ⟨e2 :: e1 :: l, .swap _ _ _, by simp [h1.1, h1.2.1, h1.2.2], ?_⟩
      simp only [List.map_cons]
      unfold VRt
      refine ⟨_, _, rfl, h5, ?_⟩
      unfold VRt
      exact ⟨_, _, rfl, h3, h6⟩
    | [], h1 => simp at h1
    | [_], h1 => simp at h1
  | trans hp1 hp2 ih1 ih2 =>
    intro l h1 h2
    obtain ⟨l1, q1, q2, q3⟩ := ih1 h1 h2
    obtain ⟨l2, p1, p2, p3⟩ := ih2 q2 q3
    exact ⟨l2, p1.trans q1, p2, p3⟩
/-- The entries stand in no order. -/
theorem cq_perm {n : Nat} {T : Nat → AV} {α : Type} {f : α → AV} {m m' : List (Int × α)} (r : Nat) (hr : H[r]? = some (some (mB f m))) (hp : m.Perm m') : Cq E n T H T (H.set r (some (mB f m'))) := by
  refine cq_mblk r hr rfl fun M w h => ?_
  obtain ⟨b, es, c', l, k1, k2, k3, k4, k5, k6, k7⟩ := h
  obtain ⟨l', q1, q2, q3⟩ := VRt.permL hp k5 k6
  exact ⟨⟨b, k1⟩, b, es, c', l', k1, k2, k3, q1.trans k4, q2, q3, by simp⟩
end
end Go.Am
