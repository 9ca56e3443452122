/- The abstract machine: statements whose order Go leaves open. No condition. -/
import Derived.Test.YtckppkimjiifpaaAf
import Derived.Orders
set_option linter.unusedSectionVars false
set_option linter.unusedVariables false
set_option linter.unusedSimpArgs false
set_option linter.deprecated false
namespace Go.Am
open Go.RowKit Go.Cx

/-! ### which operation waits for which -/
def dirs (o : Oper) : List Nat := (o.after.toList.filter (Region.binds .any ·)).map (·.on)
def insAll : List Nat → List Nat → List Nat
  | [], l => l
  | x :: xs, l => insAll xs (if l.contains x then l else x :: l)
def ancOf (acc : List (List Nat)) : List Nat → List Nat → List Nat
  | [], l => l
  | k :: ks, l => ancOf acc ks (insAll (k :: acc.getD k []) l)
def ancs : List Oper → List (List Nat) → List (List Nat)
  | [], acc => acc
  | o :: os, acc => ancs os (acc ++ [ancOf acc (dirs o) []])

theorem mem_insAll {x : Nat} : ∀ {xs l : List Nat}, x ∈ insAll xs l → x ∈ xs ∨ x ∈ l
  | [], l, h => .inr h
  | y :: ys, l, h => by
    unfold insAll at h
    rcases mem_insAll h with h | h
    · exact .inl (List.mem_cons_of_mem _ h)
    · split at h
      · exact .inr h
      · rcases List.mem_cons.1 h with h | h
        · exact .inl (by rw [h]; exact List.mem_cons_self)
        · exact .inr h
theorem mem_ancOf {x : Nat} {acc : List (List Nat)} : ∀ {ks l : List Nat}, x ∈ ancOf acc ks l → (∃ k ∈ ks, x = k ∨ x ∈ acc.getD k []) ∨ x ∈ l
  | [], l, h => .inr h
  | k :: ks, l, h => by
    unfold ancOf at h
    rcases mem_ancOf h with ⟨k', h1, h2⟩ | h
    · exact .inl ⟨k', List.mem_cons_of_mem _ h1, h2⟩
    · rcases mem_insAll h with h | h
      · rcases List.mem_cons.1 h with h | h
        · exact .inl ⟨k, List.mem_cons_self, .inl h⟩
        · exact .inl ⟨k, List.mem_cons_self, .inr h⟩
      · exact .inr h

theorem ancs_shut {ops : Array Oper} {S : Nat → Bool} (hS : ∀ i o, ops[i]? = some o → S i = true → ∀ j ∈ dirs o, S j = true) : ∀ (l : List Oper) (acc : List (List Nat)), ops.toList.drop acc.length = l →
    (∀ i, i < acc.length → S i = true → ∀ j ∈ acc.getD i [], S j = true) → ∀ i, S i = true → ∀ j ∈ (ancs l acc).getD i [], S j = true
  | [], acc, _, h, i, hi, j, hj => by
    unfold ancs at hj
    by_cases hlt : i < acc.length
    · exact h i hlt hi j hj
    · rw [List.getD_eq_getElem?_getD, List.getElem?_eq_none (by omega)] at hj
      simp at hj
  | o :: l, acc, hl, h, i, hi, j, hj => by
    unfold ancs at hj
    have ho : ops[acc.length]? = some o := by
      have : (ops.toList.drop acc.length)[0]? = some o := by rw [hl]; rfl
      simpa using this
    refine ancs_shut hS l _ ?_ ?_ i hi j hj
    · rw [List.length_append, List.length_singleton, ← List.drop_drop, hl]
      rfl
    · intro k hk hSk x hx
      by_cases hkl : k < acc.length
      · rw [List.getD_eq_getElem?_getD, List.getElem?_append_left hkl, ← List.getD_eq_getElem?_getD] at hx
        exact h k hkl hSk x hx
      · have hke : k = acc.length := by rw [List.length_append, List.length_singleton] at hk; omega
        subst hke
        rw [List.getD_eq_getElem?_getD, List.getElem?_append_right (Nat.le_refl _)] at hx
        simp at hx
        rcases mem_ancOf hx with ⟨q, h1, h2⟩ | h2
        · have hq := hS _ o ho hSk q h1
          rcases h2 with h2 | h2
          · rw [h2]; exact hq
          · by_cases hql : q < acc.length
            · exact h q hql hq x h2
            · rw [List.getD_eq_getElem?_getD, List.getElem?_eq_none (by omega)] at h2
              simp at h2
        · simp at h2

/-- What an operation looks at, and writes. -/
def names (ops : Array Oper) (o : Oper) : List Tmp := o.looksAt ops ++ o.dst.toList

/-- It neither looks into memory nor writes. -/
def still : Op → Bool
  | .move _ | .assign _ | .pick .. | .build .. | .nilCheck _ | .binOp .. | .unOp .. | .makeFunc .. | .slice .. | .fieldAddr .. | .field .. | .indexAddr .. | .index .. | .extract .. => true
  | _ => false

/-- How an operation stands in a statement whose order Go leaves open: q leaves the memory as it is; l also, and what it gives hangs on nothing that others add; e writes; g adds one block; b makes a row that nobody will write; m r loads out of the block r; f rs writes, but leaves the blocks rs as they are. -/
inductive Kd where
  | q | l | e | g | b | m (r : Nat) | f (rs : List Nat) | p (l : List Int) | c (j : Nat) (l : List Int)
  deriving DecidableEq

def Kd.eff : Kd → Bool
  | .e => true
  | .g => true
  | .f _ => true
  | _ => false
def Kd.isQ : Kd → Bool
  | .q => true
  | _ => false
def Kd.isL : Kd → Bool
  | .l => true
  | _ => false
def Kd.isB : Kd → Bool
  | .b => true
  | .p _ => true
  | .c _ _ => true
  | _ => false
def Kd.isP : Kd → Bool
  | .p _ => true
  | .c _ _ => true
  | _ => false
def bcN (n : Int) : List AV := [.v (.int .u8 n)]
/-- A row of bytes that is born here and marked by a conversion behind: nobody else touches it. -/
def pendOk (ops : Array Oper) (ks : List Kd) : Bool :=
  let A := ancs ops.toList []
  (List.range ops.size).all fun i => match ops[i]? with
    | none => true
    | some o => match ks.getD i .q with
      | .p l => o.guard.isNone && decide (0 < l.length) && (List.range ops.size).all fun j => i == j || match ops[j]? with
        | none => true
        | some q => !(match ks.getD j .q with | .p _ => true | _ => false) && (match o.dst, q.dst with | some d, some d' => !(d == d') | some _, none => true | none, _ => false)
      | .c j l => o.guard.isNone && decide (j < i) && (A.getD i []).contains j && (match ks.getD j .q with | .p l' => l' == l | _ => false) && ((List.range ops.size).all fun k => i == k || !(match ks.getD k .q with | .c _ _ => true | _ => false)) && match ops[j]? with
        | none => false
        | some q => match o.op, q.dst, q.op with
          | .convert s _ (.tmp d), some d', .buildSlice t _ _ => d == d' && s == t
          | _, _, _ => false
      | _ => true
/-- The conversion of a row of bytes to its own type. -/
def convT (P : Program) (o : Op) : Prop :=
  match o with
  | .convert s t _ => s = t ∧ (match P.underlying s with
    | some (.slice e) => P.underlying e = some (.int .u8)
    | _ => False)
  | _ => False
def Kd.isG : Kd → Bool
  | .g => true
  | _ => false

/-- The first loads out of a block that the second leaves alone. -/
def Kd.apart : Kd → Kd → Bool
  | .m r, .f s => s.contains r
  | _, _ => false

/-- The region's edges order whatever must be ordered. -/
def drawOk (ops : Array Oper) (ks : List Kd) : Bool :=
  let A := ancs ops.toList []
  let ord (i j : Nat) : Bool := ((A.getD i []).contains j && decide (j < i)) || ((A.getD j []).contains i && decide (i < j))
  pendOk ops ks && (ks.length == ops.size) &&
  (List.range ops.size).all fun i => match ops[i]? with
    | none => true
    | some o => let k := ks.getD i .q
      (dirs o).all (fun j => decide (j < i)) &&
      (List.range ops.size).all fun j => i == j || match ops[j]? with
        | none => true
        | some p => let m := ks.getD j .q
          (match p.dst with
          | some d => !(names ops o).contains d || ord i j
          | none => true) && (!m.eff || k.isB || (k.isQ && still o.op) || k.apart m || (k.isL && (m.isG || ((A.getD j []).contains i && decide (i < j)))) || (!k.isL && ord i j))

/-! ### the rule -/
/-- Whether the operation's guard lets it. -/
def lets (ops : Array Oper) (o : Oper) (T : Nat → AV) : Option Bool :=
  match o.guard with
  | none => some true
  | some (j, want) => match ayield ops T j with
    | some (some b) => some (b == want)
    | some none => some false
    | none => none

/-- A row that nobody will write. -/
def aborn (P : Program) (o : Op) (ρ : Operand → AV) (K : AV → Prop) : Prop :=
  match o with
  | .buildSlice t len parts => ∃ e sz, slI P t = some (e, sz) ∧ ∃ g z, tyI P e = some (sz, g, z) ∧ 0 < sz ∧ len * sz ≤ 16777216 ∧ ∃ es, bfill sz (List.replicate len z) (parts.toList.map fun p => (p.1, ρ p.2)) = some es ∧
      (if len = 0 then K .mt else K (.sl sz es))
  | _ => False

/-- The block that an address leads into; 999: none that is written. -/
def locOf : AV → Option Nat
  | .ptr r _ => some r
  | .rp r _ _ _ => some r
  | .cptr _ => some 999
  | _ => none
def locCv : AV → Option Nat
  | .v (.int _ _) => some 999
  | _ => none
/-- The block that an operation loads from. -/
def loadsOf (o : Op) (ρ : Operand → AV) : Option Nat :=
  match o with
  | .load _ x => locOf (ρ x)
  | .convert _ _ x => locCv (ρ x)
  | _ => none

theorem place_loc {H H2 : Heap} {a : AV} {r : Nat} (h : locOf a = some r) (he : H2[r]? = H[r]?) : place H2 a = place H a := by
  cases a <;> simp only [locOf, Option.some.injEq, reduceCtorEq] at h
  · subst h; simp only [place, he]
  · subst h; simp only [place, he]
  · simp only [place]
theorem aconv_int {P : Program} {src dst : TypeId} {k : IntKind} {n : Int} {H H2 : Heap} {v : AV} (h : aconv P src dst (.v (.int k n)) H fun v' H' => v' = v ∧ H' = H) : aconv P src dst (.v (.int k n)) H2 fun v' H' => v' = v ∧ H' = H2 := by
  unfold aconv at h ⊢
  split at h
  · exact h.elim
  · exact h.2.2.elim
  · obtain ⟨_, l, h1, _⟩ := h
    simp [elems] at h1
  · exact ⟨h.1, rfl⟩
  · obtain ⟨u, h1, r, h2, h3⟩ := h
    exact ⟨u, h1, r, h2, h3.1, rfl⟩
theorem aop_load {E : Env} {o : Op} {ty : TypeId} {ρ : Operand → AV} {H H2 : Heap} {v : AV} {r : Nat} (hs : loadsOf o ρ = some r) (he : H2[r]? = H[r]?) (h : aop E o ty ρ H fun v' H' => v' = v ∧ H' = H) : aop E o ty ρ H2 fun v' H' => v' = v ∧ H' = H2 := by
  cases o with
  | load t x =>
    simp only [aop, and_true] at h ⊢
    unfold aload at h ⊢
    rw [place_loc hs he]
    exact h
  | convert src dst x =>
    simp only [loadsOf] at hs
    simp only [aop] at h ⊢
    cases hx : ρ x with
    | v u =>
      rw [hx] at hs h
      cases u <;> simp [locCv] at hs
      exact aconv_int h
    | _ => rw [hx] at hs; cases hs
  | _ => cases hs

/-- The same blocks in two heaps. -/
def keepB : List Nat → Heap → Heap → Prop
  | [], _, _ => True
  | r :: rs, H1, H => H1[r]? = H[r]? ∧ keepB rs H1 H
theorem keepB_mem {H1 H : Heap} : ∀ {rs : List Nat}, keepB rs H1 H → ∀ r ∈ rs, H1[r]? = H[r]?
  | [], _, r, hr => absurd hr (by simp)
  | s :: rs, h, r, hr => by
    rcases List.mem_cons.1 hr with e | e
    · rw [e]; exact h.1
    · exact keepB_mem h.2 r e
/-- The operations, one behind the other. -/
def adraw (E : Env) (all : Array Oper) (H0 : Heap) : List Oper → List Kd → (Nat → AV) → Heap → ((Nat → AV) → Heap → Prop) → Prop
  | [], _, T, H, K => K T H
  | _ :: _, [], _, _, _ => False
  | o :: os, k :: ks, T, H, K =>
    match lets all o T with
    | some true => match k with
      | .q => ∃ v, aop E o.op o.type (ev E.gl T) H (fun v' H' => v' = v ∧ H' = H) ∧ adraw E all H0 os ks (aput T o.dst v) H K
      | .l => ∃ v, (∀ L, aop E o.op o.type (ev E.gl T) (H0 ++ L) (fun v' H' => v' = v ∧ H' = H0 ++ L)) ∧ adraw E all H0 os ks (aput T o.dst v) H K
      | .b => ∃ v, aborn E.P o.op (ev E.gl T) (fun v' => v' = v) ∧ adraw E all H0 os ks (aput T o.dst v) H K
      | .g => ∃ v B, aop E o.op o.type (ev E.gl T) H (fun v' H' => v' = v ∧ H' = H ++ [B]) ∧ adraw E all H0 os ks (aput T o.dst v) (H ++ [B]) K
      | .e => ∃ v H1, aop E o.op o.type (ev E.gl T) H (fun v' H' => v' = v ∧ H' = H1) ∧ adraw E all H0 os ks (aput T o.dst v) H1 K
      | .m r => loadsOf o.op (ev E.gl T) = some r ∧ ∃ v, aop E o.op o.type (ev E.gl T) H (fun v' H' => v' = v ∧ H' = H) ∧ adraw E all H0 os ks (aput T o.dst v) H K
      | .f r => ∃ v H1, aop E o.op o.type (ev E.gl T) H (fun v' H' => v' = v ∧ H' = H1) ∧ keepB r H1 H ∧ adraw E all H0 os ks (aput T o.dst v) H1 K
      | .p l => aborn E.P o.op (ev E.gl T) (fun v' => v' = .sl 1 (l.map bcN)) ∧ adraw E all H0 os ks (aput T o.dst .any) H K
      | .c _ l => convT E.P o.op ∧ adraw E all H0 os ks (aput T o.dst (.sl 1 (l.map bcN))) H K
    | some false => adraw E all H0 os ks (aput T o.dst (.v undef)) H K
    | none => False

theorem aop_congr {E : Env} {o : Op} {ty : TypeId} {ρ ρ' : Operand → AV} {H : Heap} {K : AV → Heap → Prop} (h : ∀ x ∈ o.operands, ρ x = ρ' x) : aop E o ty ρ H K = aop E o ty ρ' H K := by
  have e : ∀ (l : List Operand), (∀ x ∈ l, ρ x = ρ' x) → l.map ρ = l.map ρ' := fun l hl => List.map_congr_left hl
  have eo : ∀ (x : Option Operand), (∀ y ∈ x.toArray, ρ y = ρ' y) → x.map ρ = x.map ρ' := by
    intro x hx
    cases x with
    | none => rfl
    | some y => simp at hx; simp [hx]
  have e2 : ∀ (l : List (Nat × Operand)), (∀ x ∈ l, ρ x.2 = ρ' x.2) → (l.map fun p => (p.1, ρ p.2)) = l.map fun p => (p.1, ρ' p.2) := fun l hl => List.map_congr_left fun p hp => by rw [hl p hp]
  cases o with
  | move x | assign x | box t x | load t x | nilCheck x | unOp op t x | convert s d x | fieldAddr t x f | field t x f | extract x i | range t x | next x s | entry x => simp only [aop, h x (by simp [Op.operands])]
  | pick c x y => simp only [aop, h c (by simp [Op.operands]), h x (by simp [Op.operands]), h y (by simp [Op.operands])]
  | makeMap t r =>
    simp only [aop]
    rw [eo r (fun y hy => h y (by simp only [Op.operands]; exact hy))]
  | mapUpdate t x k y => simp only [aop, h x (by simp [Op.operands]), h k (by simp [Op.operands]), h y (by simp [Op.operands])]
  | store t x y | binOp op t x y u | makeSlice t x y | indexAddr t x y | index t x y | lookup t x y c => simp only [aop, h x (by simp [Op.operands]), h y (by simp [Op.operands])]
  | build t ps | buildSlice t n ps =>
    simp only [aop]
    rw [e2 ps.toList (fun p hp => h p.2 (by simp only [Op.operands, List.mem_toArray, List.mem_map]; exact ⟨p, hp, rfl⟩))]
  | makeFunc f a b =>
    cases f <;> simp only [aop]
    rw [e a.toList (fun x hx => h x (by simp [Op.operands]; exact .inl (by simpa using hx))), e b.toList (fun x hx => h x (by simp [Op.operands]; exact .inr (by simpa using hx)))]
  | slice t x lo hi mx =>
    simp only [aop]
    rw [h x (by simp [Op.operands]), eo lo (fun y hy => h y (by simp [Op.operands]; simp at hy; simp [hy])), eo hi (fun y hy => h y (by simp [Op.operands]; simp at hy; simp [hy])), eo mx (fun y hy => h y (by simp [Op.operands]; simp at hy; simp [hy]))]
  | call c =>
    obtain ⟨callee, args, ts⟩ := c
    have ha := e args.toList (fun x hx => h x (by simp [Op.operands, Call.operands]; exact .inr (by simpa using hx)))
    cases callee with
    | builtin b => show abuiltin _ _ _ _ _ _ _ = abuiltin _ _ _ _ _ _ _; rw [ha]
    | invoke x m => rfl
    | value f =>
      show (match ρ f with | .fn g first caps => acallF E g (first ++ args.toList.map ρ ++ caps) H K | _ => False) = (match ρ' f with | .fn g first caps => acallF E g (first ++ args.toList.map ρ' ++ caps) H K | _ => False)
      rw [ha, h f (by simp [Op.operands, Call.operands])]
  | _ => rfl

theorem aop_quiet {E : Env} {o : Op} {ty : TypeId} {ρ : Operand → AV} {H H2 : Heap} {v : AV} (hs : still o = true) (h : aop E o ty ρ H fun v' H' => v' = v ∧ H' = H) : aop E o ty ρ H2 fun v' H' => v' = v ∧ H' = H2 := by
  have e : ∀ (H : Heap), (fun v' => v' = v ∧ H = H) = fun v' => v' = v := fun H => by funext v'; simp
  cases o with
  | move x | assign x => exact ⟨h.1, rfl⟩
  | nilCheck x => exact ⟨h.1, h.2.1, rfl⟩
  | pick c x y =>
    simp only [aop] at h ⊢
    exact h
  | build t ps =>
    simp only [aop] at h ⊢
    exact h
  | binOp op t x y u => simp only [aop] at h ⊢; exact h
  | unOp op t x => simp only [aop, and_true] at h ⊢; exact h
  | makeFunc f a b => cases f <;> simp only [aop, and_true] at h ⊢ <;> exact h
  | slice t x lo hi mx => simp only [aop] at h ⊢; exact h
  | fieldAddr t x f => simp only [aop] at h ⊢; exact h
  | field t x f => simp only [aop] at h ⊢; exact h
  | indexAddr t x y => simp only [aop] at h ⊢; exact h
  | index t x y => simp only [aop] at h ⊢; exact h
  | extract x i => simp only [aop, and_true] at h ⊢; exact h
  | _ => cases hs

theorem aborn_congr {P : Program} {o : Op} {ρ ρ' : Operand → AV} {K : AV → Prop} (h : ∀ x ∈ o.operands, ρ x = ρ' x) : aborn P o ρ K = aborn P o ρ' K := by
  cases o with
  | buildSlice t n ps =>
    have e2 : (ps.toList.map fun p => (p.1, ρ p.2)) = ps.toList.map fun p => (p.1, ρ' p.2) := List.map_congr_left fun p hp => by
      rw [h p.2 (by simp only [Op.operands, List.mem_toArray, List.mem_map]; exact ⟨p, hp, rfl⟩)]
    simp only [aborn, e2]
  | _ => rfl

/-- The slots, when those of S among the first m have had their turn. -/
def Tof (ops : Array Oper) (T : Nat → AV) (v : Nat → AV) (S : Nat → Bool) : Nat → Nat → AV
  | 0 => T
  | m + 1 => if S m then aput (Tof ops T v S m) ((ops[m]?).bind (·.dst)) (v m) else Tof ops T v S m

theorem aput_at (T : Nat → AV) (d : Option Tmp) (v : AV) (t : Nat) : aput T d v t = if d = some t then v else T t := by
  cases d with
  | none => rfl
  | some d =>
    simp only [aput, put, Option.some.injEq]
    by_cases h : t = d
    · subst h; simp
    · rw [if_neg h, if_neg (fun e => h e.symm)]

theorem Tof_agree {ops : Array Oper} {T v : Nat → AV} {S S2 : Nat → Bool} {t : Nat} : ∀ (m : Nat), (∀ j, j < m → (ops[j]?).bind (·.dst) = some t → S j = S2 j) → Tof ops T v S m t = Tof ops T v S2 m t
  | 0, _ => rfl
  | m + 1, h => by
    have ih := Tof_agree (T := T) (v := v) m (fun j hj hd => h j (by omega) hd)
    unfold Tof
    by_cases hd : (ops[m]?).bind (·.dst) = some t
    · rw [h m (by omega) hd]
      split
      · rw [aput_at, aput_at, if_pos hd, if_pos hd]
      · exact ih
    · split <;> split
      · rw [aput_at, aput_at, if_neg hd, if_neg hd]; exact ih
      · rw [aput_at, if_neg hd]; exact ih
      · rw [aput_at, if_neg hd]; exact ih
      · exact ih

theorem Tof_stop {ops : Array Oper} {T v : Nat → AV} {i : Nat} : ∀ (m : Nat), i ≤ m → Tof ops T v (fun j => decide (j < i)) m = Tof ops T v (fun j => decide (j < i)) i
  | 0, h => by rw [Nat.le_zero.1 h]
  | m + 1, h => by
    by_cases he : i = m + 1
    · rw [he]
    · have : ¬ m < i := by omega
      conv => lhs; unfold Tof
      simp only [this, decide_false, Bool.false_eq_true, if_false]
      exact Tof_stop m (by omega)

theorem Tof_eq {ops : Array Oper} {T v v2 : Nat → AV} {S S2 : Nat → Bool} : ∀ (m : Nat), (∀ j, j < m → S j = S2 j ∧ v j = v2 j) → Tof ops T v S m = Tof ops T v2 S2 m
  | 0, _ => rfl
  | m + 1, h => by
    unfold Tof
    rw [Tof_eq m (fun j hj => h j (by omega)), (h m (by omega)).1, (h m (by omega)).2]

/-- What an operation of its kind does, from X to X'. -/
def RunAt (E : Env) (k : Kd) (o : Oper) (ρ : Operand → AV) (x : AV) (X X' : Heap) : Prop :=
  match k with
  | .b => X' = X ∧ aborn E.P o.op ρ (fun v' => v' = x)
  | .p l => X' = X ∧ x = .any ∧ aborn E.P o.op ρ (fun v' => v' = .sl 1 (l.map bcN))
  | .c _ l => X' = X ∧ x = .sl 1 (l.map bcN) ∧ convT E.P o.op
  | _ => aop E o.op o.type ρ X (fun v' H' => v' = x ∧ H' = X')

/-- What holds of operation j in its place. -/
def Fact (E : Env) (ops : Array Oper) (ks : List Kd) (T : Nat → AV) (v : Nat → AV) (hp : Nat → Heap) (j : Nat) (o : Oper) : Prop :=
  ((ks.getD j .q).eff = false → hp (j + 1) = hp j) ∧ (((ks.getD j .q).isG = true → ∃ L, hp (j + 1) = hp j ++ L) ∧ ∀ s, ks.getD j .q = .f s → ∀ r ∈ s, (hp (j + 1))[r]? = (hp j)[r]?) ∧ ∃ r, lets ops o (Tof ops T v (fun q => decide (q < j)) j) = some r ∧
    (r = true → (∀ s, ks.getD j .q = .m s → loadsOf o.op (ev E.gl (Tof ops T v (fun q => decide (q < j)) j)) = some s) ∧ if (ks.getD j .q).isL then ∀ L, RunAt E (ks.getD j .q) o (ev E.gl (Tof ops T v (fun q => decide (q < j)) j)) (v j) (hp 0 ++ L) (hp 0 ++ L)
      else RunAt E (ks.getD j .q) o (ev E.gl (Tof ops T v (fun q => decide (q < j)) j)) (v j) (hp j) (hp (j + 1))) ∧ (r = false → v j = .v undef ∧ hp (j + 1) = hp j)

/-- What the operations one behind the other give. -/
theorem adraw_out {E : Env} {ops : Array Oper} {ks : List Kd} {T : Nat → AV} {K : (Nat → AV) → Heap → Prop} {H0 : Heap} : ∀ (l : List Oper) (i : Nat) (v0 : Nat → AV) (h0 : Nat → Heap), i ≤ ops.size → ops.toList.drop i = l → h0 0 = H0 →
    adraw E ops H0 l (ks.drop i) (Tof ops T v0 (fun j => decide (j < i)) i) (h0 i) K →
    ∃ (v : Nat → AV) (hp : Nat → Heap), (∀ j, j < i → v j = v0 j) ∧ (∀ j, j ≤ i → hp j = h0 j) ∧ K (Tof ops T v (fun j => decide (j < ops.size)) ops.size) (hp ops.size) ∧
      ∀ j o, i ≤ j → ops[j]? = some o → Fact E ops ks T v hp j o
  | [], i, v0, h0, hi, hl, hh0, h => by
    have hle : i = ops.size := by
      have := congrArg List.length hl
      simp at this
      omega
    unfold adraw at h
    refine ⟨v0, h0, fun _ _ => rfl, fun _ _ => rfl, by rw [← hle]; exact h, fun j o hj ho => ?_⟩
    have := (Array.getElem?_eq_some_iff.1 ho).1
    omega
  | o :: l, i, v0, h0, hi, hl, hh0, h => by
    have hlt : i < ops.size := by
      have := congrArg List.length hl
      simp at this
      omega
    have ho : ops[i]? = some o := by
      have : (ops.toList.drop i)[0]? = some o := by rw [hl]; rfl
      simpa using this
    have hnext : ops.toList.drop (i + 1) = l := by
      rw [← List.drop_drop, hl]
      rfl
    generalize hkd : ks.drop i = kd at h
    match kd, h with
    | [], h => unfold adraw at h; exact h.elim
    | k :: kr, h =>
    have hki : ks.getD i .q = k := by
      have : (ks.drop i)[0]? = some k := by rw [hkd]; rfl
      rw [List.getElem?_drop, Nat.add_zero] at this
      rw [List.getD_eq_getElem?_getD, this]
      rfl
    have hkn : ks.drop (i + 1) = kr := by
      rw [← List.drop_drop, hkd]
      rfl
    subst hkn
    have go : ∀ (x : AV) (H1 : Heap), adraw E ops H0 l (ks.drop (i + 1)) (aput (Tof ops T v0 (fun j => decide (j < i)) i) o.dst x) H1 K →
        (k.eff = false → H1 = h0 i) → ((k.isG = true → ∃ L, H1 = h0 i ++ L) ∧ ∀ s, k = .f s → ∀ r ∈ s, H1[r]? = (h0 i)[r]?) → (∃ r, lets ops o (Tof ops T v0 (fun q => decide (q < i)) i) = some r ∧
          (r = true → (∀ s, k = .m s → loadsOf o.op (ev E.gl (Tof ops T v0 (fun q => decide (q < i)) i)) = some s) ∧ if k.isL then ∀ L, RunAt E k o (ev E.gl (Tof ops T v0 (fun q => decide (q < i)) i)) x (H0 ++ L) (H0 ++ L)
            else RunAt E k o (ev E.gl (Tof ops T v0 (fun q => decide (q < i)) i)) x (h0 i) H1) ∧ (r = false → x = .v undef ∧ H1 = h0 i)) →
        ∃ (v : Nat → AV) (hp : Nat → Heap), (∀ j, j < i → v j = v0 j) ∧ (∀ j, j ≤ i → hp j = h0 j) ∧ K (Tof ops T v (fun j => decide (j < ops.size)) ops.size) (hp ops.size) ∧
          ∀ j o, i ≤ j → ops[j]? = some o → Fact E ops ks T v hp j o := by
      intro x H1 h1 h2 h2g h3
      have hT : aput (Tof ops T v0 (fun j => decide (j < i)) i) o.dst x = Tof ops T (fun j => if j = i then x else v0 j) (fun j => decide (j < i + 1)) (i + 1) := by
        conv => rhs; unfold Tof
        simp only [Nat.lt_succ_self, decide_true, if_true, ho, Option.bind_some]
        rw [Tof_eq (v2 := fun j => if j = i then x else v0 j) (S2 := fun j => decide (j < i + 1)) i (fun j hj => ⟨by simp; omega, by rw [if_neg (by omega)]⟩)]
      rw [hT] at h1
      have h1' : adraw E ops H0 l (ks.drop (i + 1)) (Tof ops T (fun j => if j = i then x else v0 j) (fun j => decide (j < i + 1)) (i + 1)) ((fun j => if j = i + 1 then H1 else h0 j) (i + 1)) K := by simpa using h1
      obtain ⟨v, hp, k1, k2, k3, k4⟩ := adraw_out l (i + 1) _ (fun j => if j = i + 1 then H1 else h0 j) (by omega) hnext (by simpa using hh0) h1'
      have kv : ∀ j, j < i → v j = v0 j := fun j hj => by rw [k1 j (by omega), if_neg (by omega)]
      have kh : ∀ j, j ≤ i → hp j = h0 j := fun j hj => by rw [k2 j (by omega), if_neg (by omega)]
      have kvi : v i = x := by rw [k1 i (by omega), if_pos rfl]
      have khi : hp (i + 1) = H1 := by rw [k2 (i + 1) (Nat.le_refl _), if_pos rfl]
      refine ⟨v, hp, kv, kh, k3, fun j o' hj ho' => ?_⟩
      by_cases hji : j = i
      · subst hji
        rw [ho] at ho'
        cases ho'
        have hTi : Tof ops T v (fun q => decide (q < j)) j = Tof ops T v0 (fun q => decide (q < j)) j := Tof_eq j (fun q hq => ⟨rfl, kv q hq⟩)
        unfold Fact
        rw [hTi, kvi, khi, kh j (Nat.le_refl _), kh 0 (Nat.zero_le _), hh0, hki]
        exact ⟨h2, h2g, h3⟩
      · exact k4 j o' (by omega) ho'
    unfold adraw at h
    split at h
    · next hr =>
      cases k with
      | q =>
        obtain ⟨x, h1, h2⟩ := h
        exact go x _ h2 (fun _ => rfl) ⟨fun hh => (by cases hh), fun s hh => (by cases hh)⟩ ⟨true, hr, fun _ => ⟨fun s hh => (by cases hh), h1⟩, fun hh => by cases hh⟩
      | l =>
        obtain ⟨x, h1, h2⟩ := h
        exact go x _ h2 (fun _ => rfl) ⟨fun hh => (by cases hh), fun s hh => (by cases hh)⟩ ⟨true, hr, fun _ => ⟨fun s hh => (by cases hh), h1⟩, fun hh => by cases hh⟩
      | b =>
        obtain ⟨x, h1, h2⟩ := h
        exact go x _ h2 (fun _ => rfl) ⟨fun hh => (by cases hh), fun s hh => (by cases hh)⟩ ⟨true, hr, fun _ => ⟨fun s hh => (by cases hh), rfl, h1⟩, fun hh => by cases hh⟩
      | g =>
        obtain ⟨x, B, h1, h2⟩ := h
        exact go x _ h2 (fun hh => by cases hh) ⟨fun _ => ⟨_, rfl⟩, fun s hh => (by cases hh)⟩ ⟨true, hr, fun _ => ⟨fun s hh => (by cases hh), h1⟩, fun hh => by cases hh⟩
      | e =>
        obtain ⟨x, H1, h1, h2⟩ := h
        exact go x _ h2 (fun hh => by cases hh) ⟨fun hh => (by cases hh), fun s hh => (by cases hh)⟩ ⟨true, hr, fun _ => ⟨fun s hh => (by cases hh), h1⟩, fun hh => by cases hh⟩
      | m r =>
        obtain ⟨h3, x, h1, h2⟩ := h
        exact go x _ h2 (fun _ => rfl) ⟨fun hh => (by cases hh), fun s hh => (by cases hh)⟩ ⟨true, hr, fun _ => ⟨fun s hh => (by cases hh; exact h3), h1⟩, fun hh => by cases hh⟩
      | f r =>
        obtain ⟨x, H1, h1, h3, h2⟩ := h
        exact go x _ h2 (fun hh => by cases hh) ⟨fun hh => (by cases hh), fun s hh => (by cases hh; exact keepB_mem h3)⟩ ⟨true, hr, fun _ => ⟨fun s hh => (by cases hh), h1⟩, fun hh => by cases hh⟩
      | p l =>
        obtain ⟨h1, h2⟩ := h
        exact go _ _ h2 (fun _ => rfl) ⟨fun hh => (by cases hh), fun s hh => (by cases hh)⟩ ⟨true, hr, fun _ => ⟨fun s hh => (by cases hh), rfl, rfl, h1⟩, fun hh => by cases hh⟩
      | c j l =>
        obtain ⟨h1, h2⟩ := h
        exact go _ _ h2 (fun _ => rfl) ⟨fun hh => (by cases hh), fun s hh => (by cases hh)⟩ ⟨true, hr, fun _ => ⟨fun s hh => (by cases hh), rfl, rfl, h1⟩, fun hh => by cases hh⟩
    · next hr => exact go (.v undef) (h0 i) h (fun _ => rfl) ⟨fun _ => ⟨[], by simp⟩, fun _ _ _ _ => rfl⟩ ⟨false, hr, fun hh => (by cases hh), fun _ => ⟨rfl, rfl⟩⟩
    · exact h.elim
end Go.Am
