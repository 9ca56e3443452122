/- Timers: the map of the keys, plain; the state of Timers. No condition. -/
import Derived.Test.YtmafdnbdaaedgaaYQg
import Derived.Test.YtmafdnbdaaedgaaYb1
set_option linter.unusedSectionVars false
set_option linter.unusedVariables false
set_option linter.unusedSimpArgs false
set_option linter.deprecated false
namespace Go.Proofs.Ytmafdnbdaaedgaa
open Go.RowKit Go.Cx Go.Am
def pv (x : Nat) : AV := .ptr x 0
structure Ms (m : List (Int × Nat)) (p : List It) : Prop where
  perm : m.Perm (p.map fun a => (a.2.1, a.1))
  nd : (p.map (·.2.1)).Nodup
theorem mfind_of {α : Type} {m : List (Int × α)} (nd : (m.map (·.1)).Nodup) {k : Int} {a : α} (h : (k, a) ∈ m) : mfind m k = some a := by
  unfold mfind
  induction m with
  | nil => cases h
  | cons x m ih =>
    rw [List.map_cons, List.nodup_cons] at nd
    rcases List.mem_cons.1 h with h | h
    · subst h
      simp
    · have : (x.1 == k) = false := by
        apply beq_eq_false_iff_ne.2
        intro e
        exact nd.1 (List.mem_map.2 ⟨_, h, e.symm⟩)
      rw [List.find?_cons_of_neg (by simpa using this)]
      exact ih nd.2 h
theorem mfind_no {α : Type} {m : List (Int × α)} {k : Int} (h : k ∉ m.map (·.1)) : mfind m k = none := by
  unfold mfind
  rw [List.find?_eq_none.2]
  · rfl
  · intro x hx hh
    exact h (List.mem_map.2 ⟨x, hx, by simpa using hh⟩)
section
variable {m : List (Int × Nat)} {p : List It}
theorem Ms.keys (h : Ms m p) : (m.map (·.1)).Perm (p.map (·.2.1)) := by
  have := h.perm.map (·.1)
  rw [List.map_map] at this
  exact this
theorem Ms.ndm (h : Ms m p) : (m.map (·.1)).Nodup := (h.keys.nodup_iff).2 h.nd
theorem Ms.none (h : Ms m p) {key : Int} (hk : key ∉ p.map (·.2.1)) : mfind m key = none := mfind_no fun hh => hk (h.keys.mem_iff.1 hh)
theorem Ms.some (h : Ms m p) {a : It} (ha : a ∈ p) : mfind m a.2.1 = some a.1 := mfind_of h.ndm (h.perm.mem_iff.2 (List.mem_map.2 ⟨a, ha, rfl⟩))
theorem Ms.put (h : Ms m p) {p' : List It} {a : It} (hk : a.2.1 ∉ p.map (·.2.1)) (hp : p'.Perm (a :: p)) : Ms (mput m a.2.1 a.1) p' := by
  have e : kAt (m.map (·.1)) a.2.1 = Option.none := by
    cases hh : kAt (m.map (·.1)) a.2.1 with
    | none => rfl
    | some i => exact absurd (h.keys.mem_iff.1 (List.mem_of_getElem? (kAt_some hh).2)) hk
  unfold mput
  rw [e]
  refine ⟨?_, ?_⟩
  · refine (List.perm_append_comm (l₁ := m) (l₂ := [(a.2.1, a.1)])).trans (.trans ?_ (hp.map _).symm)
    exact h.perm.cons _
  · rw [(hp.map _).nodup_iff, List.map_cons, List.nodup_cons]
    exact ⟨hk, h.nd⟩
theorem Ms.del (h : Ms m p) {p' : List It} {a : It} (hp : p.Perm (a :: p')) : Ms (mdel m a.2.1) p' := by
  have hm : (a.2.1, a.1) ∈ m := h.perm.mem_iff.2 (List.mem_map.2 ⟨a, hp.mem_iff.2 (List.mem_cons_self ..), rfl⟩)
  cases e : kAt (m.map (·.1)) a.2.1 with
  | none => exact absurd (List.mem_map.2 ⟨_, hm, rfl⟩) (kAt_none e)
  | some i =>
    obtain ⟨x, h1, h2⟩ := mfind_some e
    rw [mfind_of h.ndm hm] at h2
    cases h2
    unfold mdel
    rw [e]
    refine ⟨?_, ?_⟩
    · exact List.Perm.cons_inv (((perm_erase h1).symm.trans h.perm).trans (hp.map _))
    · have := ((hp.map (·.2.1)).nodup_iff).1 h.nd
      rw [List.map_cons, List.nodup_cons] at this
      exact this.2
end
/-- Timers' own blocks. -/
def Ow (b c q : Nat) (p : List It) (k : Nat) : Prop := k = b ∨ k = c ∨ k = q ∨ k ∈ p.map (·.1)
structure Tz (H : Heap) (b c q : Nat) (m : List (Int × Nat)) (p : List It) (Z : List (List AV)) : Prop where
  th : Th H b c q p Z
  hp : Hp p p.length
  mp : H[c]? = some (some (mB pv m))
  ms : Ms m p
structure Fw (H : Heap) (b c q : Nat) (p : List It) (H' : Heap) (q' : Nat) (p' : List It) : Prop where
  len : H.length ≤ H'.length
  keep : ∀ k, k < H.length → ¬ Ow b c q p k → H'[k]? = H[k]?
  own : ∀ k, Ow b c q' p' k → k < H.length → Ow b c q p k
section
variable {H H' H2 : Heap} {b c q q' q2 : Nat} {m : List (Int × Nat)} {p p' p2 : List It} {Z : List (List AV)}
theorem Fw.rfl' : Fw H b c q p H q p := ⟨Nat.le_refl _, fun _ _ _ => rfl, fun _ h _ => h⟩
theorem Fw.trans (h : Fw H b c q p H' q' p') (g : Fw H' b c q' p' H2 q2 p2) : Fw H b c q p H2 q2 p2 :=
  ⟨Nat.le_trans h.len g.len, fun k hk hn => (g.keep k (by have := h.len; omega) (fun e => hn (h.own k e hk))).trans (h.keep k hk hn), fun k hk hl => h.own k (g.own k hk (by have := h.len; omega)) hl⟩
theorem Th.lt (h : Th H b c q p Z) : b < H.length ∧ q < H.length ∧ ∀ k, k ∈ p.map (·.1) → k < H.length := by
  rcases h with T | ⟨rfl, rfl, hB⟩
  · refine ⟨(List.getElem?_eq_some_iff.1 T.o).1, (List.getElem?_eq_some_iff.1 T.row).1, fun k hk => ?_⟩
    obtain ⟨a, ha, rfl⟩ := List.mem_map.1 hk
    obtain ⟨i, hi, rfl⟩ := List.getElem_of_mem ha
    have := (List.getElem?_eq_some_iff.1 (T.it i hi)).1
    rwa [at3_eq hi] at this
  · exact ⟨(List.getElem?_eq_some_iff.1 hB).1, (List.getElem?_eq_some_iff.1 hB).1, fun k hk => by cases hk⟩
theorem Tz.lt (h : Tz H b c q m p Z) {k : Nat} (hk : Ow b c q p k) : k < H.length := by
  rcases hk with rfl | rfl | rfl | hk
  · exact h.th.lt.1
  · exact (List.getElem?_eq_some_iff.1 h.mp).1
  · exact h.th.lt.2.1
  · exact h.th.lt.2.2 k hk
theorem Th.keep (h : Th H b c q p Z) (hk : ∀ k, k = b ∨ k = q ∨ k ∈ p.map (·.1) → H'[k]? = H[k]?) : Th H' b c q p Z := by
  rcases h with T | ⟨e1, e2, hB⟩
  · refine .inl ⟨by rw [hk b (.inl rfl)]; exact T.o, by rw [hk q (.inr (.inl rfl))]; exact T.row, fun i hi => ?_, T.nd⟩
    rw [hk _ (.inr (.inr (List.mem_map.2 ⟨_, at3_mem hi, rfl⟩)))]
    exact T.it i hi
  · exact .inr ⟨e1, e2, by rw [hk b (.inl rfl)]; exact hB⟩
theorem Tz.keep (h : Tz H b c q m p Z) (hk : ∀ k, Ow b c q p k → H'[k]? = H[k]?) : Tz H' b c q m p Z :=
  ⟨h.th.keep fun k e => hk k (by rcases e with e | e | e <;> unfold Ow <;> simp [e]), h.hp, by rw [hk c (.inr (.inl rfl))]; exact h.mp, h.ms⟩
theorem Tz.nc (h : Tz H b c q m p Z) : c ≠ b ∧ c ≠ q ∧ c ∉ p.map (·.1) := by
  have hm := h.mp
  rcases h.th with T | ⟨rfl, rfl, hB⟩
  · refine ⟨fun e => ?_, fun e => ?_, fun hk => ?_⟩
    · rw [e, T.o] at hm
      unfold mB at hm
      cases hm
    · rw [e, T.row] at hm
      unfold mB at hm
      cases hm
    · obtain ⟨a, ha, e⟩ := List.mem_map.1 hk
      obtain ⟨i, hi, rfl⟩ := List.getElem_of_mem ha
      have := T.it i hi
      rw [at3_eq hi, e, hm] at this
      unfold mB itO at this
      cases this
  · refine ⟨fun e => ?_, fun e => ?_, fun hk => by cases hk⟩
    · rw [e, hB] at hm
      unfold mB at hm
      cases hm
    · rw [e, hB] at hm
      unfold mB at hm
      cases hm
/-- The map is written. -/
theorem Th.setc (h : Th H b c q p Z) {B : Option Blk} (n : c ≠ b ∧ c ≠ q ∧ c ∉ p.map (·.1)) : Th (H.set c B) b c q p Z :=
  h.keep fun k hk => List.getElem?_set_ne fun e => by
    rcases hk with hk | hk | hk
    · exact n.1 (e.trans hk)
    · exact n.2.1 (e.trans hk)
    · exact n.2.2 (e ▸ hk)
end
end Go.Proofs.Ytmafdnbdaaedgaa
