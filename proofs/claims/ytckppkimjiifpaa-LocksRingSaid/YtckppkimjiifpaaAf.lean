/- The abstract machine: rows that nobody writes any more; blocks that are left behind. No condition. -/
import Derived.Test.YtckppkimjiifpaaAt
set_option linter.unusedSectionVars false
set_option linter.unusedVariables false
set_option linter.unusedSimpArgs false
set_option linter.deprecated false
namespace Go.Am
open Go.RowKit Go.Cx

mutual
/-- Names below n alone. -/
def nb (n : Nat) : AV → Prop
  | .any => True
  | .v _ => True
  | .mt => True
  | .sl _ es => nbss n es
  | .hs r _ _ _ => r < n
  | .os r _ _ _ => r < n
  | .ptr r _ => r < n
  | .rp r _ _ _ => r < n
  | .cptr cs => nbs n cs
  | .agg cs => nbs n cs
  | .tup vs => nbs n vs
  | .fn _ a b => nbs n a ∧ nbs n b
  | .mp r => r < n
  | .ifp _ r _ => r < n
def nbs (n : Nat) : List AV → Prop
  | [] => True
  | a :: as => nb n a ∧ nbs n as
def nbss (n : Nat) : List (List AV) → Prop
  | [] => True
  | e :: es => nbs n e ∧ nbss n es
end

def nbB (n : Nat) : Blk → Prop
  | .obj cs => nbs n cs
  | .row _ _ es => nbss n es
  | .map _ vs _ => nbs n vs
  | .iter m _ _ _ => m < n

theorem nbs_iff {n : Nat} : ∀ {l : List AV}, nbs n l ↔ ∀ a ∈ l, nb n a
  | [] => by simp [nbs]
  | a :: l => by unfold nbs; rw [nbs_iff (l := l)]; simp
theorem nbss_iff {n : Nat} : ∀ {l : List (List AV)}, nbss n l ↔ ∀ e ∈ l, nbs n e
  | [] => by simp [nbss]
  | a :: l => by unfold nbss; rw [nbss_iff (l := l)]; simp
theorem nbss_map {α : Type} {n : Nat} {f : α → List AV} (h : ∀ x, nbs n (f x)) (l : List α) : nbss n (l.map f) := by
  rw [nbss_iff]
  intro e he
  obtain ⟨x, _, rfl⟩ := List.mem_map.1 he
  exact h x
theorem nbs_bcl {n : Nat} (b : UInt8) : nbs n (bcl b) := by simp [bcl, nbs, nb]
theorem nbss_bytes {n : Nat} (l : List UInt8) : nbss n (l.map bcl) := nbss_map nbs_bcl l

section
variable {M : Mem} {n n' : Nat} {w : World}
mutual
theorem VR.nbOf : ∀ {a : AV} {u : Value}, VR M n w a u → nb n a
  | .any, _, _ => trivial
  | .v _, _, _ => trivial
  | .mt, _, _ => trivial
  | .sl sz es, u, h => by unfold VR at h; unfold nb; obtain ⟨_, _, _, _, h2, _⟩ := h; exact VRss.nbOf h2
  | .hs .., u, h => by unfold VR at h; unfold nb; exact h.1
  | .os .., u, h => by unfold VR at h; unfold nb; exact h.1
  | .ptr .., u, h => by unfold VR at h; unfold nb; exact h.1
  | .rp .., u, h => by unfold VR at h; unfold nb; exact h.1
  | .cptr cs, u, h => by unfold VR at h; unfold nb; obtain ⟨_, _, _, _, _, h2, _⟩ := h; exact VRs.nbOf h2
  | .agg cs, u, h => by unfold VR at h; unfold nb; obtain ⟨_, _, h2⟩ := h; exact VRs.nbOf h2
  | .tup cs, u, h => by unfold VR at h; unfold nb; obtain ⟨_, _, h2⟩ := h; exact VRt.nbOf h2
  | .fn _ a b, u, h => by unfold VR at h; unfold nb; obtain ⟨_, _, _, h2, h3⟩ := h; exact ⟨VRt.nbOf h2, VRt.nbOf h3⟩
  | .mp .., u, h => by unfold VR at h; unfold nb; exact h.1
  | .ifp .., u, h => by unfold VR at h; unfold nb; exact h.1
theorem VRs.nbOf : ∀ {as : List AV} {us : List Value}, VRs M n w as us → nbs n as
  | [], _, _ => by unfold nbs; trivial
  | a :: as, us, h => by unfold VRs at h; unfold nbs; obtain ⟨_, _, _, _, h2, h3⟩ := h; exact ⟨VR.nbOf h2, VRs.nbOf h3⟩
theorem VRt.nbOf : ∀ {as : List AV} {us : List Value}, VRt M n w as us → nbs n as
  | [], _, _ => by unfold nbs; trivial
  | a :: as, us, h => by unfold VRt at h; unfold nbs; obtain ⟨_, _, _, h2, h3⟩ := h; exact ⟨VR.nbOf h2, VRt.nbOf h3⟩
theorem VRss.nbOf {sz : Nat} : ∀ {es : List (List AV)} {us : List Value}, VRss M n w sz es us → nbss n es
  | [], _, _ => by unfold nbss; trivial
  | a :: as, us, h => by unfold VRss at h; unfold nbss; obtain ⟨_, _, _, _, h2, h3⟩ := h; exact ⟨VRs.nbOf h2, VRss.nbOf h3⟩
end
mutual
theorem VR.down : ∀ {a : AV} {u : Value}, nb n' a → VR M n w a u → VR M n' w a u
  | .any, _, _, _ => trivial
  | .v _, _, _, h => h
  | .mt, _, _, h => by unfold VR at h ⊢; exact h
  | .sl sz es, u, k, h => by unfold VR at h ⊢; unfold nb at k; obtain ⟨h1, h2, h3, h4, h5, h6⟩ := h; exact ⟨h1, h2, h3, h4, VRss.down k h5, h6⟩
  | .hs .., u, k, h => by unfold VR at h ⊢; unfold nb at k; exact ⟨k, h.2⟩
  | .os .., u, k, h => by unfold VR at h ⊢; unfold nb at k; exact ⟨k, h.2⟩
  | .ptr .., u, k, h => by unfold VR at h ⊢; unfold nb at k; exact ⟨k, h.2⟩
  | .rp .., u, k, h => by unfold VR at h ⊢; unfold nb at k; exact ⟨k, h.2⟩
  | .cptr cs, u, k, h => by unfold VR at h ⊢; unfold nb at k; obtain ⟨h1, h2, h3, h4, h5, h6, h7⟩ := h; exact ⟨h1, h2, h3, h4, h5, VRs.down k h6, h7⟩
  | .agg cs, u, k, h => by unfold VR at h ⊢; unfold nb at k; obtain ⟨h1, h2, h3⟩ := h; exact ⟨h1, h2, VRs.down k h3⟩
  | .tup cs, u, k, h => by unfold VR at h ⊢; unfold nb at k; obtain ⟨h1, h2, h3⟩ := h; exact ⟨h1, h2, VRt.down k h3⟩
  | .fn _ a b, u, k, h => by unfold VR at h ⊢; unfold nb at k; obtain ⟨h1, h2, h3, h4, h5⟩ := h; exact ⟨h1, h2, h3, VRt.down k.1 h4, VRt.down k.2 h5⟩
  | .mp .., u, k, h => by unfold VR at h ⊢; unfold nb at k; exact ⟨k, h.2⟩
  | .ifp .., u, k, h => by unfold VR at h ⊢; unfold nb at k; exact ⟨k, h.2⟩
theorem VRs.down : ∀ {as : List AV} {us : List Value}, nbs n' as → VRs M n w as us → VRs M n' w as us
  | [], _, _, h => by unfold VRs at h ⊢; exact h
  | a :: as, us, k, h => by unfold VRs at h ⊢; unfold nbs at k; obtain ⟨h1, h2, h3, h4, h5, h6⟩ := h; exact ⟨h1, h2, h3, h4, VR.down k.1 h5, VRs.down k.2 h6⟩
theorem VRt.down : ∀ {as : List AV} {us : List Value}, nbs n' as → VRt M n w as us → VRt M n' w as us
  | [], _, _, h => by unfold VRt at h ⊢; exact h
  | a :: as, us, k, h => by unfold VRt at h ⊢; unfold nbs at k; obtain ⟨h1, h2, h3, h5, h6⟩ := h; exact ⟨h1, h2, h3, VR.down k.1 h5, VRt.down k.2 h6⟩
theorem VRss.down {sz : Nat} : ∀ {es : List (List AV)} {us : List Value}, nbss n' es → VRss M n w sz es us → VRss M n' w sz es us
  | [], _, _, h => by unfold VRss at h ⊢; exact h
  | a :: as, us, k, h => by unfold VRss at h ⊢; unfold nbss at k; obtain ⟨h1, h2, h3, h4, h5, h6⟩ := h; exact ⟨h1, h2, h3, h4, VRs.down k.1 h5, VRss.down k.2 h6⟩
end

theorem BR.nbOf {r : Nat} {B : Blk} (h : BR M n w r B) : nbB n B := by
  cases B with
  | obj cs => obtain ⟨_, _, _, _, _, _, _, _, h⟩ := h; exact VRs.nbOf h
  | row hot sz es =>
    rcases h with ⟨_, rfl⟩ | ⟨_, _, _, _, _, _, _, _, _, h, _⟩
    · simp [nbB, nbss]
    · exact VRss.nbOf h
  | map ks vs st => obtain ⟨_, _, _, _, _, _, _, _, _, h, _⟩ := h; exact VRt.nbOf h
  | iter m bs c seen => exact h.1
theorem BR.down {r : Nat} {B : Blk} (k : nbB n' B) (h : BR M n w r B) : BR M n' w r B := by
  cases B with
  | obj cs => obtain ⟨h1, h2, h3, h4, h5, h6, h7, h8, h9⟩ := h; exact ⟨h1, h2, h3, h4, h5, h6, h7, h8, VRs.down k h9⟩
  | row hot sz es =>
    rcases h with h | ⟨h1, h2, h3, h4, h5, h6, h7, h8, h9, h10, h11⟩
    · exact .inl h
    · exact .inr ⟨h1, h2, h3, h4, h5, h6, h7, h8, h9, VRss.down k h10, h11⟩
  | map ks vs st => obtain ⟨h1, h2, h3, h4, h5, h6, h7, h8, h9, h10, h11⟩ := h; exact ⟨h1, h2, h3, h4, h5, h6, h7, h8, h9, VRt.down k h10, h11⟩
  | iter m bs c seen => exact ⟨k, h.2⟩
end

/-- Rows of the function's own (names from N on, in L), as they read. -/
def frz : Nat → Heap → Nat → AV → AV
  | 0, _, _, a => a
  | d + 1, L, N, .hs r sz off k => if r < N then .hs r sz off k else match L[r - N]? with
    | some (some (.row _ sz' es)) => if sz' = sz ∧ off + k ≤ es.length then .sl sz (((es.drop off).take k).map fun e => e.map (frz d L N)) else .any
    | _ => .any
  | d + 1, L, N, .agg cs => .agg (cs.map (frz d L N))
  | d + 1, L, N, .tup vs => .tup (vs.map (frz d L N))
  | _ + 1, _, _, a => a

theorem map_frz0 (L : Heap) (N : Nat) (l : List AV) : l.map (frz 0 L N) = l := by
  have : frz 0 L N = id := by funext a; rfl
  rw [this, List.map_id]
theorem maps_frz0 (L : Heap) (N : Nat) (l : List (List AV)) : (l.map fun e => e.map (frz 0 L N)) = l := by
  simp only [map_frz0, List.map_id']

section
variable {E : Env} {M M2 : Mem} {w : World} {H1 L : Heap}

theorem frz_out (hG : Gam E.gl M w (H1 ++ L)) (h2 : ∀ b, M.G b → M2.G b) (hb : ∀ r, M2.blk r = M.blk r ∧ M2.bsz r = M.bsz r) (hloc : ∀ r B b, H1.length ≤ r → (H1 ++ L)[r]? = some (some B) → M.blk r = some b → M2.G b) :
    ∀ (d : Nat) {a : AV} {u : Value}, VR M (H1 ++ L).length w a u → VR M2 (H1 ++ L).length w (frz d L H1.length a) u := by
  have keep : ∀ {a : AV} {u : Value}, VR M (H1 ++ L).length w a u → VR M2 (H1 ++ L).length w a u := fun h => VR.mono h2 (fun _ _ => rfl) (Nat.le_refl _) (fun r _ => hb r) h
  intro d
  induction d with
  | zero => intro a u h; unfold frz; exact keep h
  | succ d ih =>
    intro a u h
    have ihs : ∀ {as : List AV} {us : List Value}, VRs M (H1 ++ L).length w as us → VRs M2 (H1 ++ L).length w (as.map (frz d L H1.length)) us := by
      intro as
      induction as with
      | nil => intro us h; unfold VRs at h; simp [VRs, h]
      | cons a as ih2 =>
        intro us h
        unfold VRs at h
        obtain ⟨x, r, rfl, k1, k2, k3⟩ := h
        simp only [List.map_cons]
        unfold VRs
        exact ⟨x, r, rfl, k1, ih k2, ih2 k3⟩
    have iht : ∀ {as : List AV} {us : List Value}, VRt M (H1 ++ L).length w as us → VRt M2 (H1 ++ L).length w (as.map (frz d L H1.length)) us := by
      intro as
      induction as with
      | nil => intro us h; unfold VRt at h; simp [VRt, h]
      | cons a as ih2 =>
        intro us h
        unfold VRt at h
        obtain ⟨x, r, rfl, k2, k3⟩ := h
        simp only [List.map_cons]
        unfold VRt
        exact ⟨x, r, rfl, ih k2, ih2 k3⟩
    have ihss : ∀ {sz : Nat} {es : List (List AV)} {us : List Value}, VRss M (H1 ++ L).length w sz es us → VRss M2 (H1 ++ L).length w sz (es.map fun e => e.map (frz d L H1.length)) us := by
      intro sz es
      induction es with
      | nil => intro us h; unfold VRss at h; simp [VRss, h]
      | cons a as ih2 =>
        intro us h
        unfold VRss at h
        obtain ⟨x, r, rfl, k1, k2, k3⟩ := h
        simp only [List.map_cons]
        unfold VRss
        exact ⟨x, r, rfl, k1, ihs k2, ih2 k3⟩
    cases a with
    | hs r sz off k =>
      unfold frz
      split
      · exact keep h
      · next hr =>
        split
        case h_2 => simp [VR]
        case h_1 hot sz' es hL =>
        split
        case isFalse => simp [VR]
        case isTrue hc =>
        obtain ⟨rfl, hle⟩ := hc
        have hr2 : (H1 ++ L)[r]? = some (some (.row hot sz' es)) := by rw [List.getElem?_append_right (by omega)]; exact hL
        have hlen : ((es.drop off).take k).length = k := by simp; omega
        unfold VR at h ⊢
        obtain ⟨h0, ao, cap, rfl, k1, k2, k3, k4⟩ := h
        have hl2 : (((es.drop off).take k).map fun e => e.map (frz d L H1.length)).length = k := by simp; omega
        rw [hl2]
        rcases hG.blks r _ hr2 with ⟨j1, j2⟩ | ⟨b, cur, e, fr, us, j1, j2, j3, j4, j5, j6, j7⟩
        · subst j2
          have hk : k = 0 := by have h3 : off + k ≤ 0 := hle; omega
          subst hk
          exact ⟨ao, cap, [], rfl, by simp [VRss], ⟨by simp, k1, k2, by simp, .inl ⟨rfl, k3⟩⟩⟩
        · have hd := VRss.take k (VRss.drop off j5)
          refine ⟨ao, cap, _, rfl, ihss hd, ⟨?_, k1, k2, VRss.one hd, ?_⟩⟩
          · rw [VRss.len hd, hlen]
          · rcases k4 with ⟨k4, _⟩ | ⟨k4, _⟩ | ⟨b', k5, k6, k7⟩
            · exact .inl ⟨k4, k3⟩
            · exact .inl ⟨k4, k3⟩
            · rw [k5] at j1
              cases j1
              refine .inr ⟨b, off * sz', k6, hloc r _ b (by omega) hr2 k5, fun j v hj => ?_⟩
              rw [cell_of_row w b _ cur e fr j2]
              rw [List.getElem?_take] at hj
              split at hj
              · rw [List.getElem?_drop, ← j6, List.getElem?_take] at hj
                split at hj
                · simpa using hj
                · cases hj
              · cases hj
    | agg cs =>
      unfold frz
      unfold VR at h ⊢
      obtain ⟨us, h3, h4⟩ := h
      exact ⟨us, h3, ihs h4⟩
    | tup cs =>
      unfold frz
      unfold VR at h ⊢
      obtain ⟨us, h3, h4⟩ := h
      exact ⟨us, h3, iht h4⟩
    | _ => exact keep h
end

section
variable {gl : Nat → AV} {M : Mem} {w : World} {H1 L : Heap}

/-- .. once what the own blocks hold is frozen. -/
def Mem.shut (M : Mem) (H1 L : Heap) : Mem := { M with G := fun b => M.G b ∨ ∃ (r : Nat) (B : Blk), H1.length ≤ r ∧ (H1 ++ L)[r]? = some (some B) ∧ M.blk r = some b }

theorem Gam.drop (hG' : Gam gl M w (H1 ++ L)) (hB : ∀ (k : Nat) (B : Blk), H1[k]? = some (some B) → nbB H1.length B) : Gam gl (M.shut H1 L) w H1 := by
  have hsub : ∀ b, M.G b → (M.shut H1 L).G b := fun b hb => .inl hb
  have hget : ∀ (k : Nat) (B : Blk), H1[k]? = some (some B) → (H1 ++ L)[k]? = some (some B) := by
    intro k B hk
    rw [List.getElem?_append_left (List.getElem?_eq_some_iff.1 hk).1]
    exact hk
  have hlt : ∀ (k : Nat) (B : Blk), H1[k]? = some (some B) → k < H1.length := fun k B hk => (List.getElem?_eq_some_iff.1 hk).1
  refine ⟨fun g => VR.mono (M := M) (M' := M.shut H1 L) (n := 0) (w := w) hsub (fun _ _ => rfl) (Nat.le_refl _) (fun _ _ => ⟨rfl, rfl⟩) (hG'.glob g), fun b hb => ?_, fun k B hk => ?_, fun k B b hk hh hb => ?_, fun k k' B B' b hk hk' => hG'.far k k' B B' b (hget k B hk) (hget k' B' hk')⟩
  · rcases hb with hb | ⟨r, B, q1, q2, q3⟩
    · exact hG'.inG b hb
    · exact (hG'.blks r B q2).lt q3
  · exact BR.down (hB k B hk) (BR.mono (M := M) (n := (H1 ++ L).length) (w := w) (r := k) hsub (fun _ _ => rfl) (Nat.le_refl _) (fun _ _ => ⟨rfl, rfl⟩) rfl rfl (fun _ _ => rfl) (hG'.blks k B (hget k B hk)))
  · rintro (q | ⟨r, B', q1, q2, q3⟩)
    · exact hG'.sep k B b (hget k B hk) hh hb q
    · exact hG'.far k r B B' b (hget k B hk) q2 hh (by have := hlt k B hk; omega) hb q3

theorem VR.frz {E : Env} (hG' : Gam E.gl M w (H1 ++ L)) (d : Nat) {a : AV} {u : Value} (h : VR M (H1 ++ L).length w a u) : VR (M.shut H1 L) (H1 ++ L).length w (frz d L H1.length a) u :=
  frz_out (E := E) (M2 := M.shut H1 L) hG' (fun _ hb => .inl hb) (fun _ => ⟨rfl, rfl⟩) (fun r B b q1 q2 q3 => .inr ⟨r, B, q1, q2, q3⟩) d h
/-- A block of the heap: frozen before, or one that might be written, or new. -/
theorem shut_hot {E : Env} {M M' : Mem} {w w' : World} {H H' : Heap} {r b : Nat} {B : Blk} (hG' : Gam E.gl M' w' H') (hE : Ext M w H M' w' H') (h : H'[r]? = some (some B)) (hb : M'.blk r = some b) : M.G b ∨ Hot M H b ∨ w.heap.size ≤ b := by
  cases hh : B.isHot with
  | true =>
    rcases hE.hot b ⟨r, B, h, hh, hb⟩ with q | q
    · exact .inr (.inl q)
    · exact .inr (.inr q)
  | false =>
    have hB := hG'.blks r B h
    cases B with
    | obj cs => simp [Blk.isHot] at hh
    | map ks vs st => simp [Blk.isHot] at hh
    | iter m bs c seen => simp [Blk.isHot] at hh
    | row hot sz es =>
      rcases hB with ⟨q1, _⟩ | ⟨b', cur, e, fr, us, q1, _, _, _, _, _, q7⟩
      · rw [q1] at hb; cases hb
      · rw [q1] at hb
        cases hb
        exact hE.gnew _ (q7 (by simpa [Blk.isHot] using hh))
end
end Go.Am
