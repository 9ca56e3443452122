/- The abstract machine: what is known may be said anew: slots forgotten, blocks given other names or left behind; loops. No condition. -/
import Derived.Test.YtckppkimjiifpaaAz
set_option linter.unusedSectionVars false
set_option linter.unusedVariables false
set_option linter.unusedSimpArgs false
set_option linter.deprecated false
namespace Go.Am
open Go.RowKit Go.Cx

/-! ### slots by lists -/
def ofl : List (Nat × AV) → Nat → AV
  | [], _ => .any
  | (j, a) :: r, i => if i = j then a else ofl r i
theorem ofl_nil {i : Nat} : ofl [] i = .any := rfl
theorem ofl_cons {i j : Nat} {a : AV} {r : List (Nat × AV)} : ofl ((j, a) :: r) i = if i = j then a else ofl r i := rfl
theorem ofl_all {p : Nat → AV → Prop} {i : Nat} (h0 : p i .any) : ∀ {l : List (Nat × AV)}, (∀ x ∈ l, p x.1 x.2) → p i (ofl l i)
  | [], _ => h0
  | (j, a) :: r, h => by
    unfold ofl
    split
    · next e => subst e; exact h (i, a) (by simp)
    · exact ofl_all h0 fun x hx => h x (List.mem_cons_of_mem _ hx)

theorem Wk.any (a : AV) : Wk a .any := fun _ _ _ _ _ => trivial
theorem Wk.of {a b : AV} (h : a = b) : Wk a b := h ▸ Wk.refl a

/-! ### other names -/
mutual
def amap (f : Nat → Nat) : AV → AV
  | .any => .any
  | .v x => .v x
  | .mt => .mt
  | .sl sz es => .sl sz (amapss f es)
  | .hs r sz off k => .hs (f r) sz off k
  | .os r sz off k => .os (f r) sz off k
  | .ptr r off => .ptr (f r) off
  | .rp r sz i off => .rp (f r) sz i off
  | .cptr cs => .cptr (amaps f cs)
  | .agg cs => .agg (amaps f cs)
  | .tup vs => .tup (amaps f vs)
  | .fn g a b => .fn g (amaps f a) (amaps f b)
  | .mp r => .mp (f r)
  | .ifp t r off => .ifp t (f r) off
def amaps (f : Nat → Nat) : List AV → List AV
  | [] => []
  | a :: as => amap f a :: amaps f as
def amapss (f : Nat → Nat) : List (List AV) → List (List AV)
  | [] => []
  | e :: es => amaps f e :: amapss f es
end
def bmap (f : Nat → Nat) : Blk → Blk
  | .obj cs => .obj (amaps f cs)
  | .row h sz es => .row h sz (amapss f es)
  | .map ks vs st => .map ks (amaps f vs) st
  | .iter m bs c seen => .iter (f m) bs c seen

theorem amapss_len {f : Nat → Nat} : ∀ {es : List (List AV)}, (amapss f es).length = es.length
  | [] => rfl
  | e :: es => by unfold amapss; simp [amapss_len]

section
variable {f : Nat → Nat} {n : Nat}
mutual
theorem amap_id (hf : ∀ r, r < n → f r = r) : ∀ {a : AV}, nb n a → amap f a = a
  | .any, _ => rfl
  | .v _, _ => rfl
  | .mt, _ => rfl
  | .sl sz es, h => by unfold nb at h; unfold amap; rw [amapss_id hf h]
  | .hs .., h => by unfold nb at h; unfold amap; rw [hf _ h]
  | .os .., h => by unfold nb at h; unfold amap; rw [hf _ h]
  | .ptr .., h => by unfold nb at h; unfold amap; rw [hf _ h]
  | .rp .., h => by unfold nb at h; unfold amap; rw [hf _ h]
  | .cptr cs, h => by unfold nb at h; unfold amap; rw [amaps_id hf h]
  | .agg cs, h => by unfold nb at h; unfold amap; rw [amaps_id hf h]
  | .tup cs, h => by unfold nb at h; unfold amap; rw [amaps_id hf h]
  | .fn g a b, h => by unfold nb at h; unfold amap; rw [amaps_id hf h.1, amaps_id hf h.2]
  | .mp .., h => by unfold nb at h; unfold amap; rw [hf _ h]
  | .ifp .., h => by unfold nb at h; unfold amap; rw [hf _ h]
theorem amaps_id (hf : ∀ r, r < n → f r = r) : ∀ {as : List AV}, nbs n as → amaps f as = as
  | [], _ => rfl
  | a :: as, h => by unfold nbs at h; unfold amaps; rw [amap_id hf h.1, amaps_id hf h.2]
theorem amapss_id (hf : ∀ r, r < n → f r = r) : ∀ {es : List (List AV)}, nbss n es → amapss f es = es
  | [], _ => rfl
  | e :: es, h => by unfold nbss at h; unfold amapss; rw [amaps_id hf h.1, amapss_id hf h.2]
end
theorem bmap_id (hf : ∀ r, r < n → f r = r) {B : Blk} (h : nbB n B) : bmap f B = B := by
  cases B with
  | obj cs => exact congrArg Blk.obj (amaps_id hf h)
  | row hot sz es => exact congrArg (Blk.row hot sz) (amapss_id hf h)
  | map ks vs st => exact congrArg (fun x => Blk.map ks x st) (amaps_id hf h)
  | iter m bs c seen => exact congrArg (fun x => Blk.iter x bs c seen) (hf m h)
end

section
variable {M M' : Mem} {n n' : Nat} {w : World} {f : Nat → Nat}
mutual
theorem VR.ren (hG : ∀ b, M.G b → M'.G b) (hb : ∀ r, r < n' → M'.blk r = M.blk (f r) ∧ M'.bsz r = M.bsz (f r)) : ∀ {a : AV} {u : Value}, nb n' a → VR M n w (amap f a) u → VR M' n' w a u
  | .any, _, _, _ => trivial
  | .v _, _, _, h => h
  | .mt, _, _, h => by unfold amap at h; unfold VR at h ⊢; exact h
  | .sl sz es, u, k, h => by
    unfold amap at h
    unfold VR at h ⊢
    unfold nb at k
    obtain ⟨h1, h2, h3, h4, h5, h6⟩ := h
    rw [amapss_len] at h4 h6
    exact ⟨h1, h2, h3, h4, VRss.ren hG hb k h5, h6.mono hG (fun _ _ => rfl)⟩
  | .hs r .., u, k, h => by
    unfold amap at h
    unfold VR at h ⊢
    unfold nb at k
    obtain ⟨e1, e2⟩ := hb r k
    rw [e1, e2]
    exact ⟨k, h.2⟩
  | .os r .., u, k, h => by
    unfold amap at h
    unfold VR at h ⊢
    unfold nb at k
    obtain ⟨e1, e2⟩ := hb r k
    rw [e1]
    exact ⟨k, h.2⟩
  | .ptr r .., u, k, h => by
    unfold amap at h
    unfold VR at h ⊢
    unfold nb at k
    obtain ⟨e1, e2⟩ := hb r k
    rw [e1]
    exact ⟨k, h.2⟩
  | .rp r .., u, k, h => by
    unfold amap at h
    unfold VR at h ⊢
    unfold nb at k
    obtain ⟨e1, e2⟩ := hb r k
    rw [e1]
    exact ⟨k, h.2⟩
  | .cptr cs, u, k, h => by
    unfold amap at h
    unfold VR at h ⊢
    unfold nb at k
    obtain ⟨h1, h2, h3, h4, h5, h6, h7⟩ := h
    exact ⟨h1, h2, h3, h4, hG _ h5, VRs.ren hG hb k h6, h7⟩
  | .agg cs, u, k, h => by
    unfold amap at h
    unfold VR at h ⊢
    unfold nb at k
    obtain ⟨h1, h2, h3⟩ := h
    exact ⟨h1, h2, VRs.ren hG hb k h3⟩
  | .tup cs, u, k, h => by
    unfold amap at h
    unfold VR at h ⊢
    unfold nb at k
    obtain ⟨h1, h2, h3⟩ := h
    exact ⟨h1, h2, VRt.ren hG hb k h3⟩
  | .fn g a b, u, k, h => by
    unfold amap at h
    unfold VR at h ⊢
    unfold nb at k
    obtain ⟨h1, h2, h3, h4, h5⟩ := h
    exact ⟨h1, h2, h3, VRt.ren hG hb k.1 h4, VRt.ren hG hb k.2 h5⟩
  | .mp r, u, k, h => by
    unfold amap at h
    unfold VR at h ⊢
    unfold nb at k
    obtain ⟨e1, e2⟩ := hb r k
    rw [e1]
    exact ⟨k, h.2⟩
  | .ifp _ r _, u, k, h => by
    unfold amap at h
    unfold VR at h ⊢
    unfold nb at k
    obtain ⟨e1, e2⟩ := hb r k
    rw [e1]
    exact ⟨k, h.2⟩
theorem VRs.ren (hG : ∀ b, M.G b → M'.G b) (hb : ∀ r, r < n' → M'.blk r = M.blk (f r) ∧ M'.bsz r = M.bsz (f r)) : ∀ {as : List AV} {us : List Value}, nbs n' as → VRs M n w (amaps f as) us → VRs M' n' w as us
  | [], _, _, h => by unfold amaps at h; unfold VRs at h ⊢; exact h
  | a :: as, us, k, h => by
    unfold amaps at h
    unfold VRs at h ⊢
    unfold nbs at k
    obtain ⟨u, r, h1, h2, h3, h4⟩ := h
    exact ⟨u, r, h1, h2, VR.ren hG hb k.1 h3, VRs.ren hG hb k.2 h4⟩
theorem VRt.ren (hG : ∀ b, M.G b → M'.G b) (hb : ∀ r, r < n' → M'.blk r = M.blk (f r) ∧ M'.bsz r = M.bsz (f r)) : ∀ {as : List AV} {us : List Value}, nbs n' as → VRt M n w (amaps f as) us → VRt M' n' w as us
  | [], _, _, h => by unfold amaps at h; unfold VRt at h ⊢; exact h
  | a :: as, us, k, h => by
    unfold amaps at h
    unfold VRt at h ⊢
    unfold nbs at k
    obtain ⟨u, r, h1, h3, h4⟩ := h
    exact ⟨u, r, h1, VR.ren hG hb k.1 h3, VRt.ren hG hb k.2 h4⟩
theorem VRss.ren (hG : ∀ b, M.G b → M'.G b) (hb : ∀ r, r < n' → M'.blk r = M.blk (f r) ∧ M'.bsz r = M.bsz (f r)) {sz : Nat} : ∀ {es : List (List AV)} {us : List Value}, nbss n' es → VRss M n w sz (amapss f es) us → VRss M' n' w sz es us
  | [], _, _, h => by unfold amapss at h; unfold VRss at h ⊢; exact h
  | e :: es, us, k, h => by
    unfold amapss at h
    unfold VRss at h ⊢
    unfold nbss at k
    obtain ⟨c, r, h1, h2, h3, h4⟩ := h
    exact ⟨c, r, h1, h2, VRs.ren hG hb k.1 h3, VRss.ren hG hb k.2 h4⟩
end
theorem BR.ren (hG : ∀ b, M.G b → M'.G b) (hb : ∀ r, r < n' → M'.blk r = M.blk (f r) ∧ M'.bsz r = M.bsz (f r)) {r : Nat} {B : Blk} (hr : r < n') (k : nbB n' B) (h : BR M n w (f r) (bmap f B)) : BR M' n' w r B := by
  obtain ⟨e1, e2⟩ := hb r hr
  cases B with
  | obj cs =>
    unfold bmap at h
    unfold BR at h ⊢
    unfold nbB at k
    obtain ⟨h1, h2, h3, h4, h5, h6, h7, h8, h9⟩ := h
    rw [e1, e2]
    exact ⟨h1, h2, h3, h4, h5, h6, h7, h8, VRs.ren hG hb k h9⟩
  | row hot sz es =>
    unfold bmap at h
    unfold BR at h ⊢
    unfold nbB at k
    rw [e1, e2]
    rcases h with ⟨h1, h2⟩ | ⟨h1, h2, h3, h4, h5, h6, h7, h8, h9, h10, h11, h12⟩
    · left
      refine ⟨h1, ?_⟩
      have := amapss_len (f := f) (es := es)
      rw [h2] at this
      exact List.length_eq_zero_iff.1 this.symm
    · exact .inr ⟨h1, h2, h3, h4, h5, h6, h7, h8, h9, VRss.ren hG hb k h10, h11, fun hh => hG _ (h12 hh)⟩
  | map ks vs st =>
    unfold bmap at h
    unfold BR at h ⊢
    unfold nbB at k
    obtain ⟨h1, h2, h3, h4, h5, h6, h7, h8, h9, h10, h11⟩ := h
    rw [e1]
    exact ⟨h1, h2, h3, h4, h5, h6, h7, h8, h9, VRt.ren hG hb k h10, h11⟩
  | iter m bs c seen =>
    unfold bmap at h
    unfold BR at h ⊢
    unfold nbB at k
    obtain ⟨h1, h2, h3, h4, h5, h6, h7⟩ := h
    exact ⟨k, h2, h3, e1.trans h4, (hb m k).1.trans h5, h6, h7⟩
end

section
variable {E : Env} {n : Nat} {T T' : Nat → AV} {H H' : Heap}

theorem Cq.ren (f : Nat → Nat) (h1 : n ≤ H.length → n ≤ H'.length) (hid : ∀ r, r < n → f r = r) (hblk : ∀ (r : Nat) (B' : Blk), H'[r]? = some (some B') → nbB H'.length B' ∧ H[f r]? = some (some (bmap f B')))
    (hinj : ∀ (r r' : Nat) (B B' : Blk), H'[r]? = some (some B) → H'[r']? = some (some B') → f r = f r' → r = r') (hT : ∀ i, nb H'.length (T' i) ∧ Wk (T i) (amap f (T' i))) : Cq E n T H T' H' := by
  intro hn
  refine ⟨h1 hn, fun M w N a hG hT0 => ?_⟩
  have hin : ∀ {r B}, H'[r]? = some (some B) → r < H'.length := fun h => (List.getElem?_eq_some_iff.1 h).1
  have hot : ∀ (B : Blk), (bmap f B).isHot = B.isHot := fun B => by cases B <;> rfl
  let M' : Mem := ⟨fun r => M.blk (f r), fun r => M.bsz (f r), M.G⟩
  refine ⟨M', ⟨fun g => ?_, hG.inG, fun r B hr => ?_, fun r B b hr hh hb => ?_, fun r r' B B' b hr hr' hh hne hb hb' => ?_⟩, ⟨hT0.1, fun i => ?_⟩, ⟨rfl, rfl, rfl, Nat.le_refl _, fun _ h => h, fun _ h => .inl h, fun _ _ _ => rfl, h1 hn, fun r hr => ?_, fun r hr => ?_, fun b hb => ?_⟩⟩
  · exact VR.mono (M := M) (M' := M') (n := 0) (w := w) (fun _ h => h) (fun _ _ => rfl) (Nat.le_refl _) (fun r hr => absurd hr (Nat.not_lt_zero r)) (hG.glob g)
  · obtain ⟨k1, k2⟩ := hblk r B hr
    exact BR.ren (M := M) (M' := M') (n := H.length) (f := f) (fun _ h => h) (fun _ _ => ⟨rfl, rfl⟩) (hin hr) k1 (hG.blks _ _ k2)
  · obtain ⟨k1, k2⟩ := hblk r B hr
    exact hG.sep (f r) _ b k2 (by rw [hot]; exact hh) hb
  · obtain ⟨k1, k2⟩ := hblk r B hr
    obtain ⟨j1, j2⟩ := hblk r' B' hr'
    exact hG.far (f r) (f r') _ _ b k2 j2 (by rw [hot]; exact hh) (fun e => hne (hinj _ _ _ _ hr' hr e)) hb hb'
  · obtain ⟨k1, k2⟩ := hT i
    exact VR.ren (M := M) (M' := M') (n := H.length) (f := f) (fun _ h => h) (fun _ _ => ⟨rfl, rfl⟩) k1 (k2 _ _ _ _ (hT0.2 i))
  · show M.blk (f r) = _; rw [hid r hr]
  · show M.bsz (f r) = _; rw [hid r hr]
  · obtain ⟨r, B, q1, q2, q3⟩ := hb
    obtain ⟨k1, k2⟩ := hblk r B q1
    exact .inl ⟨f r, _, k2, by rw [hot]; exact q2, q3⟩

/-- .. behind the blocks of H0. -/
def sh (n : Nat) (σ : List Nat) (r : Nat) : Nat := if r < n then r else n + σ.getD (r - n) 0
theorem sh_lt {σ : List Nat} {r : Nat} (h : r < n) : sh n σ r = r := by unfold sh; rw [if_pos h]
theorem sh_0 {σ : List Nat} : sh n σ n = n + σ.getD 0 0 := by unfold sh; rw [if_neg (by omega), Nat.sub_self]
theorem sh_at {σ : List Nat} (k : Nat) : sh n σ (n + k) = n + σ.getD k 0 := by unfold sh; rw [if_neg (by omega), Nat.add_sub_cancel_left]

def okL (n' : Nat) (f : Nat → Nat) (L : Heap) : Heap → List Nat → Prop
  | [], [] => True
  | none :: L', _ :: σ => okL n' f L L' σ
  | some B :: L', s :: σ => (nbB n' B ∧ L[s]? = some (some (bmap f B))) ∧ okL n' f L L' σ
  | _, _ => False
def okT (n' : Nat) (f : Nat → Nat) (T : Nat → AV) : List (Nat × AV) → Prop
  | [] => True
  | (i, a) :: r => (nb n' a ∧ Wk (T i) (amap f a)) ∧ okT n' f T r
theorem okT_all {n' : Nat} {f : Nat → Nat} {T : Nat → AV} : ∀ {l : List (Nat × AV)}, okT n' f T l → ∀ x ∈ l, nb n' x.2 ∧ Wk (T x.1) (amap f x.2)
  | [], _, x, hx => by cases hx
  | (i, a) :: r, h, x, hx => by
    unfold okT at h
    rcases List.mem_cons.1 hx with rfl | hx
    · exact h.1
    · exact okT_all h.2 x hx
theorem okL_len {n' : Nat} {f : Nat → Nat} {L : Heap} : ∀ {L' : Heap} {σ : List Nat}, okL n' f L L' σ → σ.length = L'.length
  | [], [], _ => rfl
  | none :: L', _ :: σ, h => by unfold okL at h; simp [okL_len h]
  | some B :: L', s :: σ, h => by unfold okL at h; simp [okL_len h.2]
  | [], _ :: _, h => by simp [okL] at h
  | none :: _, [], h => by simp [okL] at h
  | some _ :: _, [], h => by simp [okL] at h
theorem okL_at {n' : Nat} {f : Nat → Nat} {L : Heap} : ∀ {L' : Heap} {σ : List Nat}, okL n' f L L' σ → ∀ (k : Nat) (B : Blk), L'[k]? = some (some B) → nbB n' B ∧ L[σ.getD k 0]? = some (some (bmap f B))
  | [], [], _, k, B, h => by simp at h
  | none :: L', _ :: σ, h, 0, B, e => by simp at e
  | none :: L', _ :: σ, h, k + 1, B, e => by unfold okL at h; simpa using okL_at h k B (by simpa using e)
  | some B' :: L', s :: σ, h, 0, B, e => by unfold okL at h; simp at e; subst e; simpa using h.1
  | some B' :: L', s :: σ, h, k + 1, B, e => by unfold okL at h; simpa using okL_at h.2 k B (by simpa using e)
  | [], _ :: _, h, _, _, _ => by simp [okL] at h
  | none :: _, [], h, _, _, _ => by simp [okL] at h
  | some _ :: _, [], h, _, _, _ => by simp [okL] at h

/-- The blocks behind those of H0 are given other names (those of σ), the slots said anew. -/
theorem cq_ren {H0 L L' : Heap} {tl : List (Nat × AV)} (σ : List Nat) (hn : n ≤ H0.length) (h0 : ∀ (k : Nat) (B : Blk), H0[k]? = some (some B) → nbB H0.length B) (hσ : σ.Nodup)
    (hL : okL (H0.length + L'.length) (sh H0.length σ) L L' σ) (hT : okT (H0.length + L'.length) (sh H0.length σ) T tl) : Cq E n T (H0 ++ L) (ofl tl) (H0 ++ L') := by
  have hlen := okL_len hL
  refine Cq.ren (sh H0.length σ) (fun _ => by simp; omega) (fun r hr => sh_lt (by omega)) (fun r B hr => ?_) (fun r r' B B' hr0 hr0' e => ?_) (fun i => ?_)
  · by_cases hlt : r < H0.length
    · rw [List.getElem?_append_left hlt] at hr
      rw [sh_lt hlt, List.getElem?_append_left hlt, bmap_id (n := H0.length) (fun q hq => sh_lt hq) (h0 r B hr)]
      refine ⟨?_, hr⟩
      have := h0 r B hr
      rw [List.length_append]
      cases B with
      | obj cs => exact nbs_iff.2 fun a ha => nb.mono (by omega) (nbs_iff.1 this a ha)
      | row hot sz es => exact nbss_iff.2 fun e he => nbs_iff.2 fun a ha => nb.mono (by omega) (nbs_iff.1 (nbss_iff.1 this e he) a ha)
      | map ks vs st => exact nbs_iff.2 fun a ha => nb.mono (by omega) (nbs_iff.1 this a ha)
      | iter m bs c seen => exact Nat.lt_of_lt_of_le this (by omega)
    · obtain ⟨k, rfl⟩ : ∃ k, r = H0.length + k := ⟨r - H0.length, by omega⟩
      rw [hgetk] at hr
      rw [sh_at, hgetk, List.length_append]
      exact okL_at hL k B hr
  · have hr := (List.getElem?_eq_some_iff.1 hr0).1
    have hr' := (List.getElem?_eq_some_iff.1 hr0').1
    rw [List.length_append] at hr hr'
    unfold sh at e
    split at e <;> split at e
    · exact e
    · omega
    · omega
    · have e2 : σ.getD (r - H0.length) 0 = σ.getD (r' - H0.length) 0 := by omega
      have q1 : r - H0.length < σ.length := by omega
      have q2 : r' - H0.length < σ.length := by omega
      rw [List.getD_eq_getElem?_getD, List.getD_eq_getElem?_getD, List.getElem?_eq_getElem q1, List.getElem?_eq_getElem q2] at e2
      simp only [Option.getD_some] at e2
      have := (List.getElem_inj hσ (h₀ := q1) (h₁ := q2)).1 e2
      omega
  · rw [List.length_append]
    exact ofl_all (p := fun i a => nb (H0.length + L'.length) a ∧ Wk (T i) (amap (sh H0.length σ) a)) ⟨trivial, Wk.any _⟩ (okT_all hT)

theorem cq_slots {tl : List (Nat × AV)} (hT : ∀ x ∈ tl, Wk (T x.1) x.2) : Cq E n T H (ofl tl) H := fun hn => ⟨hn, fun M w N a hG hT0 => ⟨M, hG, ⟨hT0.1, fun i => ofl_all (p := fun i x => VR M H.length w x (a.tmps.getD i undef)) trivial fun x hx => hT x hx M _ _ _ (hT0.2 x.1)⟩, .refl hn⟩⟩

def okD (n' : Nat) (d : Nat) (L : Heap) (T : Nat → AV) : List (Nat × AV) → Prop
  | [] => True
  | (i, a) :: r => (nb n' a ∧ Wk (frz d L n' (T i)) a) ∧ okD n' d L T r
theorem okD_all {n' d : Nat} {L : Heap} {T : Nat → AV} : ∀ {l : List (Nat × AV)}, okD n' d L T l → ∀ x ∈ l, nb n' x.2 ∧ Wk (frz d L n' (T x.1)) x.2
  | [], _, x, hx => by cases hx
  | (i, a) :: r, h, x, hx => by
    unfold okD at h
    rcases List.mem_cons.1 hx with rfl | hx
    · exact h.1
    · exact okD_all h.2 x hx

/-- The last blocks are not written any more: they are said as they read. -/
theorem cq_drop {H1 L : Heap} {tl : List (Nat × AV)} (d : Nat) (hn : n ≤ H1.length) (hB : ∀ (k : Nat) (B : Blk), H1[k]? = some (some B) → nbB H1.length B) (hT : okD H1.length d L T tl) : Cq E n T (H1 ++ L) (ofl tl) H1 := fun _ =>
  ⟨hn, fun M w N a hG hT0 => ⟨M.shut H1 L, hG.drop hB, ⟨hT0.1, fun i => ofl_all (p := fun i x => VR (M.shut H1 L) H1.length w x (a.tmps.getD i undef)) trivial fun x hx => VR.down (okD_all hT x hx).1 ((okD_all hT x hx).2 _ _ _ _ (VR.frz hG d (hT0.2 x.1)))⟩,
    ⟨rfl, rfl, rfl, Nat.le_refl _, fun _ h => .inl h, fun b hb => (by
      rcases hb with hb | ⟨r, B, _, q2, q3⟩
      · exact .inl hb
      · exact shut_hot hG (Ext.refl M w (H1 ++ L)) q2 q3), fun _ _ _ => rfl, hn, fun _ _ => rfl, fun _ _ => rfl, fun b ⟨k, B, q1, q2, q3⟩ => .inl ⟨k, B, by rw [List.getElem?_append_left (List.getElem?_eq_some_iff.1 q1).1]; exact q1, q2, q3⟩⟩⟩⟩

/-- A slice that is nil: a row of one's own, empty. -/
theorem cq_bare (sz i : Nat) (hi : T i = .v (.slice none 0 0)) : Cq E n T H (put T i (.hs H.length sz 0 0)) (H ++ [some (.row true sz [])]) := fun hn => by
  refine ⟨by simp; omega, fun M w N a hG hT0 => ⟨M.bare H.length, hG.bare sz, ⟨hT0.1, fun j => ?_⟩, ⟨rfl, rfl, rfl, Nat.le_refl _, fun _ h => h, fun _ h => .inl h, fun _ _ _ => rfl, by simp; omega, fun r hr => ?_, fun _ _ => rfl, fun b hb => ?_⟩⟩⟩
  · have hj := hT0.2 j
    unfold put
    split
    · next e =>
      subst e
      rw [hi] at hj
      have hj2 : a.tmps.getD j undef = .slice none 0 0 := hj
      rw [hj2]
      unfold VR
      exact ⟨by rw [List.length_append]; exact Nat.lt_succ_self _, none, 0, rfl, Nat.le_refl _, Nat.zero_le _, fun _ => rfl, .inr (.inl ⟨rfl, rfl⟩)⟩
    · refine VR.mono (M := M) (M' := M.bare H.length) (n := H.length) (n' := (H ++ [some (Blk.row true sz [])]).length) (w := w) (fun _ h => h) (fun _ _ => rfl) (by rw [List.length_append]; exact Nat.le_succ _) (fun r hr => ⟨?_, rfl⟩) hj
      simp only [Mem.bare]
      rw [if_neg (by omega)]
  · simp only [Mem.bare]
    rw [if_neg (by omega)]
  · obtain ⟨k, B, q1, q2, q3⟩ := hb
    rw [getElem?_snoc] at q1
    simp only [Mem.bare] at q3
    split at q1
    · next he => rw [if_pos he] at q3; cases q3
    · next he => rw [if_neg he] at q3; exact .inl ⟨k, B, q1, q2, q3⟩

/-! ### loops; statements in the middle -/
variable {Q : Exit → (Nat → AV) → Heap → Prop} {α : Type}
theorem z_loop {c b : Code} (hc : c = .loop b) (P : α → Prop) (m : α → Nat) (tl : α → List (Nat × AV)) (Hf : α → Heap) (x0 : α) (hP : P x0) (hq : Cq E n T H (ofl (tl x0)) (Hf x0))
    (h : ∀ x, P x → ∀ K : (Nat → AV) → Heap → Prop, (∀ T' H' x', P x' → m x' < m x → Cq E n T' H' (ofl (tl x')) (Hf x') → K T' H') → awp E n b (anorm K Q) (ofl (tl x)) (Hf x)) : awp E n c Q T H := by
  refine w_loop hc (fun k T H => ∃ x, P x ∧ m x = k ∧ T = ofl (tl x) ∧ H = Hf x) ⟨_, _, _, hq, x0, hP, rfl, rfl, rfl⟩ ?_
  rintro k T1 H1 ⟨x, h1, rfl, rfl, rfl⟩ K hK
  exact h x h1 K fun T' H' x' k1 k2 k3 => hK T' H' ⟨_, _, k3, m x', k2, x', k1, rfl, rfl, rfl⟩
theorem z_mid {c a b : Code} (hc : c = .seq a b) (P : α → Prop) (tl : α → List (Nat × AV)) (Hf : α → Heap)
    (h1 : ∀ K : (Nat → AV) → Heap → Prop, (∀ T' H' x, P x → Cq E n T' H' (ofl (tl x)) (Hf x) → K T' H') → awp E n a (anorm K Q) T H) (h2 : ∀ x, P x → awp E n b Q (ofl (tl x)) (Hf x)) : awp E n c Q T H :=
  w_seq hc fun K hK => h1 K fun T' H' x k1 k2 => hK T' H' ⟨_, _, k2, h2 x k1⟩
end
end Go.Am
