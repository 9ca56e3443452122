/- The abstract machine: a row that nobody writes any more is frozen at its place. No condition. -/
import Derived.Test.YtckppkimjiifpaaAi
set_option linter.unusedSectionVars false
set_option linter.unusedVariables false
set_option linter.unusedSimpArgs false
set_option linter.deprecated false
namespace Go.Am
open Go.RowKit Go.Cx

/-- a' says what a says, once row r (its elements es) is frozen. -/
def rl (r sz : Nat) (es : List (List AV)) (a a' : AV) : Prop :=
  a = a' ∨ ∃ off k, a = .hs r sz off k ∧ off + k ≤ es.length ∧ a' = .sl sz ((es.drop off).take k)
def rls (r sz : Nat) (es : List (List AV)) : List AV → List AV → Prop
  | [], [] => True
  | a :: l, a' :: l' => rl r sz es a a' ∧ rls r sz es l l'
  | _, _ => False
def rlss (r sz : Nat) (es : List (List AV)) : List (List AV) → List (List AV) → Prop
  | [], [] => True
  | a :: l, a' :: l' => rls r sz es a a' ∧ rlss r sz es l l'
  | _, _ => False
def rlB (r sz : Nat) (es : List (List AV)) : Blk → Blk → Prop
  | .obj cs, .obj cs' => rls r sz es cs cs'
  | .row h s l, .row h' s' l' => h = h' ∧ s = s' ∧ rlss r sz es l l'
  | .map ks vs st, B' => B' = .map ks vs st
  | .iter m bs c seen, B' => B' = .iter m bs c seen
  | _, _ => False
theorem rls_refl {r sz : Nat} {es : List (List AV)} : ∀ l : List AV, rls r sz es l l
  | [] => trivial
  | _ :: l => ⟨.inl rfl, rls_refl l⟩
theorem rlss_refl {r sz : Nat} {es : List (List AV)} : ∀ l : List (List AV), rlss r sz es l l
  | [] => trivial
  | a :: l => ⟨rls_refl a, rlss_refl l⟩
theorem rlB_refl {r sz : Nat} {es : List (List AV)} (B : Blk) : rlB r sz es B B := by
  cases B with
  | obj cs => exact rls_refl cs
  | row h s l => exact ⟨rfl, rfl, rlss_refl l⟩
  | map ks vs st => rfl
  | iter m bs c seen => rfl
theorem rlss_set {r sz : Nat} {es : List (List AV)} {e e' : List AV} (he : rls r sz es e e') : ∀ (l : List (List AV)) (i : Nat), rlss r sz es (l.set i e) (l.set i e')
  | [], _ => trivial
  | _ :: l, 0 => ⟨he, rlss_refl l⟩
  | a :: l, i + 1 => ⟨rls_refl a, rlss_set he l i⟩
theorem rl_hs {r sz : Nat} {es : List (List AV)} {off k : Nat} (h : off + k ≤ es.length) : rl r sz es (.hs r sz off k) (.sl sz ((es.drop off).take k)) := .inr ⟨off, k, rfl, h, rfl⟩
theorem rl_eq {r sz : Nat} {es : List (List AV)} (a : AV) : rl r sz es a a := .inl rfl

/-- Row r is frozen. -/
def Mem.ice (M : Mem) (r : Nat) : Mem := { M with G := fun b => M.G b ∨ M.blk r = some b }

section
variable {E : Env} {M : Mem} {w : World} {H : Heap} {r sz : Nat} {es : List (List AV)}
theorem VR.ice (hG : Gam E.gl M w H) (hr : H[r]? = some (some (.row true sz es))) {a a' : AV} {u : Value} (h : rl r sz es a a') (hv : VR M H.length w a u) : VR (M.ice r) H.length w a' u := by
  have keep : ∀ {a : AV}, VR M H.length w a u → VR (M.ice r) H.length w a u := fun h => VR.mono (M := M) (M' := M.ice r) (n := H.length) (w := w) (fun _ h => Or.inl h) (fun _ _ => rfl) (Nat.le_refl _) (fun _ _ => ⟨rfl, rfl⟩) h
  rcases h with rfl | ⟨off, k, rfl, hle, rfl⟩
  · exact keep hv
  · have hlen : ((es.drop off).take k).length = k := by simp; omega
    unfold VR at hv ⊢
    obtain ⟨_, ao, cap, rfl, k1, k2, k3, k4⟩ := hv
    rw [hlen]
    rcases hG.blks r _ hr with ⟨j1, j2⟩ | ⟨b, cur, e, fr, us, j1, j2, j3, j4, j5, j6, j7⟩
    · subst j2
      have hk : k = 0 := by have h3 : off + k ≤ 0 := hle; omega
      subst hk
      exact ⟨ao, cap, [], rfl, by simp [VRss], ⟨by simp, k1, k2, by simp, .inl ⟨rfl, k3⟩⟩⟩
    · have hd := VRss.take k (VRss.drop off j5)
      refine ⟨ao, cap, _, rfl, VRss.mono (M := M) (M' := M.ice r) (n := H.length) (w := w) (fun _ h => Or.inl h) (fun _ _ => rfl) (Nat.le_refl _) (fun _ _ => ⟨rfl, rfl⟩) hd, ⟨?_, k1, k2, VRss.one hd, ?_⟩⟩
      · rw [VRss.len hd, hlen]
      · rcases k4 with ⟨k4, _⟩ | ⟨k4, _⟩ | ⟨b', k5, k6, k7⟩
        · exact .inl ⟨k4, k3⟩
        · exact .inl ⟨k4, k3⟩
        · have hbb : b = b' := by rw [k5] at j1; exact (Option.some.inj j1).symm
          subst hbb
          refine .inr ⟨b, off * sz, k6, .inr k5, fun j v hj => ?_⟩
          rw [cell_of_row w b _ cur e fr j2]
          rw [List.getElem?_take] at hj
          split at hj
          · rw [List.getElem?_drop, ← j6, List.getElem?_take] at hj
            split at hj
            · simpa using hj
            · cases hj
          · cases hj
theorem VRs.ice (hG : Gam E.gl M w H) (hr : H[r]? = some (some (.row true sz es))) : ∀ {l l' : List AV} {us : List Value}, rls r sz es l l' → VRs M H.length w l us → VRs (M.ice r) H.length w l' us
  | [], [], us, _, h => by unfold VRs at h ⊢; exact h
  | a :: l, a' :: l', us, k, h => by
    unfold VRs at h ⊢
    obtain ⟨x, t, h1, h2, h3, h4⟩ := h
    exact ⟨x, t, h1, h2, VR.ice hG hr k.1 h3, VRs.ice hG hr k.2 h4⟩
  | [], _ :: _, _, k, _ => k.elim
  | _ :: _, [], _, k, _ => k.elim
theorem VRss.ice (hG : Gam E.gl M w H) (hr : H[r]? = some (some (.row true sz es))) {s : Nat} : ∀ {l l' : List (List AV)} {us : List Value}, rlss r sz es l l' → VRss M H.length w s l us → VRss (M.ice r) H.length w s l' us
  | [], [], us, _, h => by unfold VRss at h ⊢; exact h
  | a :: l, a' :: l', us, k, h => by
    unfold VRss at h ⊢
    obtain ⟨x, t, h1, h2, h3, h4⟩ := h
    exact ⟨x, t, h1, h2, VRs.ice hG hr k.1 h3, VRss.ice hG hr k.2 h4⟩
  | [], _ :: _, _, k, _ => k.elim
  | _ :: _, [], _, k, _ => k.elim
theorem rlss_len : ∀ {l l' : List (List AV)}, rlss r sz es l l' → l.length = l'.length
  | [], [], _ => rfl
  | _ :: _, _ :: _, h => by simp [rlss_len h.2]
  | [], _ :: _, h => h.elim
  | _ :: _, [], h => h.elim
theorem BR.ice (hG : Gam E.gl M w H) (hr : H[r]? = some (some (.row true sz es))) {q : Nat} {B B' : Blk} (k : rlB r sz es B B') (h : BR M H.length w q B) : BR (M.ice r) H.length w q B' := by
  match B, B', k, h with
  | .obj cs, .obj cs', k, h =>
    obtain ⟨b, cur, t, fr, h1, h2, h3, h4, h5⟩ := h
    exact ⟨b, cur, t, fr, h1, h2, h3, h4, VRs.ice hG hr k h5⟩
  | .row hh s l, .row _ _ l', ⟨rfl, rfl, k⟩, h =>
    rcases h with ⟨h1, rfl⟩ | ⟨b, cur, e, fr, us, h1, h2, h3, h4, h5, h6, h7⟩
    · refine .inl ⟨h1, ?_⟩
      have := rlss_len k
      exact List.eq_nil_of_length_eq_zero this.symm
    · exact .inr ⟨b, cur, e, fr, us, h1, h2, h3, h4, VRss.ice hG hr k h5, h6, fun q => .inl (h7 q)⟩
  | .map ks vs st, _, rfl, h => exact BR.mono (M := M) (M' := M.ice r) (n := H.length) (w := w) (r := q) (fun _ h => Or.inl h) (fun _ _ => rfl) (Nat.le_refl _) (fun _ _ => ⟨rfl, rfl⟩) rfl rfl (fun _ _ => rfl) h
  | .iter m bs c seen, _, rfl, h => exact BR.mono (M := M) (M' := M.ice r) (n := H.length) (w := w) (r := q) (fun _ h => Or.inl h) (fun _ _ => rfl) (Nat.le_refl _) (fun _ _ => ⟨rfl, rfl⟩) rfl rfl (fun _ _ => rfl) h
theorem rlB_hot {B B' : Blk} (k : rlB r sz es B B') : B.isHot = B'.isHot := by
  match B, B', k with
  | .obj _, .obj _, _ => rfl
  | .row _ _ _, .row _ _ _, ⟨h, _, _⟩ => exact h
  | .map _ _ _, _, rfl => rfl
  | .iter _ _ _ _, _, rfl => rfl
/-- The row r is frozen; whatever held it may be said with what it reads as. -/
theorem cq_ice {n : Nat} {T : Nat → AV} {H' : Heap} {tl : List (Nat × AV)} (r : Nat) (hr : H[r]? = some (some (.row true sz es))) (hlen : H'.length = H.length)
    (hH : ∀ (q : Nat) (B' : Blk), H'[q]? = some (some B') → q ≠ r ∧ ∃ B, H[q]? = some (some B) ∧ rlB r sz es B B') (hT : ∀ x ∈ tl, rl r sz es (T x.1) x.2) : Cq E n T H (ofl tl) H' := fun hn => by
  refine ⟨by omega, fun M w N a hG hT0 => ⟨M.ice r, ⟨fun g => ?_, fun b hb => ?_, fun q B' hq => ?_, fun q B' b hq hh hb => ?_, fun q q' B1 B2 b hq hq' hh hne hb => ?_⟩, ⟨hT0.1, fun i => ?_⟩, ⟨rfl, rfl, rfl, Nat.le_refl _, fun _ h => Or.inl h, fun b hb => ?_, fun _ _ _ => rfl, by omega, fun _ _ => rfl, fun _ _ => rfl, fun b hb => ?_⟩⟩⟩
  · exact VR.mono (M := M) (M' := M.ice r) (n := 0) (w := w) (fun _ h => Or.inl h) (fun _ _ => rfl) (Nat.le_refl _) (fun _ _ => ⟨rfl, rfl⟩) (hG.glob g)
  · rcases hb with hb | hb
    · exact hG.inG b hb
    · exact (hG.blks r _ hr).lt hb
  · obtain ⟨_, B, h1, h2⟩ := hH q B' hq
    rw [hlen]
    exact BR.ice hG hr h2 (hG.blks q B h1)
  · obtain ⟨hne, B, h1, h2⟩ := hH q B' hq
    have hh1 : B.isHot = true := by rw [rlB_hot h2]; exact hh
    rintro (k | k)
    · exact hG.sep q B b h1 hh1 hb k
    · exact hG.far q r B _ b h1 hr hh1 (fun e => hne e.symm) hb k
  · obtain ⟨_, C1, h1, h2⟩ := hH q B1 hq
    obtain ⟨_, C2, h3, h4⟩ := hH q' B2 hq'
    exact hG.far q q' C1 C2 b h1 h3 (by rw [rlB_hot h2]; exact hh) hne hb
  · rw [hlen]
    exact ofl_all (p := fun i x => VR (M.ice r) H.length w x (a.tmps.getD i undef)) trivial fun x hx => VR.ice hG hr (hT x hx) (hT0.2 x.1)
  · rcases hb with hb | hb
    · exact .inl hb
    · exact .inr (.inl ⟨r, _, hr, rfl, hb⟩)
  · obtain ⟨q, B', q1, q2, q3⟩ := hb
    obtain ⟨_, B, h1, h2⟩ := hH q B' q1
    exact .inl ⟨q, B, h1, by rw [rlB_hot h2]; exact q2, q3⟩
end
def iceH (r sz : Nat) (es : List (List AV)) : Nat → Heap → Heap → Prop
  | _, [], [] => True
  | i, _ :: H, none :: H' => iceH r sz es (i + 1) H H'
  | i, some B :: H, some B' :: H' => (i ≠ r ∧ rlB r sz es B B') ∧ iceH r sz es (i + 1) H H'
  | _, _, _ => False
theorem iceH_len {r sz : Nat} {es : List (List AV)} : ∀ {H H' : Heap} {i : Nat}, iceH r sz es i H H' → H'.length = H.length
  | [], [], _, _ => rfl
  | _ :: H, none :: H', i, h => by unfold iceH at h; simp [iceH_len h]
  | some B :: H, some B' :: H', i, h => by unfold iceH at h; simp [iceH_len h.2]
  | [], _ :: _, _, h => by simp [iceH] at h
  | _ :: _, [], _, h => by simp [iceH] at h
  | none :: _, some _ :: _, _, h => by simp [iceH] at h
theorem iceH_at {r sz : Nat} {es : List (List AV)} : ∀ {H H' : Heap} {i : Nat}, iceH r sz es i H H' → ∀ (q : Nat) (B' : Blk), H'[q]? = some (some B') → i + q ≠ r ∧ ∃ B, H[q]? = some (some B) ∧ rlB r sz es B B'
  | [], [], _, _, q, B', e => by simp at e
  | _ :: H, none :: H', i, h, 0, B', e => by simp at e
  | _ :: H, none :: H', i, h, q + 1, B', e => by
    unfold iceH at h
    have := iceH_at h q B' (by simpa using e)
    rw [show i + 1 + q = i + (q + 1) by omega] at this
    simpa using this
  | some B :: H, some B2 :: H', i, h, 0, B', e => by
    unfold iceH at h
    simp at e
    subst e
    exact ⟨h.1.1, B, rfl, h.1.2⟩
  | some B :: H, some B2 :: H', i, h, q + 1, B', e => by
    unfold iceH at h
    have := iceH_at h.2 q B' (by simpa using e)
    rw [show i + 1 + q = i + (q + 1) by omega] at this
    simpa using this
  | [], _ :: _, _, h, _, _, _ => by simp [iceH] at h
  | _ :: _, [], _, h, _, _, _ => by simp [iceH] at h
  | none :: _, some _ :: _, _, h, _, _, _ => by simp [iceH] at h
def iceT (r sz : Nat) (es : List (List AV)) (T : Nat → AV) : List (Nat × AV) → Prop
  | [] => True
  | (i, a) :: l => rl r sz es (T i) a ∧ iceT r sz es T l
theorem iceT_all {r sz : Nat} {es : List (List AV)} {T : Nat → AV} : ∀ {l : List (Nat × AV)}, iceT r sz es T l → ∀ x ∈ l, rl r sz es (T x.1) x.2
  | [], _, x, hx => by cases hx
  | (i, a) :: l, h, x, hx => by
    unfold iceT at h
    rcases List.mem_cons.1 hx with rfl | hx
    · exact h.1
    · exact iceT_all h.2 x hx
/-- .. told by lists. -/
theorem cq_iceL {E : Env} {n sz : Nat} {es : List (List AV)} {T : Nat → AV} {H H' : Heap} {tl : List (Nat × AV)} (r : Nat) (hr : H[r]? = some (some (.row true sz es))) (hH : iceH r sz es 0 H H') (hT : iceT r sz es T tl) : Cq E n T H (ofl tl) H' :=
  cq_ice r hr (iceH_len hH) (fun q B' e => by have := iceH_at hH q B' e; rwa [Nat.zero_add] at this) (iceT_all hT)
end Go.Am
