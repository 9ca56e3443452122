/- The abstract machine: rules that came later. No condition. -/
import Derived.Test.YtmafdnbdaaedgaaYb1
import Derived.Test.YtmafdnbdaaedgaaYFx
set_option linter.unusedSectionVars false
set_option linter.unusedVariables false
set_option linter.unusedSimpArgs false
set_option linter.deprecated false
namespace Go.Am
open Go.RowKit Go.Cx
theorem chunks1_c {n : Nat} {c : AV} {cs : List AV} : chunks 1 (n + 1) (c :: cs) = [c] :: chunks 1 n cs := (rfl)
theorem pr_eta {α β : Type} (p : α × β) : (p.1, p.2) = p := rfl
instance : Cel (Int × Int × Int) := ⟨fun p => [.int .i64 p.1, .int .i64 p.2.1, .int .i64 p.2.2], (0, 0, 0)⟩
theorem cl1_iii (n : Int × Int × Int) : cl1 n = [.v (.int .i64 n.1), .v (.int .i64 n.2.1), .v (.int .i64 n.2.2)] := rfl
theorem chunks1_0 {cs : List AV} : chunks 1 0 cs = [] := (rfl)
end Go.Am
namespace Go.Am
open Go.RowKit Go.Cx
theorem amapss_set {f : Nat → Nat} : ∀ {l : List (List AV)} {i : Nat} {e : List AV}, amapss f (l.set i e) = (amapss f l).set i (amaps f e)
  | [], _, _ => rfl
  | a :: l, 0, e => rfl
  | a :: l, i + 1, e => by
    simp only [List.set_cons_succ]
    unfold amapss
    rw [amapss_set, List.set_cons_succ]
theorem jxcl {E : Env} {g : FuncId} {al al' : List AV} {r0 : AV} {K : Kv} {Hf : Heap → Heap} (h : ACalls E g al [] fun r H' => r = r0 ∧ H' = []) (ok : (∀ L, okAs false [] (Hf L) 0 al' al) ∧ nb 0 r0) (hk : K.k r0) : @jex (fun v => ∀ L, @jcall E g al' (Hf L) ⟨fun v' H' => v' = v ∧ H' = Hf L⟩) K :=
  jx (fun L => by
    refine z_at h [] List.nodup_nil (by simp) trivial (okAs_rd (ok.1 L)) ?_
    refine ⟨amap_id (n := 0) (fun r hr => absurd hr (Nat.not_lt_zero r)) ok.2, ?_⟩
    rw [back_nil]
    simp) hk
theorem Wk.vnil {d N sz : Nat} {L : Heap} : Wk (frz d L N (.v (.slice none 0 0))) (.sl sz []) := by rw [frz_v]; exact Wk.nil sz
section
variable {E : Env} {f : FuncId} {al : List AV}
end
end Go.Am
namespace Go.Am
open Go.Cx
end Go.Am
namespace Go.Am
open Go.RowKit Go.Cx
section
variable {E : Env} {n : Nat} {T : Nat → AV} {H : Heap}
end
end Go.Am
namespace Go.Am
open Go.RowKit Go.Cx
/-! ### rows that are not written any more, told in the cells that hold them -/
def wks : List AV → List AV → Prop
  | [], [] => True
  | a :: l, b :: m => Wk a b ∧ wks l m
  | _, _ => False
def frB (d : Nat) (L : Heap) (N : Nat) : Blk → Blk → Prop
  | .obj cs, .obj cs' => wks (cs.map (frz d L N)) cs'
  | .row h sz es, .row h' sz' es' => h = h' ∧ sz = sz' ∧ (es = es' ∨ (es.map fun e => e.map (frz d L N)) = es')
  | .map ks vs st, B' => B' = .map ks vs st
  | .iter m bs c seen, B' => B' = .iter m bs c seen
  | _, _ => False
def okF (N d : Nat) (L : Heap) : Heap → Heap → Prop
  | [], [] => True
  | none :: H', _ :: H => okF N d L H' H
  | some B' :: H', some B :: H => (nbB N B' ∧ frB d L N B B') ∧ okF N d L H' H
  | _, _ => False
theorem okF_at {N d : Nat} {L : Heap} : ∀ {H' H : Heap}, okF N d L H' H → ∀ (k : Nat) (B' : Blk), H'[k]? = some (some B') → nbB N B' ∧ ∃ B, H[k]? = some (some B) ∧ frB d L N B B'
  | [], [], _, k, B', e => by simp at e
  | none :: H', _ :: H, h, 0, B', e => by simp at e
  | none :: H', _ :: H, h, k + 1, B', e => by unfold okF at h; simpa using okF_at h k B' (by simpa using e)
  | some C :: H', some B :: H, h, 0, B', e => by unfold okF at h; simp at e; subst e; exact ⟨h.1.1, B, rfl, h.1.2⟩
  | some C :: H', some B :: H, h, k + 1, B', e => by unfold okF at h; simpa using okF_at h.2 k B' (by simpa using e)
  | [], _ :: _, h, _, _, _ => by simp [okF] at h
  | none :: _, [], h, _, _, _ => by simp [okF] at h
  | some _ :: _, [], h, _, _, _ => by simp [okF] at h
  | some _ :: _, none :: _, h, _, _, _ => by simp [okF] at h
theorem okF_len {N d : Nat} {L : Heap} : ∀ {H' H : Heap}, okF N d L H' H → H'.length = H.length
  | [], [], _ => rfl
  | none :: H', _ :: H, h => by unfold okF at h; simp [okF_len h]
  | some C :: H', some B :: H, h => by unfold okF at h; simp [okF_len h.2]
  | [], _ :: _, h => by simp [okF] at h
  | none :: _, [], h => by simp [okF] at h
  | some _ :: _, [], h => by simp [okF] at h
  | some _ :: _, none :: _, h => by simp [okF] at h
section
variable {E : Env} {M : Mem} {w : World} {H1 L : Heap}
theorem VRs.frz (hG : Gam E.gl M w (H1 ++ L)) (d : Nat) : ∀ {cs : List AV} {us : List Value}, VRs M (H1 ++ L).length w cs us → VRs (M.shut H1 L) (H1 ++ L).length w (cs.map (frz d L H1.length)) us
  | [], us, h => by unfold VRs at h; subst h; simp [VRs]
  | a :: l, us, h => by
    unfold VRs at h
    obtain ⟨x, r, rfl, k1, k2, k3⟩ := h
    simp only [List.map_cons]
    unfold VRs
    exact ⟨x, r, rfl, k1, VR.frz hG d k2, VRs.frz hG d k3⟩
theorem VRss.frz (hG : Gam E.gl M w (H1 ++ L)) (d : Nat) {sz : Nat} : ∀ {es : List (List AV)} {us : List Value}, VRss M (H1 ++ L).length w sz es us → VRss (M.shut H1 L) (H1 ++ L).length w sz (es.map fun e => e.map (frz d L H1.length)) us
  | [], us, h => by unfold VRss at h; subst h; simp [VRss]
  | a :: l, us, h => by
    unfold VRss at h
    obtain ⟨x, r, rfl, k1, k2, k3⟩ := h
    simp only [List.map_cons]
    unfold VRss
    exact ⟨x, r, rfl, k1, VRs.frz hG d k2, VRss.frz hG d k3⟩
theorem VRs.wks {n : Nat} : ∀ {cs cs' : List AV} {us : List Value}, wks cs cs' → VRs M n w cs us → VRs M n w cs' us
  | [], [], us, _, h => h
  | a :: l, b :: m, us, k, h => by
    unfold VRs at h ⊢
    obtain ⟨x, r, h0, k1, k2, k3⟩ := h
    exact ⟨x, r, h0, k1, k.1 _ _ _ _ k2, VRs.wks k.2 k3⟩
  | [], _ :: _, _, k, _ => k.elim
  | _ :: _, [], _, k, _ => k.elim
theorem frB_hot {d N : Nat} {B B' : Blk} (h : frB d L N B B') : B.isHot = B'.isHot := by
  match B, B', h with
  | .obj _, .obj _, _ => rfl
  | .row _ _ _, .row _ _ _, h => exact h.1
  | .map _ _ _, _, rfl => rfl
  | .iter _ _ _ _, _, rfl => rfl
theorem Gam.shut {d : Nat} {H1' : Heap} (hG' : Gam E.gl M w (H1 ++ L)) (hF : okF H1.length d L H1' H1) : Gam E.gl (M.shut H1 L) w H1' := by
  have hsub : ∀ b, M.G b → (M.shut H1 L).G b := fun b hb => .inl hb
  have hget : ∀ (k : Nat) (B : Blk), H1[k]? = some (some B) → (H1 ++ L)[k]? = some (some B) := by
    intro k B hk
    rw [List.getElem?_append_left (List.getElem?_eq_some_iff.1 hk).1]
    exact hk
  have hlen := okF_len hF
  have hlt : ∀ (k : Nat) (B : Blk), H1'[k]? = some (some B) → k < H1.length := fun k B hk => by rw [← hlen]; exact (List.getElem?_eq_some_iff.1 hk).1
  refine ⟨fun g => VR.mono (M := M) (M' := M.shut H1 L) (n := 0) (w := w) hsub (fun _ _ => rfl) (Nat.le_refl _) (fun _ _ => ⟨rfl, rfl⟩) (hG'.glob g), fun b hb => ?_, fun k B' hk => ?_, fun k B' b hk hh hb => ?_, fun k k' B B' b hk hk' hh hne hb => ?_⟩
  · rcases hb with hb | ⟨r, B, q1, q2, q3⟩
    · exact hG'.inG b hb
    · exact (hG'.blks r B q2).lt q3
  · obtain ⟨h1, B, h2, h3⟩ := okF_at hF k B' hk
    have hB := hG'.blks k B (hget k B h2)
    rw [hlen]
    refine BR.down (n := (H1 ++ L).length) h1 ?_
    match B, B', h3, hB with
    | .obj cs, .obj cs', h3, hB =>
      obtain ⟨b, cur, t, fr, j1, j2, j3, j4, j5⟩ := hB
      exact ⟨b, cur, t, fr, j1, j2, j3, j4, VRs.wks h3 (VRs.frz hG' d j5)⟩
    | .row h sz es, .row _ _ es', ⟨rfl, rfl, h3⟩, hB =>
      rcases hB with ⟨j1, rfl⟩ | ⟨b, cur, e, fr, us, j1, j2, j3, j4, j5, j6, j7⟩
      · refine .inl ⟨j1, ?_⟩
        rcases h3 with h3 | h3
        · exact h3.symm
        · exact h3.symm
      · refine .inr ⟨b, cur, e, fr, us, j1, j2, j3, j4, ?_, j6, fun q => .inl (j7 q)⟩
        rcases h3 with rfl | rfl
        · exact VRss.mono (M := M) (M' := M.shut H1 L) (w := w) hsub (fun _ _ => rfl) (Nat.le_refl _) (fun _ _ => ⟨rfl, rfl⟩) j5
        · exact VRss.frz hG' d j5
    | .map ks vs st, _, rfl, hB => exact BR.mono (M := M) (M' := M.shut H1 L) (n := (H1 ++ L).length) (w := w) (r := k) hsub (fun _ _ => rfl) (Nat.le_refl _) (fun _ _ => ⟨rfl, rfl⟩) rfl rfl (fun _ _ => rfl) hB
    | .iter m bs c seen, _, rfl, hB => exact BR.mono (M := M) (M' := M.shut H1 L) (n := (H1 ++ L).length) (w := w) (r := k) hsub (fun _ _ => rfl) (Nat.le_refl _) (fun _ _ => ⟨rfl, rfl⟩) rfl rfl (fun _ _ => rfl) hB
  · obtain ⟨_, B, h2, h3⟩ := okF_at hF k B' hk
    rintro (q | ⟨r, C, q1, q2, q3⟩)
    · exact hG'.sep k B b (hget k B h2) (by rw [frB_hot h3]; exact hh) hb q
    · exact hG'.far k r B C b (hget k B h2) q2 (by rw [frB_hot h3]; exact hh) (by have := hlt k B' hk; omega) hb q3
  · obtain ⟨_, C, h2, h3⟩ := okF_at hF k B hk
    obtain ⟨_, C', h4, h5⟩ := okF_at hF k' B' hk'
    exact hG'.far k k' C C' b (hget k C h2) (hget k' C' h4) (by rw [frB_hot h3]; exact hh) hne hb
end
end Go.Am
namespace Go.Proofs.Ytmafdnbdaaedgaa
open Go.RowKit Go.Cx Go.Am
noncomputable def E0 : Env := ⟨Try.prog, fun _ => .any⟩
end Go.Proofs.Ytmafdnbdaaedgaa
