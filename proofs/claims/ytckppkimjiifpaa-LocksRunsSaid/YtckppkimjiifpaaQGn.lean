/- The abstract machine: rules that came later. No condition. -/
import Derived.Test.YtckppkimjiifpaaQb1
import Derived.Test.YtckppkimjiifpaaQFx
set_option linter.unusedSectionVars false
set_option linter.unusedVariables false
set_option linter.unusedSimpArgs false
set_option linter.deprecated false
namespace Go.Am
open Go.RowKit Go.Cx
theorem chunks1_c {n : Nat} {c : AV} {cs : List AV} : chunks 1 (n + 1) (c :: cs) = [c] :: chunks 1 n cs := (rfl)
theorem pr_eta {α β : Type} (p : α × β) : (p.1, p.2) = p := rfl
instance : Cel (Int × Int × Int) := ⟨fun p => [.int .i64 p.1, .int .i64 p.2.1, .int .i64 p.2.2], (0, 0, 0)⟩
theorem cl1_iii (n : Int × Int × Int) : cl1 n = [.v (.int .i64 n.1), .v (.int .i64 n.2.1), .v (.int .i64 n.2.2)] := rfl
theorem chunks1_0 {cs : List AV} : chunks 1 0 cs = [] := (rfl)
end Go.Am
namespace Go.Am
open Go.RowKit Go.Cx
theorem amapss_set {f : Nat → Nat} : ∀ {l : List (List AV)} {i : Nat} {e : List AV}, amapss f (l.set i e) = (amapss f l).set i (amaps f e)
  | [], _, _ => rfl
  | a :: l, 0, e => rfl
  | a :: l, i + 1, e => by
    simp only [List.set_cons_succ]
    unfold amapss
    rw [amapss_set, List.set_cons_succ]
theorem jxcl {E : Env} {g : FuncId} {al al' : List AV} {r0 : AV} {K : Kv} {Hf : Heap → Heap} (h : ACalls E g al [] fun r H' => r = r0 ∧ H' = []) (ok : (∀ L, okAs false [] (Hf L) 0 al' al) ∧ nb 0 r0) (hk : K.k r0) : @jex (fun v => ∀ L, @jcall E g al' (Hf L) ⟨fun v' H' => v' = v ∧ H' = Hf L⟩) K :=
  jx (fun L => by
    refine z_at h [] List.nodup_nil (by simp) trivial (okAs_rd (ok.1 L)) ?_
    refine ⟨amap_id (n := 0) (fun r hr => absurd hr (Nat.not_lt_zero r)) ok.2, ?_⟩
    rw [back_nil]
    simp) hk
theorem Wk.vnil {d N sz : Nat} {L : Heap} : Wk (frz d L N (.v (.slice none 0 0))) (.sl sz []) := by rw [frz_v]; exact Wk.nil sz
/-- A call whose contract adds one block, and leaves those it speaks of. -/
theorem jxgs {E : Env} {g : FuncId} {al al' : List AV} {r0 : AV} {H Hs : Heap} {B0 : Option Blk} {K : Kvg} (h : ACalls E g al Hs fun r H' => r = r0 ∧ H' = Hs ++ [B0]) (σ : List Nat) (ok : cok false σ H Hs al' al ∧ back σ H (Hs ++ [B0]) = H ++ [B0.map (bmap (sg H.length σ))]) (hk : K.k (amap (sg H.length σ) r0) (B0.map (bmap (sg H.length σ)))) : @jexg (fun v B => @jcall E g al' H ⟨fun v' H' => v' = v ∧ H' = H ++ [B]⟩) K :=
  jxg (by
    refine z_at h σ (sgOk_out ok.1.1).1 (sgOk_out ok.1.1).2 ok.1.2.1 (okAs_rd ok.1.2.2) ?_
    exact ⟨rfl, ok.2⟩) hk
def nbH (n : Nat) : Heap → Prop
  | [] => True
  | none :: H => nbH n H
  | some B :: H => nbB n B ∧ nbH n H
theorem nbH_at {n : Nat} : ∀ {H : Heap}, nbH n H → ∀ (k : Nat) (B : Blk), H[k]? = some (some B) → nbB n B
  | [], _, k, B, e => by simp at e
  | none :: H, h, 0, B, e => by simp at e
  | none :: H, h, k + 1, B, e => nbH_at (H := H) h k B (by simpa using e)
  | some B' :: H, h, 0, B, e => by simp at e; subst e; exact h.1
  | some B' :: H, h, k + 1, B, e => nbH_at (H := H) h.2 k B (by simpa using e)
theorem frz_tup {d N : Nat} {L : Heap} {l : List AV} : frz (d + 1) L N (.tup l) = .tup (l.map (frz d L N)) := (rfl)
section
variable {E : Env} {f : FuncId} {al : List AV}
/-- A contract's last blocks, told as they read. -/
theorem ACalls.cold2 {H0 L1 L2 : Heap} {r0 : AV} (h : ACalls E f al H0 fun r H' => r = r0 ∧ H' = L1 ++ L2) (d : Nat) (r2 : AV) (hlen : H0.length ≤ L1.length) (hB : nbH L1.length L1) (hr : nb L1.length r2 ∧ Wk (frz d L2 L1.length r0) r2) : ACalls E f al H0 fun r H' => r = r2 ∧ H' = L1 := by
  refine calls_q ⟨h.1, fun w M vs hG hv => (h.2 w M vs hG hv).mono ?_⟩
  rintro e w' ⟨r, H', v, M', rfl, ⟨rfl, rfl⟩, q⟩
  exact ⟨_, _, v, M', rfl, ⟨ofl [(0, r2)], L1, cq_drop (H1 := L1) (L := L2) d hlen (nbH_at hB) ⟨⟨hr.1, hr.2⟩, trivial⟩, rfl, rfl⟩, q⟩
end
end Go.Am
namespace Go.Am
open Go.Cx
end Go.Am
namespace Go.Am
open Go.RowKit Go.Cx
section
variable {E : Env} {n : Nat} {T : Nat → AV} {H : Heap}
theorem VRs.setw {M : Mem} {n : Nat} {w : World} {a a' : AV} (hw : ∀ u, VR M n w a u → VR M n w a' u) : ∀ {cs : List AV} {us : List Value} {j : Nat}, VRs M n w cs us → cs[j]? = some a → VRs M n w (cs.set j a') us
  | [], _, _, _, h => by cases h
  | c :: cs, us, 0, h, hj => by
    unfold VRs at h
    obtain ⟨u, r, rfl, h1, h2, h3⟩ := h
    simp only [List.getElem?_cons_zero, Option.some.injEq] at hj
    subst hj
    show VRs M n w (a' :: cs) (u :: r)
    unfold VRs
    exact ⟨u, r, rfl, h1, hw u h2, h3⟩
  | c :: cs, us, j + 1, h, hj => by
    unfold VRs at h
    obtain ⟨u, r, rfl, h1, h2, h3⟩ := h
    show VRs M n w (c :: cs.set j a') (u :: r)
    unfold VRs
    exact ⟨u, r, rfl, h1, h2, VRs.setw hw h3 (by simpa using hj)⟩
theorem Gam.weak {gl : Nat → AV} {M : Mem} {w : World} (hG : Gam gl M w H) {r : Nat} {cs cs' : List AV} (hr : H[r]? = some (some (.obj cs))) (hv : ∀ us, VRs M H.length w cs us → VRs M H.length w cs' us) : Gam gl M w (H.set r (some (.obj cs'))) := by
  have hlt := (List.getElem?_eq_some_iff.1 hr).1
  have hin : ∀ {q : Nat} {B : Blk}, (H.set r (some (.obj cs')))[q]? = some (some B) → ∃ B0, H[q]? = some (some B0) ∧ B0.isHot = B.isHot := by
    intro q B hq
    by_cases e : q = r
    · subst e
      rw [List.getElem?_set_self hlt] at hq
      cases hq
      exact ⟨_, hr, rfl⟩
    · rw [List.getElem?_set_ne (fun x => e x.symm)] at hq
      exact ⟨B, hq, rfl⟩
  refine ⟨hG.glob, hG.inG, fun q B hq => ?_, fun q B b hq hh hb => ?_, fun q q' B B' b hq hq' hh hne hb => ?_⟩
  · rw [List.length_set]
    by_cases e : q = r
    · subst e
      rw [List.getElem?_set_self hlt] at hq
      cases hq
      have h1 := hG.blks q _ hr
      obtain ⟨b, cur, t, fr, k1, k2, k3, k4, k5⟩ := h1
      exact ⟨b, cur, t, fr, k1, k2, k3, k4, hv _ k5⟩
    · rw [List.getElem?_set_ne (fun x => e x.symm)] at hq
      exact hG.blks q B hq
  · obtain ⟨B0, h1, h2⟩ := hin hq
    exact hG.sep q B0 b h1 (by rw [h2]; exact hh) hb
  · obtain ⟨B0, h1, h2⟩ := hin hq
    obtain ⟨B1, h3, _⟩ := hin hq'
    exact hG.far q q' B0 B1 b h1 h3 (by rw [h2]; exact hh) hne hb
/-- A cell that holds a nil slice: a row of one's own, empty. -/
theorem cq_bareC (sz r j : Nat) {cs : List AV} (hr : H[r]? = some (some (.obj cs))) (hj : cs[j]? = some (.v (.slice none 0 0))) :
    Cq E n T H T (H.set r (some (.obj (cs.set j (.hs H.length sz 0 0)))) ++ [some (.row true sz [])]) := fun hn => by
  have hlt := (List.getElem?_eq_some_iff.1 hr).1
  refine ⟨by simp; omega, fun M w N a hG hT0 => ⟨M.bare H.length, ?_, ⟨hT0.1, fun j => ?_⟩, ⟨rfl, rfl, rfl, Nat.le_refl _, fun _ h => h, fun _ h => .inl h, fun _ _ _ => rfl, by simp; omega, fun r hr => ?_, fun _ _ => rfl, fun b hb => ?_⟩⟩⟩
  · have h1 := hG.bare sz
    have h2 : (H ++ [some (Blk.row true sz [])])[r]? = some (some (.obj cs)) := by rw [List.getElem?_append_left hlt]; exact hr
    have h3 := h1.weak h2 (cs' := cs.set j (.hs H.length sz 0 0)) fun us hus => VRs.setw (a := .v (.slice none 0 0)) (fun u hu => by
      unfold VR at hu
      subst hu
      unfold VR
      exact ⟨by rw [List.length_append]; exact Nat.lt_succ_self _, none, 0, rfl, Nat.le_refl _, Nat.zero_le _, fun _ => rfl, .inr (.inl ⟨rfl, rfl⟩)⟩) hus hj
    rw [List.set_append_left _ _ hlt] at h3
    exact h3
  · have hj := hT0.2 j
    refine VR.mono (M := M) (M' := M.bare H.length) (n := H.length) (n' := (H.set r (some (Blk.obj _)) ++ [some (Blk.row true sz [])]).length) (w := w) (fun _ h => h) (fun _ _ => rfl) (by rw [List.length_append, List.length_set]; exact Nat.le_succ _) (fun r hr => ⟨?_, rfl⟩) hj
    simp only [Mem.bare]
    rw [if_neg (by omega)]
  · simp only [Mem.bare]
    rw [if_neg (by omega)]
  · obtain ⟨k, B, q1, q2, q3⟩ := hb
    rw [getElem?_snoc, List.length_set] at q1
    simp only [Mem.bare] at q3
    split at q1
    · next he => rw [if_pos he] at q3; cases q3
    · next he =>
      rw [if_neg he] at q3
      by_cases e : k = r
      · subst e
        exact .inl ⟨k, _, hr, rfl, q3⟩
      · rw [List.getElem?_set_ne (fun x => e x.symm)] at q1
        exact .inl ⟨k, B, q1, q2, q3⟩
end
end Go.Am
namespace Go.Am
open Go.RowKit Go.Cx
/-! ### rows that are not written any more, told in the cells that hold them -/
def wks : List AV → List AV → Prop
  | [], [] => True
  | a :: l, b :: m => Wk a b ∧ wks l m
  | _, _ => False
def frB (d : Nat) (L : Heap) (N : Nat) : Blk → Blk → Prop
  | .obj cs, .obj cs' => wks (cs.map (frz d L N)) cs'
  | .row h sz es, .row h' sz' es' => h = h' ∧ sz = sz' ∧ (es = es' ∨ (es.map fun e => e.map (frz d L N)) = es')
  | .map ks vs st, B' => B' = .map ks vs st
  | .iter m bs c seen, B' => B' = .iter m bs c seen
  | _, _ => False
def okF (N d : Nat) (L : Heap) : Heap → Heap → Prop
  | [], [] => True
  | none :: H', _ :: H => okF N d L H' H
  | some B' :: H', some B :: H => (nbB N B' ∧ frB d L N B B') ∧ okF N d L H' H
  | _, _ => False
theorem okF_at {N d : Nat} {L : Heap} : ∀ {H' H : Heap}, okF N d L H' H → ∀ (k : Nat) (B' : Blk), H'[k]? = some (some B') → nbB N B' ∧ ∃ B, H[k]? = some (some B) ∧ frB d L N B B'
  | [], [], _, k, B', e => by simp at e
  | none :: H', _ :: H, h, 0, B', e => by simp at e
  | none :: H', _ :: H, h, k + 1, B', e => by unfold okF at h; simpa using okF_at h k B' (by simpa using e)
  | some C :: H', some B :: H, h, 0, B', e => by unfold okF at h; simp at e; subst e; exact ⟨h.1.1, B, rfl, h.1.2⟩
  | some C :: H', some B :: H, h, k + 1, B', e => by unfold okF at h; simpa using okF_at h.2 k B' (by simpa using e)
  | [], _ :: _, h, _, _, _ => by simp [okF] at h
  | none :: _, [], h, _, _, _ => by simp [okF] at h
  | some _ :: _, [], h, _, _, _ => by simp [okF] at h
  | some _ :: _, none :: _, h, _, _, _ => by simp [okF] at h
theorem okF_len {N d : Nat} {L : Heap} : ∀ {H' H : Heap}, okF N d L H' H → H'.length = H.length
  | [], [], _ => rfl
  | none :: H', _ :: H, h => by unfold okF at h; simp [okF_len h]
  | some C :: H', some B :: H, h => by unfold okF at h; simp [okF_len h.2]
  | [], _ :: _, h => by simp [okF] at h
  | none :: _, [], h => by simp [okF] at h
  | some _ :: _, [], h => by simp [okF] at h
  | some _ :: _, none :: _, h => by simp [okF] at h
section
variable {E : Env} {M : Mem} {w : World} {H1 L : Heap}
theorem VRs.frz (hG : Gam E.gl M w (H1 ++ L)) (d : Nat) : ∀ {cs : List AV} {us : List Value}, VRs M (H1 ++ L).length w cs us → VRs (M.shut H1 L) (H1 ++ L).length w (cs.map (frz d L H1.length)) us
  | [], us, h => by unfold VRs at h; subst h; simp [VRs]
  | a :: l, us, h => by
    unfold VRs at h
    obtain ⟨x, r, rfl, k1, k2, k3⟩ := h
    simp only [List.map_cons]
    unfold VRs
    exact ⟨x, r, rfl, k1, VR.frz hG d k2, VRs.frz hG d k3⟩
theorem VRss.frz (hG : Gam E.gl M w (H1 ++ L)) (d : Nat) {sz : Nat} : ∀ {es : List (List AV)} {us : List Value}, VRss M (H1 ++ L).length w sz es us → VRss (M.shut H1 L) (H1 ++ L).length w sz (es.map fun e => e.map (frz d L H1.length)) us
  | [], us, h => by unfold VRss at h; subst h; simp [VRss]
  | a :: l, us, h => by
    unfold VRss at h
    obtain ⟨x, r, rfl, k1, k2, k3⟩ := h
    simp only [List.map_cons]
    unfold VRss
    exact ⟨x, r, rfl, k1, VRs.frz hG d k2, VRss.frz hG d k3⟩
theorem VRs.wks {n : Nat} : ∀ {cs cs' : List AV} {us : List Value}, wks cs cs' → VRs M n w cs us → VRs M n w cs' us
  | [], [], us, _, h => h
  | a :: l, b :: m, us, k, h => by
    unfold VRs at h ⊢
    obtain ⟨x, r, h0, k1, k2, k3⟩ := h
    exact ⟨x, r, h0, k1, k.1 _ _ _ _ k2, VRs.wks k.2 k3⟩
  | [], _ :: _, _, k, _ => k.elim
  | _ :: _, [], _, k, _ => k.elim
theorem frB_hot {d N : Nat} {B B' : Blk} (h : frB d L N B B') : B.isHot = B'.isHot := by
  match B, B', h with
  | .obj _, .obj _, _ => rfl
  | .row _ _ _, .row _ _ _, h => exact h.1
  | .map _ _ _, _, rfl => rfl
  | .iter _ _ _ _, _, rfl => rfl
theorem Gam.shut {d : Nat} {H1' : Heap} (hG' : Gam E.gl M w (H1 ++ L)) (hF : okF H1.length d L H1' H1) : Gam E.gl (M.shut H1 L) w H1' := by
  have hsub : ∀ b, M.G b → (M.shut H1 L).G b := fun b hb => .inl hb
  have hget : ∀ (k : Nat) (B : Blk), H1[k]? = some (some B) → (H1 ++ L)[k]? = some (some B) := by
    intro k B hk
    rw [List.getElem?_append_left (List.getElem?_eq_some_iff.1 hk).1]
    exact hk
  have hlen := okF_len hF
  have hlt : ∀ (k : Nat) (B : Blk), H1'[k]? = some (some B) → k < H1.length := fun k B hk => by rw [← hlen]; exact (List.getElem?_eq_some_iff.1 hk).1
  refine ⟨fun g => VR.mono (M := M) (M' := M.shut H1 L) (n := 0) (w := w) hsub (fun _ _ => rfl) (Nat.le_refl _) (fun _ _ => ⟨rfl, rfl⟩) (hG'.glob g), fun b hb => ?_, fun k B' hk => ?_, fun k B' b hk hh hb => ?_, fun k k' B B' b hk hk' hh hne hb => ?_⟩
  · rcases hb with hb | ⟨r, B, q1, q2, q3⟩
    · exact hG'.inG b hb
    · exact (hG'.blks r B q2).lt q3
  · obtain ⟨h1, B, h2, h3⟩ := okF_at hF k B' hk
    have hB := hG'.blks k B (hget k B h2)
    rw [hlen]
    refine BR.down (n := (H1 ++ L).length) h1 ?_
    match B, B', h3, hB with
    | .obj cs, .obj cs', h3, hB =>
      obtain ⟨b, cur, t, fr, j1, j2, j3, j4, j5⟩ := hB
      exact ⟨b, cur, t, fr, j1, j2, j3, j4, VRs.wks h3 (VRs.frz hG' d j5)⟩
    | .row h sz es, .row _ _ es', ⟨rfl, rfl, h3⟩, hB =>
      rcases hB with ⟨j1, rfl⟩ | ⟨b, cur, e, fr, us, j1, j2, j3, j4, j5, j6, j7⟩
      · refine .inl ⟨j1, ?_⟩
        rcases h3 with h3 | h3
        · exact h3.symm
        · exact h3.symm
      · refine .inr ⟨b, cur, e, fr, us, j1, j2, j3, j4, ?_, j6, fun q => .inl (j7 q)⟩
        rcases h3 with rfl | rfl
        · exact VRss.mono (M := M) (M' := M.shut H1 L) (w := w) hsub (fun _ _ => rfl) (Nat.le_refl _) (fun _ _ => ⟨rfl, rfl⟩) j5
        · exact VRss.frz hG' d j5
    | .map ks vs st, _, rfl, hB => exact BR.mono (M := M) (M' := M.shut H1 L) (n := (H1 ++ L).length) (w := w) (r := k) hsub (fun _ _ => rfl) (Nat.le_refl _) (fun _ _ => ⟨rfl, rfl⟩) rfl rfl (fun _ _ => rfl) hB
    | .iter m bs c seen, _, rfl, hB => exact BR.mono (M := M) (M' := M.shut H1 L) (n := (H1 ++ L).length) (w := w) (r := k) hsub (fun _ _ => rfl) (Nat.le_refl _) (fun _ _ => ⟨rfl, rfl⟩) rfl rfl (fun _ _ => rfl) hB
  · obtain ⟨_, B, h2, h3⟩ := okF_at hF k B' hk
    rintro (q | ⟨r, C, q1, q2, q3⟩)
    · exact hG'.sep k B b (hget k B h2) (by rw [frB_hot h3]; exact hh) hb q
    · exact hG'.far k r B C b (hget k B h2) q2 (by rw [frB_hot h3]; exact hh) (by have := hlt k B' hk; omega) hb q3
  · obtain ⟨_, C, h2, h3⟩ := okF_at hF k B hk
    obtain ⟨_, C', h4, h5⟩ := okF_at hF k' B' hk'
    exact hG'.far k k' C C' b (hget k C h2) (hget k' C' h4) (by rw [frB_hot h3]; exact hh) hne hb
/-- The last blocks are not written any more; cells that hold them say what they read as. -/
theorem cq_shut {n : Nat} {T : Nat → AV} {H1' : Heap} {tl : List (Nat × AV)} (d : Nat) (hn : n ≤ H1.length) (hF : okF H1.length d L H1' H1) (hT : okD H1.length d L T tl) : Cq E n T (H1 ++ L) (ofl tl) H1' := fun _ => by
  have hlen := okF_len hF
  refine ⟨by omega, fun M w N a hG hT0 => ⟨M.shut H1 L, hG.shut hF, ⟨hT0.1, fun i => ?_⟩, ⟨rfl, rfl, rfl, Nat.le_refl _, fun _ h => .inl h, fun b hb => ?_, fun _ _ _ => rfl, by omega, fun _ _ => rfl, fun _ _ => rfl, fun b ⟨k, B, q1, q2, q3⟩ => ?_⟩⟩⟩
  · rw [hlen]
    exact ofl_all (p := fun i x => VR (M.shut H1 L) H1.length w x (a.tmps.getD i undef)) trivial fun x hx => VR.down (okD_all hT x hx).1 ((okD_all hT x hx).2 _ _ _ _ (VR.frz hG d (hT0.2 x.1)))
  · rcases hb with hb | ⟨r, B, _, q2, q3⟩
    · exact .inl hb
    · exact shut_hot hG (Ext.refl M w (H1 ++ L)) q2 q3
  · obtain ⟨_, C, h2, h3⟩ := okF_at hF k B q1
    exact .inl ⟨k, C, by rw [List.getElem?_append_left (List.getElem?_eq_some_iff.1 h2).1]; exact h2, by rw [frB_hot h3]; exact q2, q3⟩
end
theorem cq_f {E : Env} {n : Nat} {T : Nat → AV} {L L1' : Heap} {tl : List (Nat × AV)} (σ : List Nat) (L1 L2 : Heap) (tl1 : List (Nat × AV)) (d : Nat) (hn : σ.take n = List.range n) (hσ : (lv (L1 ++ L2) σ).Nodup)
    (hL : okL (L1 ++ L2).length (fun r => σ.getD r 0) L (L1 ++ L2) σ) (hT1 : okT (L1 ++ L2).length (fun r => σ.getD r 0) T tl1) (hnl : n ≤ L1.length)
    (hF : okF L1.length d L2 L1' L1) (hT : okD L1.length d L2 (ofl tl1) tl) : Cq E n T L (ofl tl) L1' :=
  (cq_any (tl := tl1) σ hn hσ hL hT1).trans (cq_shut d hnl hF hT)
/-- The end of a function: blocks renamed, the last ones told in the cells that hold them. -/
theorem end_f {E : Env} {n : Nat} {r r2 : AV} {L L1' : Heap} {p : (Nat → AV) → Heap → Prop} (σ : List Nat) (L1 L2 : Heap) (r1 : AV) (d : Nat) (hn : σ.take n = List.range n) (hσ : (lv (L1 ++ L2) σ).Nodup)
    (hL : okL (L1 ++ L2).length (fun r => σ.getD r 0) L (L1 ++ L2) σ) (hr1 : nb (L1 ++ L2).length r1 ∧ Wk r (amap (fun r => σ.getD r 0) r1)) (hnl : n ≤ L1.length)
    (hF : okF L1.length d L2 L1' L1) (hR : p (ofl [(0, r2)]) L1') (hr : nb L1.length r2 ∧ Wk (frz d L2 L1.length r1) r2) : Cl E n p (ofl [(0, r)]) L :=
  ⟨ofl [(0, r2)], L1', (cq_any (tl := [(0, r1)]) σ hn hσ hL ⟨⟨hr1.1, hr1.2⟩, trivial⟩).trans (cq_shut d hnl hF ⟨⟨hr.1, hr.2⟩, trivial⟩), hR⟩
end Go.Am
namespace Go.Proofs.Ytckppkimjiifpaa
open Go.RowKit Go.Cx Go.Am
noncomputable def E0 : Env := ⟨Try.prog, fun _ => .any⟩
end Go.Proofs.Ytckppkimjiifpaa
