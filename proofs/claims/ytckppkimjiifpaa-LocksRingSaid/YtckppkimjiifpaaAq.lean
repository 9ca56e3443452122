/- The abstract machine: the model does what it says; conversions, addresses, slices, appends. No condition. -/
import Derived.Test.YtckppkimjiifpaaAp
set_option linter.unusedSectionVars false
set_option linter.unusedVariables false
set_option linter.unusedSimpArgs false
set_option linter.deprecated false
namespace Go.Am
open Go.RowKit Go.Cx

section
variable {E : Env} {M : Mem} {w : World} {H : Heap}

/-- The tape was asked, nothing else. -/
theorem World.marked (P : Program) (w : World) (t e e2 : TypeId) (b o n c : Nat) (cur : Array Value) (fr : Nat × Nat) (ht : P.underlying t = some (.slice e)) (he : P.underlying e = some (.int .u8)) (hg : w.heap[b]? = some (.cells cur e2 fr)) :
    ∃ w' fr', (convert t t (.slice (some ⟨b, o, none⟩) n c)).run P w = .ok (.slice (some ⟨b, o, none⟩) n c) w' ∧ w'.os = w.os ∧ w'.tape = w.tape ∧ w'.output = w.output ∧ w'.heap.size = w.heap.size ∧
      (∀ k, k ≠ b → w'.heap[k]? = w.heap[k]?) ∧ w'.heap[b]? = some (.cells cur e2 fr') ∧ ((fr = (0, 0) ∨ cur.size ≤ fr.1) → cur.size ≤ fr'.1) := by
  have hsh : w.shape? b = some (e2, cur.size) := by unfold World.shape?; rw [hg]
  refine ⟨w.freeze ⟨b, cur.size, none⟩ 1, if fr.1 == fr.2 then (cur.size, cur.size + 1) else (min fr.1 cur.size, max fr.2 (cur.size + 1)), ?_, ?_, ?_, ?_, ?_, fun k hk => ?_, ?_, fun h => ?_⟩
  · simp [convert, run_underlying ht, run_underlying he, markStringish, hsh]
  all_goals try (unfold World.freeze; rw [if_neg (by decide)])
  · simp
  · simp only [Array.getElem?_modify]
    rw [if_neg (fun e => hk e.symm)]
  · simp only [Array.getElem?_modify, if_pos, hg, Option.map_some]
  · obtain ⟨lo, hi⟩ := fr
    rcases h with h | h
    · simp only [Prod.mk.injEq] at h
      obtain ⟨rfl, rfl⟩ := h
      simp
    · simp only at h ⊢
      split
      · exact Nat.le_refl _
      · show cur.size ≤ min lo cur.size
        omega

theorem conv_sound {src dst : TypeId} {a : AV} {u : Value} {K : AV → Heap → Prop} (hG : Gam E.gl M w H) (ha : VR M H.length w a u) (h : aconv E.P src dst a H K) : Yields E M w H (convert src dst u) K := by
  unfold aconv at h
  split at h
  · next e hs hd =>
    split at h
    case h_2 => exact h.elim
    case h_1 s =>
    obtain ⟨he, hn, hK⟩ := h
    unfold VR at ha
    subst ha
    obtain ⟨l, rfl⟩ : ∃ l, s = str l := ⟨s.data.toList, by cases s; simp [str]⟩
    have hl : (str l).size = l.length := by simp [str, ByteArray.size]
    have hcap := grownCap_ge w (str l).size 0 e
    have hcm : grownCap w (str l).size 0 e ≤ maxLen := grownCap_le_maxLen w (str l).size 0 e (by unfold maxLen; omega)
    have hsz : (bytesRow (str l) (grownCap w (str l).size 0 e)).size = grownCap w (str l).size 0 e := by
      simp [bytesRow, str, ByteArray.size] at hcap ⊢
      omega
    rw [str_toList] at hK
    refine hs_new (w1 := w.drew) (fr := ((bytesRow (str l) (grownCap w (str l).size 0 e)).size, (bytesRow (str l) (grownCap w (str l).size 0 e)).size + 1)) hG rfl rfl rfl rfl (.inr (Nat.le_refl _)) (us := l.map bv) bytes_VRss ?_ hcap hcm (by rw [hsz, Nat.mul_one]; exact Nat.le_refl _)
      (run_bytes_of_string w src dst e (str l) hs hd he) hK
    have : (bytesRow (str l) (grownCap w (str l).size 0 e)).toList = l.map bv ++ (Array.replicate (grownCap w (str l).size 0 e - (str l).size) (Value.int .u8 0)).toList := by
      simp [bytesRow, str, bv]
    rw [this, List.take_left']
    rfl
  · next e e' hs hd =>
    obtain ⟨rfl, he, h⟩ := h
    split at h
    case h_2 => exact h.elim
    case h_1 r sz n =>
    obtain ⟨⟨es, hr⟩, hn, hK⟩ := h
    have ha0 := ha
    unfold VR at ha
    obtain ⟨hlt, ao, cap, rfl, k1, k2, k3, k4⟩ := ha
    rcases k4 with ⟨k4, _⟩ | ⟨k4, _⟩ | ⟨b, k5, k6, k7⟩
    · omega
    · omega
    rcases hG.blks r _ hr with ⟨h1, _⟩ | ⟨b', cur, e2, fr, us, j1, j2, j3, j4, j5, j6, j7⟩
    · rw [k5] at h1; cases h1
    rw [k5] at j1
    cases j1
    subst k6
    obtain ⟨w', fr', m1, m2, m3, m4, m5, m6, m7, m8⟩ := World.marked E.P w src e e2 b (0 * sz) n cap cur fr hs he j2
    have hGw : ∀ k, M.G k → w'.heap[k]? = w.heap[k]? := fun k hk => m6 k (fun e => hG.sep r _ b hr rfl k5 (e ▸ hk))
    have keep : ∀ {a u}, VR M H.length w a u → VR M H.length w' a u := VR.mono (fun _ h => h) hGw (Nat.le_refl _) (fun _ _ => ⟨rfl, rfl⟩)
    refine ⟨_, w', _, M, H, m1, hK, ⟨fun g => VR.mono (M := M) (M' := M) (n := 0) (w := w) (fun _ h => h) hGw (Nat.le_refl _) (fun _ _ => ⟨rfl, rfl⟩) (hG.glob g), fun k hk => by rw [m5]; exact hG.inG k hk, fun k B hk => ?_, hG.sep, hG.far⟩, keep ha0,
      ⟨m2, m3, m4, by omega, fun _ h => h, fun _ h => .inl h, fun k hk hn => m6 k (fun e => hn ⟨r, _, hr, rfl, e ▸ k5⟩), Nat.le_refl _, fun _ _ => rfl, fun _ _ => rfl, fun _ h => .inl h⟩⟩
    by_cases hkr : k = r
    · subst hkr
      rw [hr] at hk
      cases hk
      exact .inr ⟨b, cur, e2, fr', us, k5, m7, .inr (m8 j3), j4, VRss.mono (fun _ h => h) hGw (Nat.le_refl _) (fun _ _ => ⟨rfl, rfl⟩) j5, j6, j7⟩
    · exact BR.mono (M := M) (n := H.length) (w := w) (r := k) (fun _ h => h) hGw (Nat.le_refl _) (fun _ _ => ⟨rfl, rfl⟩) rfl rfl (fun c hc => m6 c (fun e => hG.far r k _ B b hr hk rfl hkr k5 (e ▸ hc))) (hG.blks k B hk)
  · next e hs hd =>
    obtain ⟨he, l, hl, hK⟩ := h
    obtain ⟨ao, cap, us, rfl, h1, h2⟩ := elems_out hG ha hl
    have hus := VRss_bytes h1
    subst hus
    refine .pure hG (h2.conv hs he hd (by simp)) (by simp [VR]) hK
  · next k1 k2 hs hd =>
    split at h
    case h_2 => exact h.elim
    case h_1 k n =>
    unfold VR at ha
    subst ha
    refine .pure hG (u := .int k2 (k2.wrap n)) ?_ (by simp [VR]) h
    simp [convert, run_underlying hs, run_underlying hd, Conv.intToInt]
  · obtain ⟨x, hx, r, hr, hK⟩ := h
    rw [conc_out hx ha]
    exact .ret hG hr hK

theorem field_sound {t : TypeId} {f : Nat} {a : AV} {u : Value} {K : AV → Heap → Prop} (hG : Gam E.gl M w H) (ha : VR M H.length w a u) (h : afield E.P t a f fun v => K v H) : Yields E M w H (Instr.field t u f) K := by
  obtain ⟨fs, off, s, g, h1, h2, cs, rfl, h3⟩ := h
  obtain ⟨fl, hu, _, hf⟩ := stI_out h1
  obtain ⟨fd, hfd, hx⟩ := hf f _ h2
  obtain ⟨rfl, hs, hg⟩ := fieldI_out hx
  unfold VR at ha
  obtain ⟨us, rfl, hus⟩ := ha
  obtain ⟨u, w', v, M', H', k1, k2⟩ := part_sound (K := K) hG hs hg hus h3
  refine ⟨u, w', v, M', H', ?_, k2⟩
  rw [← k1]
  simp [Instr.field, run_underlying hu, hfd, asAgg]

theorem fieldAddr_sound {t : TypeId} {f : Nat} {a : AV} {u : Value} {K : AV → Heap → Prop} (hG : Gam E.gl M w H) (ha : VR M H.length w a u) (h : afieldAddr E.P t a f fun v => K v H) : Yields E M w H (Instr.fieldAt t u f) K := by
  obtain ⟨fs, off, s, g, h1, h2, h3, h4⟩ := h
  obtain ⟨fl, hu, _, hf⟩ := stI_out h1
  obtain ⟨fd, hfd, hx⟩ := hf f _ h2
  obtain ⟨rfl, hs, hg⟩ := fieldI_out hx
  have hrun : ∀ b o, (Instr.fieldAt t (.pointer (some ⟨b, o, none⟩)) f).run E.P w = .ok (.pointer (some ⟨b, o + fd.offset, none⟩)) w := by
    intro b o
    simp [Instr.fieldAt, run_underlying hu, hfd, Instr.sureAddr, fieldPlace, hs w, h3, addr_add]
  cases a with
  | ptr r o =>
    unfold VR at ha
    obtain ⟨k1, b, k2, rfl⟩ := ha
    refine .pure hG (hrun b o) ?_ h4
    unfold VR
    exact ⟨k1, b, k2, rfl⟩
  | rp r sz i o =>
    unfold VR at ha
    obtain ⟨k1, b, k2, rfl⟩ := ha
    refine .pure hG (hrun b _) ?_ h4
    unfold VR
    exact ⟨k1, b, k2, by rw [Nat.add_assoc]⟩
  | cptr cs =>
    unfold VR at ha
    obtain ⟨b, o, us, rfl, k1, k2, k3⟩ := ha
    refine .pure hG (hrun b o) ?_ h4
    unfold VR
    refine ⟨b, _, us.drop fd.offset, rfl, k1, VRs.drop _ k2, fun j x hj => ?_⟩
    rw [Nat.add_assoc]
    exact k3 _ _ (by simpa using hj)
  | _ => exact h4.elim

theorem index_sound {t : TypeId} {a i : AV} {u x : Value} {K : AV → Heap → Prop} (hG : Gam E.gl M w H) (ha : VR M H.length w a u) (hi : VR M H.length w i x) (h : aindex E.P t a i fun v => K v H) : Yields E M w H (Instr.index t u x) K := by
  unfold aindex at h
  split at h
  case h_2 => exact h.elim
  case h_1 kd i =>
  unfold VR at hi
  subst hi
  split at h
  case h_1 s =>
    obtain ⟨hu, hb, hK⟩ := h
    unfold VR at ha
    subst ha
    refine .pure hG (u := .int .u8 ((s.data.getD i.toNat 0).toNat : Int)) ?_ (by simp [VR]) hK
    have hlt : i.toNat < s.size := by omega
    have hlt' : i.toNat < s.data.size := hlt
    have e : s[i.toNat]? = some s.data[i.toNat] := by
      show (if h : i.toNat < s.size then some s[i.toNat] else none) = _
      rw [dif_pos hlt]
      rfl
    simp [Instr.index, asIntOf, run_underlying hu, hb.1, e, Array.getD]
    rw [dif_pos hb.2]
  case h_2 cs =>
    obtain ⟨n, sz, g, h1, hb, h2⟩ := h
    obtain ⟨e, hu, hs, hg⟩ := arI_out h1
    unfold VR at ha
    obtain ⟨us, rfl, hus⟩ := ha
    obtain ⟨u, w', v, M', H', k1, k2⟩ := part_sound (K := K) hG hs hg hus h2
    refine ⟨u, w', v, M', H', ?_, k2⟩
    rw [← k1]
    simp [Instr.index, asIntOf, run_underlying hu, hs w, hb.1, hb.2]
  case h_3 => exact h.elim

theorem indexAddr_sound {t : TypeId} {a i : AV} {u x : Value} {K : AV → Heap → Prop} (hG : Gam E.gl M w H) (ha : VR M H.length w a u) (hi : VR M H.length w i x) (h : aindexAddr E.P t a i fun v => K v H) : Yields E M w H (Instr.indexAt t u x) K := by
  unfold aindexAddr at h
  split at h
  case h_2 => exact h.elim
  case h_1 kd i =>
  unfold VR at hi
  subst hi
  have hsl : ∀ {e sz}, slI E.P t = some (e, sz) → ∀ b o n c, 0 ≤ i ∧ i < (n : Nat) → (Instr.indexAt t (.slice (some ⟨b, o, none⟩) n c) (.int kd i)).run E.P w = .ok (.pointer (some ⟨b, o + i.toNat * sz, none⟩)) w := by
    intro e sz h b o n c hb
    obtain ⟨hu, hs, _⟩ := slI_out h
    simp [Instr.indexAt, asIntOf, run_underlying hu, hs w, hb.1, hb.2, addr_add]
  have har : ∀ {n sz g}, arI E.P t = some (n, sz, g) → ∀ b o, 0 ≤ i ∧ i < (n : Nat) → (Instr.indexAt t (.pointer (some ⟨b, o, none⟩)) (.int kd i)).run E.P w = .ok (.pointer (some ⟨b, o + i.toNat * sz, none⟩)) w := by
    intro n sz g h b o hb
    obtain ⟨e, hu, hs, _⟩ := arI_out h
    simp [Instr.indexAt, Instr.sureAddr, asIntOf, run_underlying hu, hs w, hb.1, hb.2, addr_add]
  split at h
  · next sz es =>
    obtain ⟨⟨e, he⟩, hb, hK⟩ := h
    unfold VR at ha
    obtain ⟨ao, cap, us, rfl, k1, k2⟩ := ha
    have hlt : i.toNat < es.length := by omega
    rcases k2.at_ with ⟨k3, _⟩ | ⟨b, off, rfl, hg, hc⟩
    · omega
    refine .pure hG (hsl he b off _ cap hb) ?_ hK
    obtain ⟨c, c1, c2, c3⟩ := VRss.get k1 (show es[i.toNat]? = some (es.getD i.toNat []) by simp [hlt])
    unfold VR
    refine ⟨b, _, c, rfl, hg, c2, fun j x hj => ?_⟩
    have hjl : j < sz := by rw [← c1]; exact (List.getElem?_eq_some_iff.1 hj).1
    rw [Nat.add_assoc]
    exact hc _ _ ((c3 j hjl).trans hj)
  · next r sz off n =>
    obtain ⟨⟨e, he⟩, hb, hK⟩ := h
    unfold VR at ha
    obtain ⟨k0, ao, cap, rfl, k1, k2, k3, k4⟩ := ha
    rcases k4 with ⟨k4, _⟩ | ⟨k4, _⟩ | ⟨b, k5, rfl, k7⟩
    · omega
    · omega
    refine .pure hG (hsl he b _ _ cap hb) ?_ hK
    unfold VR
    exact ⟨k0, b, k5, by rw [Nat.add_mul, Nat.add_zero]⟩
  · next r sz off n =>
    obtain ⟨⟨e, he⟩, hb, hK⟩ := h
    unfold VR at ha
    obtain ⟨k0, ao, cap, rfl, k1, k2, k3, k4⟩ := ha
    rcases k4 with k4 | ⟨b, k5, rfl⟩
    · omega
    refine .pure hG (hsl he b _ _ cap hb) ?_ hK
    unfold VR
    exact ⟨k0, b, k5, rfl⟩
  · next r off =>
    obtain ⟨n, sz, g, he, hb, hK⟩ := h
    unfold VR at ha
    obtain ⟨k0, b, k1, rfl⟩ := ha
    refine .pure hG (har he b off hb) ?_ hK
    unfold VR
    exact ⟨k0, b, k1, rfl⟩
  · next r s j off =>
    obtain ⟨n, sz, g, he, hb, hK⟩ := h
    unfold VR at ha
    obtain ⟨k0, b, k1, rfl⟩ := ha
    refine .pure hG (har he b _ hb) ?_ hK
    unfold VR
    exact ⟨k0, b, k1, by rw [Nat.add_assoc]⟩
  · next cs =>
    obtain ⟨n, sz, g, he, hb, hK⟩ := h
    unfold VR at ha
    obtain ⟨b, o, us, rfl, k1, k2, k3⟩ := ha
    refine .pure hG (har he b o hb) ?_ hK
    unfold VR
    refine ⟨b, _, us.drop (i.toNat * sz), rfl, k1, VRs.drop _ k2, fun j x hj => ?_⟩
    rw [Nat.add_assoc]
    exact k3 _ _ (by simpa using hj)
  · exact h.elim

theorem alen_out {a : AV} {n : Nat} {u : Value} (ha : VR M H.length w a u) (h : alen a = some n) : ∃ ao cap, u = .slice ao n cap ∧ n ≤ cap ∧ cap ≤ maxLen := by
  unfold alen at h
  split at h
  · cases h; unfold VR at ha; obtain ⟨ao, cap, us, rfl, _, h2⟩ := ha; exact ⟨ao, cap, rfl, h2.cle, h2.max⟩
  · cases h; unfold VR at ha; obtain ⟨_, ao, cap, rfl, h1, h2, _⟩ := ha; exact ⟨ao, cap, rfl, h1, h2⟩
  · cases h; unfold VR at ha; obtain ⟨_, ao, cap, rfl, h1, h2, _⟩ := ha; exact ⟨ao, cap, rfl, h1, h2⟩
  · cases h; unfold VR at ha; obtain ⟨ao, rfl⟩ := ha; exact ⟨ao, 0, rfl, Nat.le_refl _, Nat.zero_le _⟩
  · cases h; unfold VR at ha; subst ha; exact ⟨none, 0, rfl, Nat.le_refl _, Nat.zero_le _⟩
  · cases h

theorem run_sliceBound {P : Program} {k : IntKind} {i : Int} {y : Nat} {c : BoundsCode} (h : 0 ≤ i ∧ i ≤ y) (w : World) : (Instr.sliceBound (.int k i) y c).run P w = .ok i.toNat w := by
  simp [Instr.sliceBound, asIntOf, h.1, h.2]

theorem abound_out {M : Mem} {n : Nat} {w : World} {x : Option AV} {d l : Int} {o : Option Value} (hx : ∀ a, x = some a → ∃ u, o = some u ∧ VR M n w a u) (hn : x = none → o = none) (h : abound x d = some l) : (x = none ∧ o = none ∧ l = d) ∨ ∃ k, x.isSome = true ∧ o = some (.int k l) := by
  unfold abound at h
  split at h
  · cases h; exact .inl ⟨rfl, hn rfl, rfl⟩
  · next k i =>
    cases h
    obtain ⟨u, h1, h2⟩ := hx _ rfl
    unfold VR at h2
    subst h2
    exact .inr ⟨k, rfl, h1⟩
  · cases h

def capOf : Option Value → Nat → Nat → Nat
  | none, cap, _ => cap
  | some _, _, m => m

theorem run_sliceBounds {P : Program} {sl : Bool} {n cap : Nat} {lo hi mx : Option Value} {l h m : Int} (hlo : (lo = none ∧ l = 0) ∨ ∃ k, lo = some (.int k l)) (hhi : (hi = none ∧ h = n) ∨ ∃ k, hi = some (.int k h)) (hmx : (mx = none ∧ m = n) ∨ ∃ k, mx = some (.int k m) ∧ hi ≠ none)
    (h0 : 0 ≤ l ∧ l ≤ h ∧ h ≤ m ∧ m ≤ n) (hc : n ≤ cap) (w : World) : (Instr.sliceBounds sl n cap lo hi mx).run P w = .ok (l.toNat, h.toNat, capOf mx cap m.toNat) w := by
  obtain ⟨h1, h2, h3, h4⟩ := h0
  unfold Instr.sliceBounds capOf
  rcases hmx with ⟨rfl, rfl⟩ | ⟨km, rfl, hne⟩
  · rcases hhi with ⟨rfl, rfl⟩ | ⟨kh, rfl⟩
    · rcases hlo with ⟨rfl, rfl⟩ | ⟨kl, rfl⟩
      · simp
      · simp [run_sliceBound (P := P) (k := kl) (i := l) (y := n) ⟨h1, by omega⟩]
    · rcases hlo with ⟨rfl, rfl⟩ | ⟨kl, rfl⟩
      · simp [run_sliceBound (P := P) (k := kh) (i := h) (y := cap) ⟨by omega, by omega⟩]
      · simp [run_sliceBound (P := P) (k := kh) (i := h) (y := cap) ⟨by omega, by omega⟩, run_sliceBound (P := P) (k := kl) (i := l) (y := h.toNat) ⟨h1, by omega⟩]
  · rcases hhi with ⟨rfl, _⟩ | ⟨kh, rfl⟩
    · exact absurd rfl hne
    · rcases hlo with ⟨rfl, rfl⟩ | ⟨kl, rfl⟩
      · simp [run_sliceBound (P := P) (k := km) (i := m) (y := cap) ⟨by omega, by omega⟩, run_sliceBound (P := P) (k := kh) (i := h) (y := m.toNat) ⟨by omega, by omega⟩]
      · simp [run_sliceBound (P := P) (k := km) (i := m) (y := cap) ⟨by omega, by omega⟩, run_sliceBound (P := P) (k := kh) (i := h) (y := m.toNat) ⟨by omega, by omega⟩, run_sliceBound (P := P) (k := kl) (i := l) (y := h.toNat) ⟨h1, by omega⟩]

/-- A part of a row that reads. -/
theorem _root_.Go.Cx.RowAt.cutAt {G : Nat → Prop} {w : World} {ao : Option Addr} {n cap s : Nat} {cells : List Value} (h : RowAt G w ao n cap s cells) {l k m : Nat} (h1 : l ≤ k) (h2 : k ≤ n) (h3 : k ≤ m) (h4 : m ≤ cap) :
    RowAt G w (if m = l then ao else ao.map (·.add (l * s))) (k - l) (m - l) s ((cells.take (k * s)).drop (l * s)) := by
  have hmul : k * s ≤ n * s := Nat.mul_le_mul_right _ h2
  have hM := h.max
  refine ⟨?_, by omega, by omega, fun u hu => h.one u (List.mem_of_mem_take (List.mem_of_mem_drop hu)), ?_⟩
  · rw [List.length_drop, List.length_take, h.len, Nat.min_eq_left hmul, Nat.sub_mul]
  · by_cases hml : m = l
    · rw [if_pos hml]
      refine .inl ⟨by omega, fun _ => by omega⟩
    · rw [if_neg hml]
      rcases h.at_ with ⟨h0, hz⟩ | ⟨b, off, rfl, hg, hx⟩
      · refine .inl ⟨by omega, fun hn => ?_⟩
        cases ao with
        | none => have := hz rfl; omega
        | some a => cases hn
      · refine .inr ⟨b, off + l * s, by simp [addr_add], hg, fun j u hj => ?_⟩
        rw [List.getElem?_drop, List.getElem?_take] at hj
        split at hj
        · rw [Nat.add_assoc]; exact hx _ _ hj
        · cases hj

theorem slice_sound {t : TypeId} {a : AV} {lo hi mx : Option AV} {u : Value} {lo' hi' mx' : Option Value} {K : AV → Heap → Prop} (hG : Gam E.gl M w H) (ha : VR M H.length w a u)
    (hlo : (∀ a, lo = some a → ∃ u, lo' = some u ∧ VR M H.length w a u) ∧ (lo = none → lo' = none)) (hhi : (∀ a, hi = some a → ∃ u, hi' = some u ∧ VR M H.length w a u) ∧ (hi = none → hi' = none))
    (hmx : (∀ a, mx = some a → ∃ u, mx' = some u ∧ VR M H.length w a u) ∧ (mx = none → mx' = none)) (h : aslice E.P t a lo hi mx fun v => K v H) : Yields E M w H (Instr.sliceAt t u lo' hi' mx') K := by
  unfold aslice at h
  split at h
  · next s =>
    obtain ⟨hu, rfl, l, k, h1, h2, h3, hK⟩ := h
    unfold VR at ha
    subst ha
    have e3 := hmx.2 rfl
    subst e3
    refine .pure hG (u := .string (s.extract l.toNat k.toNat)) ?_ (by simp [VR]) hK
    have b1 : (lo' = none ∧ l = 0) ∨ ∃ k, lo' = some (.int k l) := by
      rcases abound_out hlo.1 hlo.2 h1 with ⟨_, e, e'⟩ | ⟨k, _, e⟩
      · exact .inl ⟨e, e'⟩
      · exact .inr ⟨k, e⟩
    have b2 : (hi' = none ∧ k = s.size) ∨ ∃ j, hi' = some (.int j k) := by
      rcases abound_out hhi.1 hhi.2 h2 with ⟨_, e, e'⟩ | ⟨j, _, e⟩
      · exact .inl ⟨e, e'⟩
      · exact .inr ⟨j, e⟩
    have hb := run_sliceBounds (P := E.P) (sl := false) (n := s.size) (cap := s.size) (m := (s.size : Nat)) b1 b2 (.inl ⟨rfl, rfl⟩) ⟨h3.1, h3.2.1, h3.2.2, by omega⟩ (Nat.le_refl _) w
    simp [Instr.sliceAt, run_underlying hu, Instr.slice, hb, capOf]
  · next r off =>
    obtain ⟨n, sz, g, h0, hn, rfl, l, k, h1, h2, h3, hK⟩ := h
    obtain ⟨e, hu, hs, _⟩ := arI_out h0
    unfold VR at ha
    obtain ⟨k0, b, k1, rfl⟩ := ha
    have e3 := hmx.2 rfl
    subst e3
    have b1 : (lo' = none ∧ l = 0) ∨ ∃ k, lo' = some (.int k l) := by
      rcases abound_out hlo.1 hlo.2 h1 with ⟨_, e, e'⟩ | ⟨k, _, e⟩
      · exact .inl ⟨e, e'⟩
      · exact .inr ⟨k, e⟩
    have b2 : (hi' = none ∧ k = n) ∨ ∃ j, hi' = some (.int j k) := by
      rcases abound_out hhi.1 hhi.2 h2 with ⟨_, e, e'⟩ | ⟨j, _, e⟩
      · exact .inl ⟨e, e'⟩
      · exact .inr ⟨j, e⟩
    have hb := run_sliceBounds (P := E.P) (sl := false) (n := n) (cap := n) (m := (n : Nat)) b1 b2 (.inl ⟨rfl, rfl⟩) ⟨h3.1, h3.2.1, h3.2.2, by omega⟩ (Nat.le_refl _) w
    refine .pure hG (u := .slice (some (if n = l.toNat then ⟨b, off, none⟩ else (⟨b, off, none⟩ : Addr).add (l.toNat * sz))) (k.toNat - l.toNat) (n - l.toNat)) ?_ ?_ hK
    · simp [Instr.sliceAt, run_underlying hu, Instr.sureAddr, hb, hs w, capOf]
    · unfold VR
      have e1 : (k - l).toNat = k.toNat - l.toNat := by omega
      rw [e1]
      refine ⟨k0, _, n - l.toNat, rfl, by omega, by unfold maxLen; omega, (fun h => by cases h), ?_⟩
      by_cases hnl : n = l.toNat
      · exact .inl (by omega)
      · rw [if_neg hnl]
        exact .inr ⟨b, k1, by rw [addr_add]⟩
  · obtain ⟨e, sz, h0, n, hn, l, k, m, h1, h2, h3, hb, hsome, hmt, hK⟩ := h
    obtain ⟨hu, hs, _⟩ := slI_out h0
    obtain ⟨ao, cap, hau, hcap, hcm⟩ := alen_out ha hn
    have b1 : (lo' = none ∧ l = 0) ∨ ∃ k, lo' = some (.int k l) := by
      rcases abound_out hlo.1 hlo.2 h1 with ⟨_, e, e'⟩ | ⟨k, _, e⟩
      · exact .inl ⟨e, e'⟩
      · exact .inr ⟨k, e⟩
    have b2 : (hi' = none ∧ k = n) ∨ ∃ j, hi' = some (.int j k) := by
      rcases abound_out hhi.1 hhi.2 h2 with ⟨_, e, e'⟩ | ⟨j, _, e⟩
      · exact .inl ⟨e, e'⟩
      · exact .inr ⟨j, e⟩
    have b3 : (mx' = none ∧ mx.isSome = false ∧ m = n) ∨ ∃ j, mx' = some (.int j m) ∧ mx.isSome = true ∧ hi' ≠ none := by
      rcases abound_out hmx.1 hmx.2 h3 with ⟨e0, e, e'⟩ | ⟨j, e0, e⟩
      · exact .inl ⟨e, by rw [e0]; rfl, e'⟩
      · refine .inr ⟨j, e, e0, ?_⟩
        rcases abound_out hhi.1 hhi.2 h2 with ⟨e1, e2, e'⟩ | ⟨j, _, e⟩
        · have := hsome e0
          rw [e1] at this
          cases this
        · rw [e]; simp
    have hbs := run_sliceBounds (P := E.P) (sl := true) (n := n) (cap := cap) (lo := lo') (hi := hi') (mx := mx') (l := l) (h := k) (m := m) b1 b2 (by
      rcases b3 with ⟨x, _, y⟩ | ⟨j, x, _, z⟩
      · exact .inl ⟨x, y⟩
      · exact .inr ⟨j, x, z⟩) hb hcap w
    obtain ⟨m', hm'⟩ : ∃ m' : Nat, m' = capOf mx' cap m.toNat := ⟨_, rfl⟩
    rw [← hm'] at hbs
    have hkm : k.toNat ≤ m' ∧ m' ≤ cap ∧ (mx.isSome = true → (m' : Int) = m) := by
      rcases b3 with ⟨x, y, z⟩ | ⟨j, x, y, z⟩
      · rw [x] at hm'
        have hm2 : m' = cap := hm'
        exact ⟨by omega, by omega, fun h => by rw [y] at h; cases h⟩
      · rw [x] at hm'
        have hm2 : m' = m.toNat := hm'
        exact ⟨by omega, by omega, fun _ => by omega⟩
    have hrun : (Instr.sliceAt t u lo' hi' mx').run E.P w = .ok (.slice (if m' = l.toNat then ao else ao.map (·.add (l.toNat * sz))) (k.toNat - l.toNat) (m' - l.toNat)) w := by
      rw [hau]
      simp [Instr.sliceAt, run_underlying hu, Instr.slice, hbs, hs w]
    clear hbs
    by_cases hc : mx.isSome = true ∧ m = l
    · refine .pure hG hrun ?_ (hmt hc)
      have e1 := hkm.2.2 hc.1
      unfold VR
      exact ⟨_, by rw [show k.toNat - l.toNat = 0 by omega, show m' - l.toNat = 0 by omega]⟩
    · have hK2 := hK hc
      clear hK hmt
      have e1 : (k - l).toNat = k.toNat - l.toNat := by omega
      split at hK2
      · next sz' es _ _ =>
        obtain ⟨rfl, hK⟩ := hK2
        refine .pure hG hrun ?_ hK
        unfold VR at ha ⊢
        obtain ⟨ao', cap', us, j1, j2, j3⟩ := ha
        rw [hau] at j1
        simp only [Value.slice.injEq] at j1
        obtain ⟨rfl, hnl, rfl⟩ := j1
        have hlen : ((es.take k.toNat).drop l.toNat).length = k.toNat - l.toNat := by simp; omega
        rw [hlen]
        exact ⟨_, _, _, rfl, VRss.drop l.toNat (VRss.take k.toNat j2), j3.cutAt (by omega) (by omega) (by omega) (by omega)⟩
      · next r sz' off n' _ _ =>
        obtain ⟨rfl, hK⟩ := hK2
        refine .pure hG hrun ?_ hK
        unfold VR at ha ⊢
        obtain ⟨j0, ao', cap', j1, j2, j3, j4, j5⟩ := ha
        rw [hau] at j1
        simp only [Value.slice.injEq] at j1
        obtain ⟨rfl, rfl, rfl⟩ := j1
        rw [e1]
        refine ⟨j0, _, m' - l.toNat, rfl, by omega, by omega, ?_, ?_⟩
        · intro hnone
          by_cases hml : m' = l.toNat
          · omega
          · rw [if_neg hml] at hnone
            cases ao with
            | none => have := j4 rfl; omega
            | some a => cases hnone
        · by_cases hml : m' = l.toNat
          · exact .inr (.inl ⟨by omega, by omega⟩)
          · rw [if_neg hml]
            rcases j5 with ⟨j5, j6⟩ | ⟨j5, j6⟩ | ⟨b, j6, rfl, j7⟩
            · exact .inl ⟨by omega, by omega⟩
            · exact .inr (.inl ⟨by omega, by omega⟩)
            · refine .inr (.inr ⟨b, j6, by simp [addr_add, Nat.add_mul], ?_⟩)
              refine Nat.le_trans (Nat.mul_le_mul_right _ ?_) j7
              omega
      · next r sz' off n' _ _ =>
        obtain ⟨rfl, hK⟩ := hK2
        refine .pure hG hrun ?_ hK
        unfold VR at ha ⊢
        obtain ⟨j0, ao', cap', j1, j2, j3, j4, j5⟩ := ha
        rw [hau] at j1
        simp only [Value.slice.injEq] at j1
        obtain ⟨rfl, rfl, rfl⟩ := j1
        rw [e1]
        refine ⟨j0, _, m' - l.toNat, rfl, by omega, by omega, ?_, ?_⟩
        · intro hnone
          by_cases hml : m' = l.toNat
          · omega
          · rw [if_neg hml] at hnone
            cases ao with
            | none => have := j4 rfl; omega
            | some a => cases hnone
        · by_cases hml : m' = l.toNat
          · exact .inl (by omega)
          · rw [if_neg hml]
            rcases j5 with j5 | ⟨b, j6, rfl⟩
            · exact .inl (by omega)
            · exact .inr ⟨b, j6, by simp [addr_add]⟩
      · refine .pure hG hrun ?_ hK2
        cases hn
        unfold VR at ha ⊢
        obtain ⟨ao', j1⟩ := ha
        rw [hau] at j1
        simp only [Value.slice.injEq] at j1
        obtain ⟨rfl, _, rfl⟩ := j1
        exact ⟨_, by rw [show k.toNat - l.toNat = 0 by omega, show m' - l.toNat = 0 by omega]⟩
      · refine .pure hG hrun ?_ hK2
        cases hn
        unfold VR at ha ⊢
        rw [hau] at ha
        simp only [Value.slice.injEq] at ha
        obtain ⟨rfl, _, rfl⟩ := ha
        rw [show k.toNat - l.toNat = 0 by omega, show m' - l.toNat = 0 by omega]
        simp
      · exact hK2.elim
end
end Go.Am
