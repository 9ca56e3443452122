/- The abstract machine: rules for numbers, bytes, slots. No condition. -/
import Derived.Test.YtckppkimjiifpaaAg
import Derived.IntWalk
set_option linter.unusedSectionVars false
set_option linter.unusedVariables false
set_option linter.unusedSimpArgs false
set_option linter.deprecated false
namespace Go.Am
open Go.RowKit Go.Cx

/-! ### slots -/
def okS (T : Nat → AV) : List (Nat × AV) → Prop
  | [] => True
  | (i, a) :: r => Wk (T i) a ∧ okS T r
theorem okS_all {T : Nat → AV} : ∀ {l : List (Nat × AV)}, okS T l → ∀ x ∈ l, Wk (T x.1) x.2
  | [], _, x, hx => by cases hx
  | (i, a) :: r, h, x, hx => by
    unfold okS at h
    rcases List.mem_cons.1 hx with rfl | hx
    · exact h.1
    · exact okS_all h.2 x hx
theorem cq_s {E : Env} {n : Nat} {T : Nat → AV} {H : Heap} {tl : List (Nat × AV)} (h : okS T tl) : Cq E n T H (ofl tl) H := cq_slots (okS_all h)
theorem wk_rfl (a : AV) : Wk a a = True := eq_true (Wk.refl a)
theorem wk_any (a : AV) : Wk a .any = True := eq_true (Wk.any a)
theorem wk_v {x y : Value} : Wk (.v x) (.v y) = (x = y) := propext ⟨fun h => (h ⟨fun _ => none, fun _ => 0, fun _ => False⟩ 0 default x rfl), fun h => by rw [h]; exact Wk.refl _⟩
theorem wk_nil (sz : Nat) : Wk (.v (.slice none 0 0)) (.sl sz []) = True := eq_true (Wk.nil sz)
theorem nb_byts {n : Nat} (l : List UInt8) : nb n (byts l) = True := eq_true (by unfold byts nb; exact nbss_bytes l)
theorem nbss_bcl {n : Nat} (l : List UInt8) : nbss n (l.map bcl) = True := eq_true (nbss_bytes l)
theorem amapss_bcl {f : Nat → Nat} (l : List UInt8) : amapss f (l.map bcl) = l.map bcl := amapss_id (n := 0) (fun r hr => absurd hr (Nat.not_lt_zero r)) (nbss_bytes l)
theorem amap_byts {f : Nat → Nat} (l : List UInt8) : amap f (byts l) = byts l := by unfold byts amap; rw [amapss_bcl]
theorem frz_v {d : Nat} {L : Heap} {N : Nat} {x : Value} : frz d L N (.v x) = .v x := by cases d <;> rfl
theorem frz_sl {d : Nat} {L : Heap} {N sz : Nat} {es : List (List AV)} : frz d L N (.sl sz es) = .sl sz es := by cases d <;> rfl
theorem frz_byts {d : Nat} {L : Heap} {N : Nat} (l : List UInt8) : frz d L N (byts l) = byts l := frz_sl
theorem frz_ptr {d : Nat} {L : Heap} {N r off : Nat} : frz d L N (.ptr r off) = .ptr r off := by cases d <;> rfl
theorem frz_any {d : Nat} {L : Heap} {N : Nat} : frz d L N .any = .any := by cases d <;> rfl
theorem frz_mt {d : Nat} {L : Heap} {N : Nat} : frz d L N .mt = .mt := by cases d <;> rfl
theorem frz_bcl {d : Nat} {L : Heap} {N : Nat} (b : UInt8) : (bcl b).map (frz d L N) = bcl b := by simp [bcl, frz_v]
theorem frzs_bcl {d : Nat} {L : Heap} {N : Nat} (l : List UInt8) : ((l.map bcl).map fun e => e.map (frz d L N)) = l.map bcl := by
  rw [List.map_map]
  exact List.map_congr_left fun b _ => frz_bcl b

/-! ### bytes -/
theorem getD_bcl {l : List UInt8} {i : Nat} (h : i < l.length) : (l.map bcl).getD i [] = [.v (.int .u8 ((l.getD i 0).toNat : Int))] := by
  rw [getD_bytes l i h, List.getD_eq_getElem?_getD, List.getElem?_eq_getElem h]
  rfl
theorem u8_255 (b : UInt8) : (b.toNat : Int) ≤ 255 := by have := b.toNat_lt; omega
section
variable (b : UInt8)
theorem w8_u8 : IntKind.u8.wrap (b.toNat : Int) = b.toNat := IntWalk.u8_in _ ⟨by omega, u8_255 b⟩
theorem w8_u16 : IntKind.u16.wrap (b.toNat : Int) = b.toNat := IntWalk.u16_in _ ⟨by omega, by have := u8_255 b; omega⟩
theorem w8_u32 : IntKind.u32.wrap (b.toNat : Int) = b.toNat := IntWalk.u32_in _ ⟨by omega, by have := u8_255 b; omega⟩
theorem w8_u64 : IntKind.u64.wrap (b.toNat : Int) = b.toNat := IntWalk.u64_in _ ⟨by omega, by have := u8_255 b; omega⟩
theorem w8_i64 : IntKind.i64.wrap (b.toNat : Int) = b.toNat := IntWalk.i64_in _ ⟨by omega, by have := u8_255 b; omega⟩
end
theorem bits_u8 : IntKind.bits .u8 = 8 := rfl
theorem bits_u16 : IntKind.bits .u16 = 16 := rfl
theorem bits_u32 : IntKind.bits .u32 = 32 := rfl
theorem bits_u64 : IntKind.bits .u64 = 64 := rfl
theorem bits_i64 : IntKind.bits .i64 = 64 := rfl
theorem wrap_u8_mod (n : Int) : IntKind.u8.wrap n = n % 256 := by rw [IntKind.wrap_u8]
theorem wrap_u8_nat (n : Nat) : IntKind.u8.wrap (n : Int) = ((UInt8.ofNat n).toNat : Int) := by rw [IntKind.wrap_u8]; simp
end Go.Am
namespace Go.Am
open Go.RowKit Go.Cx

mutual
/-- Nothing that hangs on frozen memory. -/
def gf : AV → Prop
  | .sl _ _ => False
  | .cptr _ => False
  | .agg cs => gfs cs
  | .tup vs => gfs vs
  | .fn _ a b => gfs a ∧ gfs b
  | _ => True
def gfs : List AV → Prop
  | [] => True
  | a :: as => gf a ∧ gfs as
end
def gfss : List (List AV) → Prop
  | [] => True
  | e :: es => gfs e ∧ gfss es
def gfB : Blk → Prop
  | .obj cs => gfs cs
  | .row hot _ es => hot = true ∧ gfss es
  | .map _ vs _ => gfs vs
  | .iter _ _ _ _ => True

theorem gfss_bcl (l : List UInt8) : gfss (l.map bcl) = True := eq_true (by
  induction l with
  | nil => simp [gfss]
  | cons b l ih => simp only [List.map_cons]; unfold gfss; exact ⟨by simp [bcl, gfs, gf], ih⟩)

section
variable {M M' : Mem} {n n' : Nat} {w : World} {f : Nat → Nat}
mutual
theorem VR.up (hb : ∀ r, r < n → f r < n' ∧ M'.blk (f r) = M.blk r ∧ M'.bsz (f r) = M.bsz r) : ∀ {a : AV} {u : Value}, (gf a ∨ ∀ b, M.G b → M'.G b) → VR M n w a u → VR M' n' w (amap f a) u
  | .any, _, _, _ => by unfold amap; trivial
  | .v _, _, _, h => by unfold amap; exact h
  | .mt, _, _, h => by unfold amap; unfold VR at h ⊢; exact h
  | .sl sz es, u, k, h => by
    have hG : ∀ b, M.G b → M'.G b := by rcases k with k | k; · unfold gf at k; exact k.elim
                                        · exact k
    unfold amap
    unfold VR at h ⊢
    obtain ⟨h1, h2, h3, h4, h5, h6⟩ := h
    rw [amapss_len]
    exact ⟨h1, h2, h3, h4, VRss.up hb (.inr hG) h5, h6.mono hG (fun _ _ => rfl)⟩
  | .hs r .., u, _, h => by
    unfold amap
    unfold VR at h ⊢
    obtain ⟨e0, e1, e2⟩ := hb r h.1
    rw [e1, e2]
    exact ⟨e0, h.2⟩
  | .os r .., u, _, h => by
    unfold amap
    unfold VR at h ⊢
    obtain ⟨e0, e1, e2⟩ := hb r h.1
    rw [e1]
    exact ⟨e0, h.2⟩
  | .ptr r .., u, _, h => by
    unfold amap
    unfold VR at h ⊢
    obtain ⟨e0, e1, e2⟩ := hb r h.1
    rw [e1]
    exact ⟨e0, h.2⟩
  | .rp r .., u, _, h => by
    unfold amap
    unfold VR at h ⊢
    obtain ⟨e0, e1, e2⟩ := hb r h.1
    rw [e1]
    exact ⟨e0, h.2⟩
  | .cptr cs, u, k, h => by
    have hG : ∀ b, M.G b → M'.G b := by rcases k with k | k; · unfold gf at k; exact k.elim
                                        · exact k
    unfold amap
    unfold VR at h ⊢
    obtain ⟨h1, h2, h3, h4, h5, h6, h7⟩ := h
    exact ⟨h1, h2, h3, h4, hG _ h5, VRs.up hb (.inr hG) h6, h7⟩
  | .agg cs, u, k, h => by
    unfold amap
    unfold VR at h ⊢
    obtain ⟨h1, h2, h3⟩ := h
    exact ⟨h1, h2, VRs.up hb (k.imp (fun k => by unfold gf at k; exact k) id) h3⟩
  | .tup cs, u, k, h => by
    unfold amap
    unfold VR at h ⊢
    obtain ⟨h1, h2, h3⟩ := h
    exact ⟨h1, h2, VRt.up hb (k.imp (fun k => by unfold gf at k; exact k) id) h3⟩
  | .fn g a b, u, k, h => by
    unfold amap
    unfold VR at h ⊢
    obtain ⟨h1, h2, h3, h4, h5⟩ := h
    exact ⟨h1, h2, h3, VRt.up hb (k.imp (fun k => by unfold gf at k; exact k.1) id) h4, VRt.up hb (k.imp (fun k => by unfold gf at k; exact k.2) id) h5⟩
  | .mp r, u, _, h => by
    unfold amap
    unfold VR at h ⊢
    obtain ⟨e0, e1, e2⟩ := hb r h.1
    rw [e1]
    exact ⟨e0, h.2⟩
  | .ifp _ r _, u, _, h => by
    unfold amap
    unfold VR at h ⊢
    obtain ⟨e0, e1, e2⟩ := hb r h.1
    rw [e1]
    exact ⟨e0, h.2⟩
theorem VRs.up (hb : ∀ r, r < n → f r < n' ∧ M'.blk (f r) = M.blk r ∧ M'.bsz (f r) = M.bsz r) : ∀ {as : List AV} {us : List Value}, (gfs as ∨ ∀ b, M.G b → M'.G b) → VRs M n w as us → VRs M' n' w (amaps f as) us
  | [], _, _, h => by unfold amaps; unfold VRs at h ⊢; exact h
  | a :: as, us, k, h => by
    unfold amaps
    unfold VRs at h ⊢
    obtain ⟨u, r, h1, h2, h3, h4⟩ := h
    exact ⟨u, r, h1, h2, VR.up hb (k.imp (fun k => by unfold gfs at k; exact k.1) id) h3, VRs.up hb (k.imp (fun k => by unfold gfs at k; exact k.2) id) h4⟩
theorem VRt.up (hb : ∀ r, r < n → f r < n' ∧ M'.blk (f r) = M.blk r ∧ M'.bsz (f r) = M.bsz r) : ∀ {as : List AV} {us : List Value}, (gfs as ∨ ∀ b, M.G b → M'.G b) → VRt M n w as us → VRt M' n' w (amaps f as) us
  | [], _, _, h => by unfold amaps; unfold VRt at h ⊢; exact h
  | a :: as, us, k, h => by
    unfold amaps
    unfold VRt at h ⊢
    obtain ⟨u, r, h1, h3, h4⟩ := h
    exact ⟨u, r, h1, VR.up hb (k.imp (fun k => by unfold gfs at k; exact k.1) id) h3, VRt.up hb (k.imp (fun k => by unfold gfs at k; exact k.2) id) h4⟩
theorem VRss.up (hb : ∀ r, r < n → f r < n' ∧ M'.blk (f r) = M.blk r ∧ M'.bsz (f r) = M.bsz r) {sz : Nat} : ∀ {es : List (List AV)} {us : List Value}, (gfss es ∨ ∀ b, M.G b → M'.G b) → VRss M n w sz es us → VRss M' n' w sz (amapss f es) us
  | [], _, _, h => by unfold amapss; unfold VRss at h ⊢; exact h
  | e :: es, us, k, h => by
    unfold amapss
    unfold VRss at h ⊢
    obtain ⟨c, r, h1, h2, h3, h4⟩ := h
    exact ⟨c, r, h1, h2, VRs.up hb (k.imp (fun k => by unfold gfss at k; exact k.1) id) h3, VRss.up hb (k.imp (fun k => by unfold gfss at k; exact k.2) id) h4⟩
end
theorem BR.up (hb : ∀ r, r < n → f r < n' ∧ M'.blk (f r) = M.blk r ∧ M'.bsz (f r) = M.bsz r) {r : Nat} {B : Blk} (hr : r < n) (k : gfB B ∨ ∀ b, M.G b → M'.G b) (h : BR M n w r B) : BR M' n' w (f r) (bmap f B) := by
  obtain ⟨e0, e1, e2⟩ := hb r hr
  cases B with
  | obj cs =>
    unfold bmap
    unfold BR at h ⊢
    obtain ⟨h1, h2, h3, h4, h5, h6, h7, h8, h9⟩ := h
    rw [e1, e2]
    exact ⟨h1, h2, h3, h4, h5, h6, h7, h8, VRs.up hb (k.imp (fun k => k) id) h9⟩
  | row hot sz es =>
    unfold bmap
    unfold BR at h ⊢
    rw [e1, e2]
    rcases h with ⟨h1, h2⟩ | ⟨h1, h2, h3, h4, h5, h6, h7, h8, h9, h10, h11, h12⟩
    · subst h2
      exact .inl ⟨h1, rfl⟩
    · refine .inr ⟨h1, h2, h3, h4, h5, h6, h7, h8, h9, VRss.up hb (k.imp (fun k => k.2) id) h10, h11, fun hh => ?_⟩
      rcases k with k | k
      · rw [k.1] at hh; cases hh
      · exact k _ (h12 hh)
  | map ks vs st =>
    unfold bmap
    unfold BR at h ⊢
    obtain ⟨h1, h2, h3, h4, h5, h6, h7, h8, h9, h10, h11⟩ := h
    rw [e1]
    exact ⟨h1, h2, h3, h4, h5, h6, h7, h8, h9, VRt.up hb (k.imp (fun k => k) id) h10, h11⟩
  | iter m bs c seen =>
    unfold bmap
    unfold BR at h ⊢
    obtain ⟨h1, h2, h3, h4, h5, h6, h7⟩ := h
    obtain ⟨f0, f1, _⟩ := hb m h1
    exact ⟨f0, h2, h3, e1.trans h4, f1.trans h5, h6, h7⟩
end

/-! ### lent rows -/
def lentName : AV → Option Nat
  | .hs r _ _ _ => some r
  | .os r _ _ _ => some r
  | _ => none

theorem lent_out {E : Env} {M : Mem} {w : World} {H : Heap} {sz r : Nat} {a : AV} {es : List (List AV)} {u : Value} (hG : Gam E.gl M w H) (ha : VR M H.length w a u) (hr : lentName a = some r) (h : elems H sz a = some es) :
    ∃ ao cap us, u = .slice ao es.length cap ∧ VRss M H.length w sz es us ∧ RowAt (fun b => ∃ B, H[r]? = some (some B) ∧ M.blk r = some b) w ao es.length cap sz us := by
  obtain ⟨ao, cap, us, h1, h2, h3⟩ := elems_out hG ha h
  refine ⟨ao, cap, us, h1, h2, ⟨h3.len, h3.cle, h3.max, h3.one, ?_⟩⟩
  rcases h3.at_ with q | ⟨b, off, q1, _, q3⟩
  · exact .inl q
  · by_cases h0 : es.length = 0
    · refine .inl ⟨h0, fun e => ?_⟩
      rw [q1] at e
      cases e
    · refine .inr ⟨b, off, q1, ?_, q3⟩
      subst h1
      cases a with
      | hs r' sz' off' n =>
        cases hr
        unfold elems at h
        simp only at h
        split at h
        case h_2 => cases h
        case h_1 hot sz2 es0 hr =>
        split at h
        case isFalse => cases h
        case isTrue hc =>
        obtain ⟨rfl, rfl, hle⟩ := hc
        cases h
        unfold VR at ha
        obtain ⟨_, ao2, cap2, e, k1, k2, k3, k4⟩ := ha
        simp only [Value.slice.injEq] at e
        obtain ⟨rfl, e1, rfl⟩ := e
        rw [e1] at h0
        rcases k4 with ⟨k4, _⟩ | ⟨k4, _⟩ | ⟨b', k5, k6, k7⟩
        · exact absurd k4 h0
        · exact absurd k4 h0
        · rw [k6] at q1
          cases q1
          exact ⟨_, hr, k5⟩
      | os r' sz' off' n =>
        cases hr
        unfold elems at h
        simp only at h
        split at h
        case h_2 => cases h
        case h_1 cs hr =>
        split at h
        case isFalse => cases h
        case isTrue hc =>
        obtain ⟨rfl, hle⟩ := hc
        cases h
        unfold VR at ha
        obtain ⟨_, ao2, cap2, e, k1, k2, k3, k4⟩ := ha
        simp only [Value.slice.injEq] at e
        obtain ⟨rfl, e1, rfl⟩ := e
        rw [e1] at h0
        rcases k4 with k4 | ⟨b', k5, k6⟩
        · exact absurd k4 h0
        · rw [k6] at q1
          cases q1
          exact ⟨_, hr, k5⟩
      | _ => cases hr

/-! ### blocks among others -/
/-- Where a contract's names lie: those of σ, then new ones. -/
def sg (n : Nat) (σ : List Nat) (k : Nat) : Nat := if k < σ.length then σ.getD k 0 else n + (k - σ.length)
def backs (f : Nat → Nat) : List Nat → Heap → Heap → Heap
  | q :: σ, B :: H', H => backs f σ H' (H.set q (B.map (bmap f)))
  | _, _, H => H
def back (σ : List Nat) (H H' : Heap) : Heap := backs (sg H.length σ) σ H' H ++ (H'.drop σ.length).map (Option.map (bmap (sg H.length σ)))

theorem backs_len {f : Nat → Nat} : ∀ {σ : List Nat} {H' H : Heap}, (backs f σ H' H).length = H.length
  | [], [], _ => rfl
  | [], _ :: _, _ => rfl
  | _ :: _, [], _ => rfl
  | q :: σ, B :: H', H => by unfold backs; rw [backs_len, List.length_set]
theorem backs_out {f : Nat → Nat} {q : Nat} : ∀ {σ : List Nat} {H' H : Heap}, q ∉ σ → (backs f σ H' H)[q]? = H[q]?
  | [], [], _, _ => rfl
  | [], _ :: _, _, _ => rfl
  | _ :: _, [], _, _ => rfl
  | p :: σ, B :: H', H, h => by
    unfold backs
    rw [backs_out (fun h2 => h (List.mem_cons_of_mem _ h2)), List.getElem?_set_ne (fun e => h (by simp [e]))]
theorem backs_in {f : Nat → Nat} : ∀ {σ : List Nat} {H' H : Heap} {k : Nat}, σ.Nodup → (∀ q ∈ σ, q < H.length) → k < σ.length → (∀ B, H'[k]? = some B → (backs f σ H' H)[σ.getD k 0]? = some (B.map (bmap f)))
  | [], _, _, k, _, _, hk, _, _ => by simp at hk
  | _ :: _, [], _, _, _, _, _, _, h => by simp at h
  | q :: σ, B' :: H', H, 0, hn, hl, _, B, h => by
    simp at h
    subst h
    rw [List.nodup_cons] at hn
    unfold backs
    rw [List.getD_cons_zero, backs_out hn.1, List.getElem?_set_self (hl q (by simp))]
  | q :: σ, B' :: H', H, k + 1, hn, hl, hk, B, h => by
    rw [List.nodup_cons] at hn
    unfold backs
    rw [List.getD_cons_succ]
    exact backs_in hn.2 (fun x hx => by rw [List.length_set]; exact hl x (List.mem_cons_of_mem _ hx)) (by simpa using hk) B (by simpa using h)

section
variable {E : Env} {H Hs : Heap} {g : FuncId} {as as' : List AV} {R : AV → Heap → Prop}

/-- How an argument is read: by its names, or lent. -/
def rdV (lend : Bool) (σ : List Nat) (H : Heap) (n : Nat) (a' a : AV) : Prop :=
  (nb n a ∧ Wk a' (amap (sg H.length σ) a)) ∨ (lend = true ∧ ∃ r sz l, lentName a' = some r ∧ r ∉ σ ∧ elems H sz a' = some l ∧ nbss 0 l ∧ gfss l ∧ a = .sl sz l)
def rdVs (lend : Bool) (σ : List Nat) (H : Heap) (n : Nat) : List AV → List AV → Prop
  | [], [] => True
  | a' :: as', a :: as => rdV lend σ H n a' a ∧ rdVs lend σ H n as' as
  | _, _ => False

/-- .. a struct's cells likewise. -/
def rdEs (lend : Bool) (σ : List Nat) (H : Heap) (n : Nat) : List (List AV) → List (List AV) → Prop
  | [], [] => True
  | e' :: es', e :: es => rdVs lend σ H n e' e ∧ rdEs lend σ H n es' es
  | _, _ => False
def rdA (lend : Bool) (σ : List Nat) (H : Heap) (n : Nat) (a' a : AV) : Prop := rdV lend σ H n a' a ∨ (∃ cs' cs, a' = .agg cs' ∧ a = .agg cs ∧ rdVs lend σ H n cs' cs) ∨ ∃ sz es' es, a' = .sl sz es' ∧ a = .sl sz es ∧ rdEs lend σ H n es' es
def rdAs (lend : Bool) (σ : List Nat) (H : Heap) (n : Nat) : List AV → List AV → Prop
  | [], [] => True
  | a' :: as', a :: as => rdA lend σ H n a' a ∧ rdAs lend σ H n as' as
  | _, _ => False

/-- How the caller's memory looks to the one called. -/
def Mem.small (M : Mem) (lend : Bool) (σ : List Nat) (H : Heap) : Mem := ⟨fun k => if k < σ.length then M.blk (σ.getD k 0) else none, fun k => M.bsz (σ.getD k 0), fun c => M.G c ∨ (lend = true ∧ ∃ (q : Nat) (B : Blk), q ∉ σ ∧ H[q]? = some (some B) ∧ B.isHot = true ∧ M.blk q = some c)⟩
theorem ACalls.frameG (h : ACalls E g as Hs R) (lend : Bool) (σ : List Nat) (hσ : σ.Nodup) (hlen : Hs.length = σ.length) (hlt : ∀ q ∈ σ, q < H.length)
    (hH : ∀ (k : Nat) (B : Blk), Hs[k]? = some (some B) → nbB Hs.length B ∧ H[σ.getD k 0]? = some (some (bmap (sg H.length σ) B)))
    (hargs : ∀ (w : World) (M : Mem) (vs : List Value), Gam E.gl M w H → VRt M H.length w as' vs → VRt (M.small lend σ H) Hs.length w as vs) (hR : ∀ r H', R r H' → lend = true → gf r ∧ ∀ (k : Nat) (B : Blk), H'[k]? = some (some B) → gfB B) :
    ACalls E g as' H fun r' H'' => ∃ r H', R r H' ∧ r' = amap (sg H.length σ) r ∧ H'' = back σ H H' := by
  refine ⟨h.1, fun w M vs hG hv => ?_⟩
  let fh : Nat → Prop := fun c => ∃ (q : Nat) (B : Blk), q ∉ σ ∧ H[q]? = some (some B) ∧ B.isHot = true ∧ M.blk q = some c
  let M2 : Mem := ⟨fun k => if k < σ.length then M.blk (σ.getD k 0) else none, fun k => M.bsz (σ.getD k 0), fun c => M.G c ∨ (lend = true ∧ fh c)⟩
  have hin : ∀ {r B} {H : Heap}, H[r]? = some (some B) → r < H.length := fun h => (List.getElem?_eq_some_iff.1 h).1
  have hσd : ∀ k, k < σ.length → σ.getD k 0 ∈ σ := fun k hk => by
    rw [List.getD_eq_getElem?_getD, List.getElem?_eq_getElem hk]; simp
  have hσinj : ∀ j k, j < σ.length → k < σ.length → σ.getD j 0 = σ.getD k 0 → j = k := fun j k hj hk e => by
    rw [List.getD_eq_getElem?_getD, List.getD_eq_getElem?_getD, List.getElem?_eq_getElem hj, List.getElem?_eq_getElem hk] at e
    exact (List.getElem_inj hσ (h₀ := hj) (h₁ := hk)).1 (by simpa using e)
  have hot : ∀ (f : Nat → Nat) (B : Blk), (bmap f B).isHot = B.isHot := fun f B => by cases B <;> rfl
  have hGG : ∀ c, M.G c → M2.G c := fun c hc => .inl hc
  have hblt : ∀ {q B c}, H[q]? = some (some B) → M.blk q = some c → c < w.heap.size := fun h1 h2 => (hG.blks _ _ h1).lt h2
  have hfG : ∀ c, fh c → ¬ M.G c := fun c ⟨q, B, _, h2, h3, h4⟩ => hG.sep q B c h2 h3 h4
  -- the small heap
  have hbs : ∀ {k}, k < σ.length → M2.blk k = M.blk (σ.getD k 0) := fun hk => by simp only [M2]; rw [if_pos hk]
  have hG2 : Gam E.gl M2 w Hs := by
    refine ⟨fun q => VR.mono (M := M) (M' := M2) (n := 0) (w := w) hGG (fun _ _ => rfl) (Nat.le_refl _) (fun r hr => absurd hr (Nat.not_lt_zero r)) (hG.glob q), fun c hc => ?_, fun k B hk => ?_, fun k B c hk hh hb => ?_, fun k k' B B' c hk hk' hh hne hb hb' => ?_⟩
    · rcases hc with hc | ⟨_, q, B, _, h2, _, h4⟩
      · exact hG.inG c hc
      · exact hblt h2 h4
    · obtain ⟨k1, k2⟩ := hH k B hk
      have hkl : k < σ.length := by rw [← hlen]; exact hin hk
      have := hG.blks _ _ k2
      have e : σ.getD k 0 = sg H.length σ k := by unfold sg; rw [if_pos hkl]
      rw [e] at this
      refine BR.ren (M := M) (M' := M2) (n := H.length) (f := sg H.length σ) hGG (fun r hr => ?_) (hin hk) k1 this
      have hrl : r < σ.length := by rw [← hlen]; exact hr
      unfold sg
      rw [if_pos hrl]
      exact ⟨hbs hrl, rfl⟩
    · obtain ⟨k1, k2⟩ := hH k B hk
      have hkl : k < σ.length := by rw [← hlen]; exact hin hk
      rw [hbs hkl] at hb
      rintro (q | ⟨_, q, B2, q1, q2, q3, q4⟩)
      · exact hG.sep _ _ c k2 (by rw [hot]; exact hh) hb q
      · exact hG.far q _ B2 _ c q2 k2 q3 (fun e => q1 (e ▸ hσd k hkl)) q4 hb
    · obtain ⟨k1, k2⟩ := hH k B hk
      obtain ⟨j1, j2⟩ := hH k' B' hk'
      have hkl : k < σ.length := by rw [← hlen]; exact hin hk
      have hkl' : k' < σ.length := by rw [← hlen]; exact hin hk'
      rw [hbs hkl] at hb
      rw [hbs hkl'] at hb'
      exact hG.far _ _ _ _ c k2 j2 (by rw [hot]; exact hh) (fun e => hne (hσinj _ _ hkl' hkl e)) hb hb'
  have hhot2 : ∀ c, Hot M2 Hs c → Hot M H c ∧ ∃ k B, k < σ.length ∧ H[σ.getD k 0]? = some (some B) ∧ B.isHot = true ∧ M.blk (σ.getD k 0) = some c := fun c ⟨k, B, q1, q2, q3⟩ => by
    obtain ⟨k1, k2⟩ := hH k B q1
    have hkl : k < σ.length := by rw [← hlen]; exact hin q1
    rw [hbs hkl] at q3
    exact ⟨⟨_, _, k2, by rw [hot]; exact q2, q3⟩, k, _, hkl, k2, by rw [hot]; exact q2, q3⟩
  have hfar2 : ∀ {c q B}, Hot M2 Hs c → q ∉ σ → H[q]? = some (some B) → M.blk q ≠ some c := fun {c q B} hc hq hB => by
    obtain ⟨_, k, B', hk, k1, k2, k3⟩ := hhot2 c hc
    exact hG.far _ q _ B c k1 hB k2 (fun e => hq (e ▸ hσd k hk)) k3
  refine (h.2 w M2 vs hG2 (hargs w M vs hG hv)).mono ?_
  rintro e w' ⟨r, H', v, M', rfl, hr, hG', hv', hE⟩
  have hgf := hR r H' hr
  have hHl : σ.length ≤ H'.length := by rw [← hlen]; exact hE.len
  let M'' : Mem := ⟨fun q => if q < H.length then M.blk q else M'.blk (σ.length + (q - H.length)), fun q => if q < H.length then M.bsz q else M'.bsz (σ.length + (q - H.length)), fun c => M'.G c ∧ ¬ fh c⟩
  have hup : lend = false → ∀ c, M'.G c → M''.G c := fun hl c hc => ⟨hc, fun ⟨q, B, q1, q2, q3, q4⟩ => by
    rcases hE.gnew c hc with p | p | p
    · rcases p with p | ⟨p, _⟩
      · exact hG.sep q B c q2 q3 q4 p
      · rw [hl] at p; cases p
    · exact hfar2 p q1 q2 q4
    · have := hblt q2 q4; omega⟩
  have hsame : ∀ c, c < w.heap.size → (¬ ∃ k B, k < σ.length ∧ H[σ.getD k 0]? = some (some B) ∧ B.isHot = true ∧ M.blk (σ.getD k 0) = some c) → w'.heap[c]? = w.heap[c]? := fun c hc hn => hE.block c hc fun hh => hn (hhot2 c hh).2
  have hGsame : ∀ c, M.G c → w'.heap[c]? = w.heap[c]? := fun c hc => hsame c (hG.inG c hc) fun ⟨k, B, _, q1, q2, q3⟩ => hG.sep _ _ c q1 q2 q3 hc
  have hGup : ∀ c, M.G c → M''.G c := fun c hc => ⟨hE.G c (.inl hc), fun hf => hfG c hf hc⟩
  have hnames : ∀ k, k < H'.length → sg H.length σ k < (back σ H H').length ∧ M''.blk (sg H.length σ k) = M'.blk k ∧ M''.bsz (sg H.length σ k) = M'.bsz k := by
    intro k hk
    have hbl : (back σ H H').length = H.length + (H'.length - σ.length) := by unfold back; simp [backs_len]
    rw [hbl]
    unfold sg
    split
    · next hkl =>
      have h1 := hlt _ (hσd k hkl)
      have hkH : k < Hs.length := by rw [hlen]; exact hkl
      refine ⟨by omega, ?_, ?_⟩
      · simp only [M'']; rw [if_pos h1, hE.blk k hkH, hbs hkl]
      · simp only [M'']; rw [if_pos h1, hE.bsz k hkH]
    · next hkl =>
      refine ⟨by omega, ?_, ?_⟩
      · simp only [M'']; rw [if_neg (by omega)]; congr 1; omega
      · simp only [M'']; rw [if_neg (by omega)]; congr 1; omega
  have hvo : ∀ {k : Nat} {B : Blk}, H'[k]? = some (some B) → gfB B ∨ ∀ c, M'.G c → M''.G c := fun {k B} hk => by
    cases hl : lend with
    | true => exact .inl ((hgf hl).2 k B hk)
    | false => exact .inr (hup hl)
  -- what lies where
  have hcase : ∀ (q : Nat) (B : Blk), (back σ H H')[q]? = some (some B) → (q ∉ σ ∧ H[q]? = some (some B) ∧ M''.blk q = M.blk q) ∨ ∃ k B', H'[k]? = some (some B') ∧ q = sg H.length σ k ∧ B = bmap (sg H.length σ) B' := by
    intro q B hq
    unfold back at hq
    by_cases hql : q < H.length
    · rw [List.getElem?_append_left (by rw [backs_len]; exact hql)] at hq
      by_cases hqs : q ∈ σ
      · obtain ⟨k, hk, rfl⟩ := List.getElem_of_mem hqs
        have e : σ.getD k 0 = σ[k] := by rw [List.getD_eq_getElem?_getD, List.getElem?_eq_getElem hk]; rfl
        have := backs_in (f := sg H.length σ) (H := H) hσ hlt hk _ (List.getElem?_eq_getElem (l := H') (by omega : k < H'.length))
        rw [e, hq] at this
        have hkl : k < H'.length := by omega
        cases hB : H'[k] with
        | none => rw [hB] at this; simp at this
        | some B' =>
          rw [hB] at this
          simp at this
          refine .inr ⟨k, B', by rw [List.getElem?_eq_getElem hkl, hB], ?_, this⟩
          unfold sg
          rw [if_pos hk, e]
      · rw [backs_out hqs] at hq
        exact .inl ⟨hqs, hq, by simp only [M'']; rw [if_pos hql]⟩
    · rw [List.getElem?_append_right (by rw [backs_len]; omega), backs_len, List.getElem?_map, List.getElem?_drop] at hq
      obtain ⟨B0, h1, h2⟩ := Option.map_eq_some_iff.1 hq
      cases B0 with
      | none => simp at h2
      | some B' =>
        simp at h2
        refine .inr ⟨_, B', h1, ?_, h2.symm⟩
        unfold sg
        rw [if_neg (by omega)]
        omega
  have hnotfh : ∀ {k : Nat} {B' : Blk} {c : Nat}, H'[k]? = some (some B') → B'.isHot = true → M'.blk k = some c → ¬ fh c := fun {k B' c} h1 h2 h3 ⟨q, B, q1, q2, q3, q4⟩ => by
    rcases hE.hot c ⟨k, B', h1, h2, h3⟩ with p | p
    · exact hfar2 p q1 q2 q4
    · have := hblt q2 q4; omega
  have hGf : Gam E.gl M'' w' (back σ H H') := by
    refine ⟨fun q => VR.mono (M := M) (M' := M'') (n := 0) (w := w) hGup hGsame (Nat.le_refl _) (fun r hr => absurd hr (Nat.not_lt_zero r)) (hG.glob q), fun c hc => hG'.inG c hc.1, fun q B hq => ?_, fun q B c hq hh hb => ?_, fun q q' B B' c hq hq' hh hne hb hb' => ?_⟩
    · rcases hcase q B hq with ⟨q1, q2, q3⟩ | ⟨k, B', q1, rfl, rfl⟩
      · have hql := hin q2
        refine BR.mono (M := M) (M' := M'') (n := H.length) (w := w) (r := q) hGup hGsame (by have := (hnames : _); unfold back; simp [backs_len]) (fun r hr => ?_) q3 (by simp only [M'']; rw [if_pos hql]) (fun c hc => ?_) (hG.blks q B q2)
        · simp only [M'']; rw [if_pos hr, if_pos hr]; exact ⟨rfl, rfl⟩
        · refine hsame c (hblt q2 hc) fun ⟨k, B2, hk, k1, k2, k3⟩ => hG.far _ q _ B c k1 q2 k2 (fun e => q1 (e ▸ hσd k hk)) k3 hc
      · exact BR.up (fun r hr => hnames r hr) (hin q1) (hvo q1) (hG'.blks k B' q1)
    · rcases hcase q B hq with ⟨q1, q2, q3⟩ | ⟨k, B', q1, rfl, rfl⟩
      · rw [q3] at hb
        exact fun hc => hc.2 ⟨q, B, q1, q2, hh, hb⟩
      · rw [(hnames k (hin q1)).2.1] at hb
        exact fun hc => hG'.sep k B' c q1 (by rw [← hot (sg H.length σ)]; exact hh) hb hc.1
    · rcases hcase q B hq with ⟨q1, q2, q3⟩ | ⟨k, B1, q1, rfl, rfl⟩
      · rw [q3] at hb
        rcases hcase q' B' hq' with ⟨p1, p2, p3⟩ | ⟨k, B1, p1, rfl, rfl⟩
        · rw [p3] at hb'
          exact hG.far q q' B B' c q2 p2 hh hne hb hb'
        · rw [(hnames k (hin p1)).2.1] at hb'
          cases hh1 : B1.isHot with
          | true => exact hnotfh p1 hh1 hb' ⟨q, B, q1, q2, hh, hb⟩
          | false =>
            have := hG'.blks _ _ p1
            cases B1 with
            | obj cs => simp [Blk.isHot] at hh1
            | map ks vs st => simp [Blk.isHot] at hh1
            | iter m bs c seen => simp [Blk.isHot] at hh1
            | row hot' sz' es =>
              rcases this with ⟨j1, _⟩ | ⟨b', _, _, _, _, j1, _, _, _, _, _, j7⟩
              · rw [j1] at hb'; cases hb'
              · rw [j1] at hb'
                cases hb'
                have hGc := j7 (by simpa [Blk.isHot] using hh1)
                rcases hvo p1 with v1 | v1
                · have h3 : hot' = true := v1.1
                  simp [Blk.isHot, h3] at hh1
                · exact (v1 _ hGc).2 ⟨q, B, q1, q2, hh, hb⟩
      · rw [(hnames k (hin q1)).2.1] at hb
        rw [hot] at hh
        rcases hcase q' B' hq' with ⟨p1, p2, p3⟩ | ⟨k2, B2, p1, rfl, rfl⟩
        · rw [p3] at hb'
          rcases hE.hot c ⟨k, B1, q1, hh, hb⟩ with p | p
          · exact hfar2 p p1 p2 hb'
          · have := hblt p2 hb'; omega
        · rw [(hnames k2 (hin p1)).2.1] at hb'
          exact hG'.far k k2 B1 B2 c q1 p1 hh (fun e => hne (by rw [e])) hb hb'
  refine ⟨_, _, v, M'', rfl, ⟨r, H', hr, rfl, rfl⟩, hGf, VR.up (fun k hk => hnames k hk) ?_ hv', ⟨hE.os, hE.tape, hE.output, hE.size, hGup, fun c hc => ?_, fun c hc hn => hE.block c hc fun hh => hn (hhot2 c hh).1, by unfold back; simp [backs_len], fun q hq => ?_, fun q hq => ?_, fun c hc => ?_⟩⟩
  · cases hl : lend with
    | true => exact .inl (hgf hl).1
    | false => exact .inr (hup hl)
  · rcases hE.gnew c hc.1 with (p | ⟨_, p⟩) | p | p
    · exact .inl p
    · exact absurd p hc.2
    · exact .inr (.inl (hhot2 c p).1)
    · exact .inr (.inr p)
  · simp only [M'']; rw [if_pos hq]
  · simp only [M'']; rw [if_pos hq]
  · obtain ⟨q, B, q1, q2, q3⟩ := hc
    rcases hcase q B q1 with ⟨p1, p2, p3⟩ | ⟨k, B1, p1, rfl, rfl⟩
    · rw [p3] at q3
      exact .inl ⟨q, B, p2, q2, q3⟩
    · rw [(hnames k (hin p1)).2.1] at q3
      rw [hot] at q2
      rcases hE.hot c ⟨k, B1, p1, q2, q3⟩ with p | p
      · exact .inl (hhot2 c p).1
      · exact .inr p
theorem ACalls.frame (h : ACalls E g as Hs R) (lend : Bool) (σ : List Nat) (hσ : σ.Nodup) (hlen : Hs.length = σ.length) (hlt : ∀ q ∈ σ, q < H.length)
    (hH : ∀ (k : Nat) (B : Blk), Hs[k]? = some (some B) → nbB Hs.length B ∧ H[σ.getD k 0]? = some (some (bmap (sg H.length σ) B)))
    (ha : rdAs lend σ H Hs.length as' as) (hR : ∀ r H', R r H' → lend = true → gf r ∧ ∀ (k : Nat) (B : Blk), H'[k]? = some (some B) → gfB B) :
    ACalls E g as' H fun r' H'' => ∃ r H', R r H' ∧ r' = amap (sg H.length σ) r ∧ H'' = back σ H H' := by
  refine h.frameG lend σ hσ hlen hlt hH (fun w M vs hG hv => ?_) hR
  let fh : Nat → Prop := fun c => ∃ (q : Nat) (B : Blk), q ∉ σ ∧ H[q]? = some (some B) ∧ B.isHot = true ∧ M.blk q = some c
  let M2 : Mem := ⟨fun k => if k < σ.length then M.blk (σ.getD k 0) else none, fun k => M.bsz (σ.getD k 0), fun c => M.G c ∨ (lend = true ∧ fh c)⟩
  have hGG : ∀ c, M.G c → M2.G c := fun c hc => .inl hc
  have hbs : ∀ {k}, k < σ.length → M2.blk k = M.blk (σ.getD k 0) := fun hk => by simp only [M2]; rw [if_pos hk]
  -- the arguments
  have hval : ∀ {a' a : AV} {u : Value}, rdV lend σ H Hs.length a' a → VR M H.length w a' u → VR M2 Hs.length w a u := by
    intro a' a u h1 h3
    rcases h1 with ⟨k1, k2⟩ | ⟨hle, r', sz, l, k1, k2, k3, k4, k5, rfl⟩
    · refine VR.ren (M := M) (M' := M2) (n := H.length) (f := sg H.length σ) hGG (fun r hr => ?_) k1 (k2 _ _ _ _ h3)
      have hrl : r < σ.length := by rw [← hlen]; exact hr
      unfold sg
      rw [if_pos hrl]
      exact ⟨hbs hrl, rfl⟩
    · obtain ⟨ao, cap, us, rfl, j1, j2⟩ := lent_out hG h3 k1 k3
      unfold VR
      have j3 : VRss M2 0 w sz l us := VRss.mono (M := M) (M' := M2) (n := 0) (w := w) hGG (fun _ _ => rfl) (Nat.le_refl _) (fun r hr => absurd hr (Nat.not_lt_zero r)) (VRss.down k4 j1)
      refine ⟨ao, cap, us, rfl, VRss.mono (M := M2) (M' := M2) (n := 0) (w := w) (fun _ h => h) (fun _ _ => rfl) (Nat.zero_le _) (fun r hr => absurd hr (Nat.not_lt_zero r)) j3, j2.mono (fun b ⟨B, q1, q2⟩ => ?_) (fun _ _ => rfl)⟩
      cases hB : B.isHot with
      | true => exact .inr ⟨hle, r', B, k2, q1, hB, q2⟩
      | false =>
        have := hG.blks _ _ q1
        cases B with
        | obj cs => simp [Blk.isHot] at hB
        | map ks vs st => simp [Blk.isHot] at hB
        | iter m bs c seen => simp [Blk.isHot] at hB
        | row hot' sz' es =>
          rcases this with ⟨p1, _⟩ | ⟨b', _, _, _, _, p1, _, _, _, _, _, p7⟩
          · rw [p1] at q2; cases q2
          · rw [p1] at q2
            cases q2
            exact .inl (p7 (by simpa [Blk.isHot] using hB))
  have hcells : ∀ {as' as : List AV} {vs : List Value}, rdVs lend σ H Hs.length as' as → VRs M H.length w as' vs → VRs M2 Hs.length w as vs := by
    intro as'
    induction as' with
    | nil =>
      intro as vs h1 h2
      cases as with
      | nil => unfold VRs at h2 ⊢; exact h2
      | cons a as => simp [rdVs] at h1
    | cons a' as' ih =>
      intro as vs h1 h2
      cases as with
      | nil => simp [rdVs] at h1
      | cons a as =>
        unfold rdVs at h1
        unfold VRs at h2 ⊢
        obtain ⟨u, r, e, h0, h3, h4⟩ := h2
        exact ⟨u, r, e, h0, hval h1.1 h3, ih h1.2 h4⟩
  have hrows : ∀ {sz : Nat} {es' es : List (List AV)} {vs : List Value}, rdEs lend σ H Hs.length es' es → VRss M H.length w sz es' vs → VRss M2 Hs.length w sz es vs ∧ es'.length = es.length := by
    intro sz es'
    induction es' with
    | nil =>
      intro es vs h1 h2
      cases es with
      | nil => unfold VRss at h2 ⊢; exact ⟨h2, rfl⟩
      | cons a as => simp [rdEs] at h1
    | cons a' as' ih =>
      intro es vs h1 h2
      cases es with
      | nil => simp [rdEs] at h1
      | cons a as =>
        unfold rdEs at h1
        unfold VRss at h2 ⊢
        obtain ⟨c, r, e, h0, h3, h4⟩ := h2
        obtain ⟨k1, k2⟩ := ih h1.2 h4
        exact ⟨⟨c, r, e, h0, hcells h1.1 h3, k1⟩, by simp [k2]⟩
  have hargs : ∀ {as' as : List AV} {vs : List Value}, rdAs lend σ H Hs.length as' as → VRt M H.length w as' vs → VRt M2 Hs.length w as vs := by
    intro as'
    induction as' with
    | nil =>
      intro as vs h1 h2
      cases as with
      | nil => unfold VRt at h2 ⊢; exact h2
      | cons a as => simp [rdAs] at h1
    | cons a' as' ih =>
      intro as vs h1 h2
      cases as with
      | nil => simp [rdAs] at h1
      | cons a as =>
        unfold rdAs at h1
        unfold VRt at h2 ⊢
        obtain ⟨u, r, e, h3, h4⟩ := h2
        refine ⟨u, r, e, ?_, ih h1.2 h4⟩
        rcases h1.1 with k | ⟨cs', cs, rfl, rfl, k⟩ | ⟨sz, es', es, rfl, rfl, k⟩
        · exact hval k h3
        · unfold VR at h3 ⊢
          obtain ⟨us, e2, h5⟩ := h3
          exact ⟨us, e2, hcells k h5⟩
        · unfold VR at h3 ⊢
          obtain ⟨ao, cap, us, e2, h5, h6⟩ := h3
          obtain ⟨h7, h8⟩ := hrows k h5
          rw [h8] at h6 e2
          exact ⟨ao, cap, us, e2, h7, h6.mono hGG (fun _ _ => rfl)⟩
  exact hargs ha hv

/-! ### the rules at a call -/
def gfH : Heap → Prop
  | [] => True
  | none :: H => gfH H
  | some B :: H => gfB B ∧ gfH H
theorem gfH_at : ∀ {H : Heap}, gfH H → ∀ (k : Nat) (B : Blk), H[k]? = some (some B) → gfB B
  | [], _, k, B, e => by simp at e
  | none :: H, h, 0, B, e => by simp at e
  | none :: H, h, k + 1, B, e => gfH_at (H := H) h k B (by simpa using e)
  | some B' :: H, h, 0, B, e => by simp at e; subst e; exact h.1
  | some B' :: H, h, k + 1, B, e => gfH_at (H := H) h.2 k B (by simpa using e)

/-- A call whose contract speaks of the blocks σ alone; rows that are handed in are lent. -/
theorem z_lend {K : Kvh} {r0 : AV} {L0 : Heap} (h : ACalls E g as Hs fun r H' => r = r0 ∧ H' = L0) (σ : List Nat) (hσ : σ.Nodup) (hlt : ∀ q ∈ σ, q < H.length) (hH : okL Hs.length (sg H.length σ) H Hs σ) (ha : rdAs true σ H Hs.length as' as)
    (hg : gf r0 ∧ gfH L0) (hk : K.k (amap (sg H.length σ) r0) (back σ H L0)) : jcall (K := K) E g as' H :=
  ⟨_, h.frame true σ hσ (okL_len hH).symm hlt (fun k B hk => okL_at hH k B hk) ha (fun r H' ⟨h1, h2⟩ _ => by subst h1 h2; exact ⟨hg.1, gfH_at hg.2⟩), by rintro r' H'' ⟨r, H', ⟨rfl, rfl⟩, rfl, rfl⟩; exact hk⟩
/-- .. nothing is lent. -/
theorem z_at {K : Kvh} {r0 : AV} {L0 : Heap} (h : ACalls E g as Hs fun r H' => r = r0 ∧ H' = L0) (σ : List Nat) (hσ : σ.Nodup) (hlt : ∀ q ∈ σ, q < H.length) (hH : okL Hs.length (sg H.length σ) H Hs σ) (ha : rdAs false σ H Hs.length as' as)
    (hk : K.k (amap (sg H.length σ) r0) (back σ H L0)) : jcall (K := K) E g as' H :=
  ⟨_, h.frame false σ hσ (okL_len hH).symm hlt (fun k B hk => okL_at hH k B hk) ha (fun _ _ _ hl => by cases hl), by rintro r' H'' ⟨r, H', ⟨rfl, rfl⟩, rfl, rfl⟩; exact hk⟩
/-- .. whatever is told. -/
theorem z_lendx {K : Kvh} (h : ACalls E g as Hs R) (σ : List Nat) (hσ : σ.Nodup) (hlt : ∀ q ∈ σ, q < H.length) (hH : okL Hs.length (sg H.length σ) H Hs σ) (ha : rdAs true σ H Hs.length as' as)
    (hg : ∀ r H', R r H' → gf r ∧ gfH H') (hk : ∀ r H', R r H' → K.k (amap (sg H.length σ) r) (back σ H H')) : jcall (K := K) E g as' H :=
  ⟨_, h.frame true σ hσ (okL_len hH).symm hlt (fun k B hk => okL_at hH k B hk) ha (fun r H' hr _ => ⟨(hg r H' hr).1, gfH_at (hg r H' hr).2⟩), by rintro r' H'' ⟨r, H', hr, rfl, rfl⟩; exact hk r H' hr⟩
theorem z_atx {K : Kvh} (h : ACalls E g as Hs R) (σ : List Nat) (hσ : σ.Nodup) (hlt : ∀ q ∈ σ, q < H.length) (hH : okL Hs.length (sg H.length σ) H Hs σ) (ha : rdAs false σ H Hs.length as' as)
    (hk : ∀ r H', R r H' → K.k (amap (sg H.length σ) r) (back σ H H')) : jcall (K := K) E g as' H :=
  ⟨_, h.frame false σ hσ (okL_len hH).symm hlt (fun k B hk => okL_at hH k B hk) ha (fun _ _ _ hl => by cases hl), by rintro r' H'' ⟨r, H', hr, rfl, rfl⟩; exact hk r H' hr⟩

/-! ### where Go leaves the order open -/
theorem back_nil (H H' : Heap) : back [] H H' = H ++ H'.map (Option.map (bmap (sg H.length []))) := by cases H' <;> rfl
theorem jx {p : AV → Prop} {x : AV} {K : Kv} (h : p x) (k : K.k x) : jex p := ⟨x, h, k⟩
theorem jxg {p : AV → Option Blk → Prop} {x : AV} {B : Option Blk} {K : Kvg} (h : p x B) (k : K.k x B) : jexg p := ⟨x, B, h, k⟩
theorem jxh {p : AV → Heap → Prop} {x : AV} {B : Heap} {K : Kvh} (h : p x B) (k : K.k x B) : jexh p := ⟨x, B, h, k⟩
theorem jx_at {K : Kv} {r0 : AV} {L0 : Heap} (h : ACalls E g as Hs fun r H' => r = r0 ∧ H' = L0) (σ : List Nat) (hσ : σ.Nodup) (hlt : ∀ q ∈ σ, q < H.length) (hH : okL Hs.length (sg H.length σ) H Hs σ) (ha : rdAs false σ H Hs.length as' as)
    (he : back σ H L0 = H) (hk : K.k (amap (sg H.length σ) r0)) : @jex (fun v => @jcall E g as' H ⟨fun v' H' => v' = v ∧ H' = H⟩) K := jx (z_at h σ hσ hlt hH ha ⟨rfl, he⟩) hk
theorem jx_lend {K : Kv} {r0 : AV} {L0 : Heap} (h : ACalls E g as Hs fun r H' => r = r0 ∧ H' = L0) (σ : List Nat) (hσ : σ.Nodup) (hlt : ∀ q ∈ σ, q < H.length) (hH : okL Hs.length (sg H.length σ) H Hs σ) (ha : rdAs true σ H Hs.length as' as)
    (hg : gf r0 ∧ gfH L0) (he : back σ H L0 = H) (hk : K.k (amap (sg H.length σ) r0)) : @jex (fun v => @jcall E g as' H ⟨fun v' H' => v' = v ∧ H' = H⟩) K := jx (z_lend h σ hσ hlt hH ha hg ⟨rfl, he⟩) hk
theorem jxg_at {K : Kvg} {r0 : AV} {B0 : Option Blk} (h : ACalls E g as [] fun r H' => r = r0 ∧ H' = [B0]) (ha : rdAs false [] H 0 as' as) (hk : K.k (amap (sg H.length []) r0) (B0.map (bmap (sg H.length [])))) :
    @jexg (fun v B => @jcall E g as' H ⟨fun v' H' => v' = v ∧ H' = H ++ [B]⟩) K := jxg (z_at h [] List.nodup_nil (by simp) trivial ha ⟨rfl, back_nil H [B0]⟩) hk
theorem jxg_lend {K : Kvg} {r0 : AV} {B0 : Option Blk} (h : ACalls E g as [] fun r H' => r = r0 ∧ H' = [B0]) (ha : rdAs true [] H 0 as' as) (hg : gf r0 ∧ gfH [B0]) (hk : K.k (amap (sg H.length []) r0) (B0.map (bmap (sg H.length [])))) :
    @jexg (fun v B => @jcall E g as' H ⟨fun v' H' => v' = v ∧ H' = H ++ [B]⟩) K := jxg (z_lend h [] List.nodup_nil (by simp) trivial ha hg ⟨rfl, back_nil H [B0]⟩) hk
theorem jxh_at {K : Kvh} {r0 : AV} {L0 : Heap} (h : ACalls E g as Hs fun r H' => r = r0 ∧ H' = L0) (σ : List Nat) (hσ : σ.Nodup) (hlt : ∀ q ∈ σ, q < H.length) (hH : okL Hs.length (sg H.length σ) H Hs σ) (ha : rdAs false σ H Hs.length as' as)
    (hk : K.k (amap (sg H.length σ) r0) (back σ H L0)) : @jexh (fun v H1 => @jcall E g as' H ⟨fun v' H' => v' = v ∧ H' = H1⟩) K := jxh (z_at h σ hσ hlt hH ha ⟨rfl, rfl⟩) hk
theorem jxh_lend {K : Kvh} {r0 : AV} {L0 : Heap} (h : ACalls E g as Hs fun r H' => r = r0 ∧ H' = L0) (σ : List Nat) (hσ : σ.Nodup) (hlt : ∀ q ∈ σ, q < H.length) (hH : okL Hs.length (sg H.length σ) H Hs σ) (ha : rdAs true σ H Hs.length as' as)
    (hg : gf r0 ∧ gfH L0) (hk : K.k (amap (sg H.length σ) r0) (back σ H L0)) : @jexh (fun v H1 => @jcall E g as' H ⟨fun v' H' => v' = v ∧ H' = H1⟩) K := jxh (z_lend h σ hσ hlt hH ha hg ⟨rfl, rfl⟩) hk

section
variable {lend : Bool} {σ : List Nat} {n : Nat}
theorem rd_v {x : Value} : rdV lend σ H n (.v x) (.v x) := .inl ⟨trivial, by unfold amap; exact Wk.refl _⟩
theorem rd_sl {sz : Nat} {es : List (List AV)} (h : nbss 0 es) : rdV lend σ H n (.sl sz es) (.sl sz es) :=
  .inl ⟨by unfold nb; exact nbss.mono (Nat.zero_le _) h, by unfold amap; rw [amapss_id (n := 0) (fun r hr => absurd hr (Nat.not_lt_zero r)) h]; exact Wk.refl _⟩
theorem rd_bytes {l : List UInt8} : rdV lend σ H n (.sl 1 (l.map bcl)) (.sl 1 (l.map bcl)) := rd_sl (nbss_bytes l)
theorem rd_nil {sz : Nat} : rdV lend σ H n (.v (.slice none 0 0)) (.sl sz []) := .inl ⟨by unfold nb nbss; trivial, by unfold amap amapss; exact Wk.nil sz⟩
theorem rd_mt {sz : Nat} : rdV lend σ H n .mt (.sl sz []) := .inl ⟨by unfold nb nbss; trivial, by
  unfold amap amapss
  intro M n w u h
  unfold VR at h ⊢
  obtain ⟨ao, rfl⟩ := h
  exact ⟨ao, 0, [], rfl, by simp [VRss], ⟨by simp, Nat.le_refl _, Nat.zero_le _, by simp, .inl ⟨rfl, fun _ => rfl⟩⟩⟩⟩
theorem rd_ptr {r off : Nat} (k : Nat) (hk : k < n) (h : sg H.length σ k = r) : rdV lend σ H n (.ptr r off) (.ptr k off) := .inl ⟨hk, by unfold amap; rw [h]; exact Wk.refl _⟩
theorem rd_hs {r sz off k : Nat} {l : List (List AV)} (hr : r ∉ σ) (he : elems H sz (.hs r sz off k) = some l) (hn : nbss 0 l) (hg : gfss l) : rdV true σ H n (.hs r sz off k) (.sl sz l) := .inr ⟨rfl, r, sz, l, rfl, hr, he, hn, hg, rfl⟩
theorem rd_os {r sz off k : Nat} {l : List (List AV)} (hr : r ∉ σ) (he : elems H sz (.os r sz off k) = some l) (hn : nbss 0 l) (hg : gfss l) : rdV true σ H n (.os r sz off k) (.sl sz l) := .inr ⟨rfl, r, sz, l, rfl, hr, he, hn, hg, rfl⟩
theorem rd_a {a' a : AV} (h : rdV lend σ H n a' a) : rdA lend σ H n a' a := .inl h
theorem rd_agg {cs' cs : List AV} (h : rdVs lend σ H n cs' cs) : rdA lend σ H n (.agg cs') (.agg cs) := .inr (.inl ⟨cs', cs, rfl, rfl, h⟩)
theorem rd_cons {a' a : AV} {as' as : List AV} (h : rdA lend σ H n a' a) (k : rdAs lend σ H n as' as) : rdAs lend σ H n (a' :: as') (a :: as) := ⟨h, k⟩
theorem rd_ccons {a' a : AV} {as' as : List AV} (h : rdV lend σ H n a' a) (k : rdVs lend σ H n as' as) : rdVs lend σ H n (a' :: as') (a :: as) := ⟨h, k⟩
theorem rd_econs {a' a : List AV} {as' as : List (List AV)} (h : rdVs lend σ H n a' a) (k : rdEs lend σ H n as' as) : rdEs lend σ H n (a' :: as') (a :: as) := ⟨h, k⟩
theorem rd_rows {sz : Nat} {es' es : List (List AV)} (h : rdEs lend σ H n es' es) : rdA lend σ H n (.sl sz es') (.sl sz es) := .inr (.inr ⟨sz, es', es, rfl, rfl, h⟩)
end
theorem sg_nil (n k : Nat) : sg n [] k = n + k := by simp [sg]

/-! ### a function's end -/
/-- What is told may be said anew. -/
theorem calls_q {f : FuncId} (h : ACalls E f as H fun r H' => Cl E H.length (fun T H2 => R (T 0) H2) (ofl [(0, r)]) H') : ACalls E f as H R := by
  refine ⟨h.1, fun w M vs hG hv => (h.2 w M vs hG hv).mono ?_⟩
  rintro e w' ⟨r, H', v, M', rfl, ⟨T', H2, hq, hR⟩, hG', hv', hE⟩
  obtain ⟨hn, hq⟩ := hq hE.len
  obtain ⟨M2, g1, g2, g3⟩ := hq M' w' 1 { tmps := #[v], defers := [] } hG' ⟨rfl, fun i => by
    unfold ofl
    split
    · next e => subst e; exact hv'
    · unfold ofl; trivial⟩
  exact ⟨T' 0, H2, v, M2, rfl, hR, g1, g2.2 0, ((ExtB.of (Nat.le_refl _) hE).trans g3).full⟩

/-- Blocks given other names, or left behind; the names below n stay. -/
theorem cq_all {n : Nat} {T : Nat → AV} {L L' : Heap} {tl : List (Nat × AV)} (σ : List Nat) (hn : σ.take n = List.range n) (hσ : σ.Nodup) (hlt : ∀ q ∈ σ, q < L.length)
    (hL : okL L'.length (fun r => σ.getD r 0) L L' σ) (hT : okT L'.length (fun r => σ.getD r 0) T tl) : Cq E n T L (ofl tl) L' := by
  have hlen := okL_len hL
  have hnl : n ≤ σ.length := by
    have := congrArg List.length hn
    rw [List.length_take, List.length_range] at this
    omega
  refine Cq.ren (fun r => σ.getD r 0) (fun _ => by omega) (fun r hr => ?_) (fun r B hr => okL_at hL r B hr) (fun r r' B B' hr0 hr0' e => ?_) (fun i => ?_)
  · have : (σ.take n)[r]? = some r := by rw [hn]; simp [hr]
    rw [List.getElem?_take, if_pos hr] at this
    show σ.getD r 0 = r
    rw [List.getD_eq_getElem?_getD, this]
    rfl
  · have hr := (List.getElem?_eq_some_iff.1 hr0).1
    have hr' := (List.getElem?_eq_some_iff.1 hr0').1
    have q1 : r < σ.length := by omega
    have q2 : r' < σ.length := by omega
    have e2 : σ.getD r 0 = σ.getD r' 0 := e
    rw [List.getD_eq_getElem?_getD, List.getD_eq_getElem?_getD, List.getElem?_eq_getElem q1, List.getElem?_eq_getElem q2] at e2
    exact (List.getElem_inj hσ (h₀ := q1) (h₁ := q2)).1 (by simpa using e2)
  · exact ofl_all (p := fun i a => nb L'.length a ∧ Wk (T i) (amap (fun r => σ.getD r 0) a)) ⟨trivial, Wk.any _⟩ (okT_all hT)

/-- The end of a function that tells a row of its own, or anything else: what stays is told of. -/
theorem end_q {n : Nat} {r r2 : AV} {L L' : Heap} {p : (Nat → AV) → Heap → Prop} (σ : List Nat) (hn : σ.take n = List.range n) (hσ : σ.Nodup) (hlt : ∀ q ∈ σ, q < L.length)
    (hL : okL L'.length (fun r => σ.getD r 0) L L' σ) (hR : p (ofl [(0, r2)]) L') (hr : nb L'.length r2 ∧ Wk r (amap (fun r => σ.getD r 0) r2)) : Cl E n p (ofl [(0, r)]) L :=
  ⟨ofl [(0, r2)], L', cq_all σ hn hσ hlt hL ⟨⟨hr.1, hr.2⟩, trivial⟩, hR⟩
/-- The names that live. -/
def lv : Heap → List Nat → List Nat
  | some _ :: L, s :: σ => s :: lv L σ
  | none :: L, _ :: σ => lv L σ
  | _, _ => []
theorem lv_mem : ∀ {L : Heap} {σ : List Nat} {r : Nat} {B : Blk}, L[r]? = some (some B) → r < σ.length → σ.getD r 0 ∈ lv L σ
  | [], _, r, _, h, _ => by simp at h
  | x :: L, [], r, _, _, h => by simp at h
  | some b :: L, s :: σ, 0, _, _, _ => by simp [lv]
  | none :: L, s :: σ, 0, _, h, _ => by simp at h
  | some b :: L, s :: σ, r + 1, B, h, k => by
    have := lv_mem (L := L) (σ := σ) (r := r) (B := B) (by simpa using h) (by simpa using k)
    unfold lv
    rw [List.getD_cons_succ]
    exact List.mem_cons_of_mem _ this
  | none :: L, s :: σ, r + 1, B, h, k => by
    have := lv_mem (L := L) (σ := σ) (r := r) (B := B) (by simpa using h) (by simpa using k)
    unfold lv
    rw [List.getD_cons_succ]
    exact this
theorem lv_inj : ∀ {L : Heap} {σ : List Nat} {r r' : Nat} {B B' : Blk}, (lv L σ).Nodup → L[r]? = some (some B) → L[r']? = some (some B') → r < σ.length → r' < σ.length → σ.getD r 0 = σ.getD r' 0 → r = r'
  | [], _, r, _, _, _, _, h, _, _, _, _ => by simp at h
  | x :: L, [], r, _, _, _, _, _, _, h, _, _ => by simp at h
  | x :: L, s :: σ, 0, 0, _, _, _, _, _, _, _, _ => rfl
  | none :: L, s :: σ, 0, _, _, _, _, h, _, _, _, _ => by simp at h
  | none :: L, s :: σ, _, 0, _, _, _, _, h, _, _, _ => by simp at h
  | some b :: L, s :: σ, 0, r' + 1, B, B', hn, h, h', k, k', e => by
    unfold lv at hn
    have := lv_mem (L := L) (σ := σ) (r := r') (B := B') (by simpa using h') (by simpa using k')
    rw [List.getD_cons_succ, List.getD_cons_zero] at e
    rw [← e] at this
    exact absurd this (List.nodup_cons.1 hn).1
  | some b :: L, s :: σ, r + 1, 0, B, B', hn, h, h', k, k', e => by
    unfold lv at hn
    have := lv_mem (L := L) (σ := σ) (r := r) (B := B) (by simpa using h) (by simpa using k)
    rw [List.getD_cons_succ, List.getD_cons_zero] at e
    rw [e] at this
    exact absurd this (List.nodup_cons.1 hn).1
  | some b :: L, s :: σ, r + 1, r' + 1, B, B', hn, h, h', k, k', e => by
    unfold lv at hn
    rw [List.getD_cons_succ, List.getD_cons_succ] at e
    rw [lv_inj (List.nodup_cons.1 hn).2 (by simpa using h) (by simpa using h') (by simpa using k) (by simpa using k') e]
  | none :: L, s :: σ, r + 1, r' + 1, B, B', hn, h, h', k, k', e => by
    unfold lv at hn
    rw [List.getD_cons_succ, List.getD_cons_succ] at e
    rw [lv_inj hn (by simpa using h) (by simpa using h') (by simpa using k) (by simpa using k') e]
/-- Blocks given other names; a block may leave a name below n that is dead from here on. -/
theorem cq_any {n : Nat} {T : Nat → AV} {L L' : Heap} {tl : List (Nat × AV)} (σ : List Nat) (hn : σ.take n = List.range n) (hσ : (lv L' σ).Nodup)
    (hL : okL L'.length (fun r => σ.getD r 0) L L' σ) (hT : okT L'.length (fun r => σ.getD r 0) T tl) : Cq E n T L (ofl tl) L' := by
  have hlen := okL_len hL
  have hnl : n ≤ σ.length := by
    have := congrArg List.length hn
    rw [List.length_take, List.length_range] at this
    omega
  refine Cq.ren (fun r => σ.getD r 0) (fun _ => by omega) (fun r hr => ?_) (fun r B hr => okL_at hL r B hr) (fun r r' B B' hr0 hr0' e => ?_) (fun i => ?_)
  · have : (σ.take n)[r]? = some r := by rw [hn]; simp [hr]
    rw [List.getElem?_take, if_pos hr] at this
    show σ.getD r 0 = r
    rw [List.getD_eq_getElem?_getD, this]
    rfl
  · have hr := (List.getElem?_eq_some_iff.1 hr0).1
    have hr' := (List.getElem?_eq_some_iff.1 hr0').1
    exact lv_inj hσ hr0 hr0' (by omega) (by omega) e
  · exact ofl_all (p := fun i a => nb L'.length a ∧ Wk (T i) (amap (fun r => σ.getD r 0) a)) ⟨trivial, Wk.any _⟩ (okT_all hT)
theorem end_r {n : Nat} {r r2 : AV} {L L' : Heap} {p : (Nat → AV) → Heap → Prop} (σ : List Nat) (hn : σ.take n = List.range n) (hσ : (lv L' σ).Nodup)
    (hL : okL L'.length (fun r => σ.getD r 0) L L' σ) (hR : p (ofl [(0, r2)]) L') (hr : nb L'.length r2 ∧ Wk r (amap (fun r => σ.getD r 0) r2)) : Cl E n p (ofl [(0, r)]) L :=
  ⟨ofl [(0, r2)], L', cq_any σ hn hσ hL ⟨⟨hr.1, hr.2⟩, trivial⟩, hR⟩
/-- A contract, its rows told as they read. -/
theorem ACalls.cold {f : FuncId} {r0 : AV} {L0 : Heap} (h : ACalls E f as [] fun r H' => r = r0 ∧ H' = L0) (d : Nat) (r2 : AV) (hr : nb 0 r2 ∧ Wk (frz d L0 0 r0) r2) : ACalls E f as [] fun r H' => r = r2 ∧ H' = [] := by
  refine calls_q ⟨h.1, fun w M vs hG hv => (h.2 w M vs hG hv).mono ?_⟩
  rintro e w' ⟨r, H', v, M', rfl, ⟨rfl, rfl⟩, q⟩
  exact ⟨_, _, v, M', rfl, ⟨ofl [(0, r2)], [], cq_drop (H1 := []) (L := H') d (Nat.le_refl _) (by simp) ⟨⟨hr.1, hr.2⟩, trivial⟩, rfl, rfl⟩, q⟩
/-- .. nothing stays: rows are told as they read. -/
theorem end_d {r r2 : AV} {L : Heap} {p : (Nat → AV) → Heap → Prop} (d : Nat) (hR : p (ofl [(0, r2)]) []) (hr : nb 0 r2 ∧ Wk (frz d L 0 r) r2) : Cl E 0 p (ofl [(0, r)]) L :=
  ⟨ofl [(0, r2)], [], cq_drop (H1 := []) (L := L) d (Nat.le_refl _) (by simp) ⟨⟨hr.1, hr.2⟩, trivial⟩, hR⟩
end
end Go.Am
