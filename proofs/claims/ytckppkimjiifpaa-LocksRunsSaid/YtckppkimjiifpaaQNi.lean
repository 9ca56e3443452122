/- Contracts of a part of the heap, wherever it lies. No condition. -/
import Derived.Test.YtckppkimjiifpaaQNh
import Derived.Test.YtckppkimjiifpaaQb1
set_option linter.unusedSectionVars false
set_option linter.unusedVariables false
set_option linter.unusedSimpArgs false
set_option linter.deprecated false
namespace Go.Am
open Go.RowKit Go.Cx
section
variable {n : Nat} {f g : Nat → Nat}
mutual
theorem amap_cong (hf : ∀ r, r < n → f r = g r) : ∀ {a : AV}, nb n a → amap f a = amap g a
  | .any, _ => rfl
  | .v _, _ => rfl
  | .mt, _ => rfl
  | .sl sz es, h => by unfold nb at h; unfold amap; rw [amapss_cong hf h]
  | .hs .., h => by unfold nb at h; unfold amap; rw [hf _ h]
  | .os .., h => by unfold nb at h; unfold amap; rw [hf _ h]
  | .ptr .., h => by unfold nb at h; unfold amap; rw [hf _ h]
  | .rp .., h => by unfold nb at h; unfold amap; rw [hf _ h]
  | .cptr cs, h => by unfold nb at h; unfold amap; rw [amaps_cong hf h]
  | .agg cs, h => by unfold nb at h; unfold amap; rw [amaps_cong hf h]
  | .tup cs, h => by unfold nb at h; unfold amap; rw [amaps_cong hf h]
  | .fn g a b, h => by unfold nb at h; unfold amap; rw [amaps_cong hf h.1, amaps_cong hf h.2]
  | .mp .., h => by unfold nb at h; unfold amap; rw [hf _ h]
  | .ifp .., h => by unfold nb at h; unfold amap; rw [hf _ h]
theorem amaps_cong (hf : ∀ r, r < n → f r = g r) : ∀ {al : List AV}, nbs n al → amaps f al = amaps g al
  | [], _ => rfl
  | a :: al, h => by unfold nbs at h; unfold amaps; rw [amap_cong hf h.1, amaps_cong hf h.2]
theorem amapss_cong (hf : ∀ r, r < n → f r = g r) : ∀ {es : List (List AV)}, nbss n es → amapss f es = amapss g es
  | [], _ => rfl
  | e :: es, h => by unfold nbss at h; unfold amapss; rw [amaps_cong hf h.1, amapss_cong hf h.2]
end
theorem bmap_cong (hf : ∀ r, r < n → f r = g r) {B : Blk} (h : nbB n B) : bmap f B = bmap g B := by
  cases B with
  | obj cs => exact congrArg Blk.obj (amaps_cong hf h)
  | row hot sz es => exact congrArg (Blk.row hot sz) (amapss_cong hf h)
  | map ks vs st => exact congrArg (fun x => Blk.map ks x st) (amaps_cong hf h)
  | iter m bs c seen => exact congrArg (fun x => Blk.iter x bs c seen) (hf m h)
end
section
variable {f g : Nat → Nat}
mutual
theorem amap_comp : ∀ {a : AV}, amap f (amap g a) = amap (fun r => f (g r)) a
  | .any => rfl
  | .v _ => rfl
  | .mt => rfl
  | .sl sz _ => congrArg (AV.sl sz) amapss_comp
  | .hs .. => rfl
  | .os .. => rfl
  | .ptr .. => rfl
  | .rp .. => rfl
  | .cptr _ => congrArg AV.cptr amaps_comp
  | .agg _ => congrArg AV.agg amaps_comp
  | .tup _ => congrArg AV.tup amaps_comp
  | .fn h a b => show AV.fn h (amaps f (amaps g a)) (amaps f (amaps g b)) = .fn h (amaps (fun r => f (g r)) a) (amaps (fun r => f (g r)) b) by rw [amaps_comp, amaps_comp]
  | .mp .. => rfl
  | .ifp .. => rfl
theorem amaps_comp : ∀ {al : List AV}, amaps f (amaps g al) = amaps (fun r => f (g r)) al
  | [] => rfl
  | a :: al => show amap f (amap g a) :: amaps f (amaps g al) = amap (fun r => f (g r)) a :: amaps (fun r => f (g r)) al by rw [amap_comp, amaps_comp]
theorem amapss_comp : ∀ {es : List (List AV)}, amapss f (amapss g es) = amapss (fun r => f (g r)) es
  | [] => rfl
  | e :: es => show amaps f (amaps g e) :: amapss f (amapss g es) = amaps (fun r => f (g r)) e :: amapss (fun r => f (g r)) es by rw [amaps_comp, amapss_comp]
end
theorem bmap_comp {B : Blk} : bmap f (bmap g B) = bmap (fun r => f (g r)) B := by
  cases B with
  | obj cs => exact congrArg Blk.obj amaps_comp
  | row hot sz es => exact congrArg (Blk.row hot sz) amapss_comp
  | map ks vs st => exact congrArg (fun x => Blk.map ks x st) amaps_comp
  | iter m bs c seen => rfl
end
section
variable {E : Env} {Hs Hs' Ns H : Heap} {g : FuncId} {al : List AV} {r0 : AV}
theorem rdAs_cong {H : Heap} {σ : List Nat} {n : Nat} {φ : Nat → Nat} (hf : ∀ r, r < n → sg H.length σ r = φ r) : ∀ {al : List AV}, nbs n al → rdAs false σ H n (amaps φ al) al
  | [], _ => trivial
  | a :: al, h => by
    unfold nbs at h
    unfold amaps rdAs
    exact ⟨.inl (.inl ⟨h.1, Wk.of (amap_cong hf h.1).symm⟩), rdAs_cong hf h.2⟩
/-- Names of what was called, and of what it brings. -/
def psi (n N : Nat) (φ : Nat → Nat) (r : Nat) : Nat := if r < n then φ r else N + (r - n)
/-- A contract of blocks that lie anywhere. -/
theorem ACalls.emb (φ : Nat → Nat) (hinj : ∀ r r', r < Hs.length → r' < Hs.length → φ r = φ r' → r = r') (hlt : ∀ r, r < Hs.length → φ r < H.length) (h : ACalls E g al Hs fun r H' => r = r0 ∧ H' = Hs' ++ Ns) (hl : Hs'.length = Hs.length) (hn : nbs Hs.length al)
    (hB : ∀ (k : Nat) (B : Blk), Hs[k]? = some (some B) → nbB Hs.length B) (hH : ∀ (k : Nat) (B : Blk), Hs[k]? = some (some B) → H[φ k]? = some (some (bmap φ B))) :
    ACalls E g (amaps φ al) H fun r H'' => r = amap (psi Hs.length H.length φ) r0 ∧ H''.length = H.length + Ns.length ∧ (∀ k B, Hs'[k]? = some B → H''[φ k]? = some (B.map (bmap (psi Hs.length H.length φ)))) ∧ (∀ q, q < H.length → (∀ k, k < Hs.length → φ k ≠ q) → H''[q]? = H[q]?) ∧ ∀ k, H''[H.length + k]? = Ns[k]?.map (Option.map (bmap (psi Hs.length H.length φ))) := by
  obtain ⟨σ, hσ⟩ : ∃ σ, σ = (List.range Hs.length).map φ := ⟨_, rfl⟩
  have hsl : σ.length = Hs.length := by rw [hσ, List.length_map, List.length_range]
  have hgd : ∀ k, k < Hs.length → σ.getD k 0 = φ k := fun k hk => by
    rw [hσ, List.getD_eq_getElem?_getD, List.getElem?_map, List.getElem?_range hk]
    rfl
  have hsg : sg H.length σ = psi Hs.length H.length φ := by
    funext r
    unfold sg psi
    rw [hsl]
    split
    · next e => exact hgd r e
    · rfl
  have hmem : ∀ q, q ∈ σ → ∃ k, k < Hs.length ∧ φ k = q := fun q hq => by
    rw [hσ] at hq
    obtain ⟨k, hk, e⟩ := List.mem_map.1 hq
    exact ⟨k, List.mem_range.1 hk, e⟩
  have hnd : σ.Nodup := by
    rw [hσ]
    unfold List.Nodup
    rw [List.pairwise_map]
    refine List.Pairwise.imp_of_mem (fun {a b} ha hb hab e => hab (hinj a b (List.mem_range.1 ha) (List.mem_range.1 hb) e)) List.nodup_range
  have hq : ∀ q ∈ σ, q < H.length := fun q hq => by
    obtain ⟨k, hk, e⟩ := hmem q hq
    rw [← e]
    exact hlt k hk
  have hps : ∀ r, r < Hs.length → sg H.length σ r = φ r := fun r hr => by
    rw [hsg]
    unfold psi
    rw [if_pos hr]
  have h2 := h.frame (H := H) (as' := amaps φ al) false σ hnd hsl.symm hq (fun k B hk => by
    have hkl := (List.getElem?_eq_some_iff.1 hk).1
    refine ⟨hB k B hk, ?_⟩
    rw [hgd k hkl, hH k B hk, bmap_cong (n := Hs.length) (fun r hr => (hps r hr).symm) (hB k B hk)]) (rdAs_cong hps hn) (fun _ _ _ hh => by cases hh)
  refine ⟨h2.1, fun w M vs hG hv => (h2.2 w M vs hG hv).mono ?_⟩
  rintro e w' ⟨r, H1, v, M', rfl, ⟨r1, H2, ⟨rfl, rfl⟩, rfl, rfl⟩, rest⟩
  have hbl : (backs (sg H.length σ) σ (Hs' ++ Ns) H).length = H.length := backs_len
  have hdr : ((Hs' ++ Ns).drop σ.length) = Ns := by rw [hsl, ← hl]; exact List.drop_left
  refine ⟨_, _, v, M', rfl, ⟨by rw [hsg], ?_, fun k B hk => ?_, fun q hq2 hno => ?_, fun k => ?_⟩, rest⟩
  · unfold back
    rw [List.length_append, hbl, hdr, List.length_map]
  · have hkl := (List.getElem?_eq_some_iff.1 hk).1
    have hk2 : k < Hs.length := by omega
    unfold back
    have := backs_in (σ := σ) (f := sg H.length σ) (H := H) (H' := Hs' ++ Ns) (k := k) hnd hq (by omega) B (by rw [List.getElem?_append_left hkl]; exact hk)
    rw [hgd k hk2] at this
    rw [List.getElem?_append_left (by rw [hbl]; exact hlt k hk2), this, hsg]
  · unfold back
    rw [List.getElem?_append_left (by rw [hbl]; exact hq2), backs_out]
    intro hh
    obtain ⟨k, hk, e⟩ := hmem q hh
    exact hno k hk e
  · unfold back
    rw [List.getElem?_append_right (by rw [hbl]; omega), hbl, Nat.add_sub_cancel_left, hdr, List.getElem?_map, hsg]
end
end Go.Am
namespace Go.Proofs.Ytckppkimjiifpaa
open Go.RowKit Go.Cx Go.Am
theorem lpsb_map (b n : Nat) : amapss (fun r => b + r) (lps n) = lpsb b n := by
  unfold lps lpsb
  induction (List.range n) with
  | nil => rfl
  | cons a l ih =>
    rw [List.map_cons, List.map_cons, ← ih]
    rfl
theorem lkVb_map (b : Nat) : ∀ (st : List Lk) (j : Nat), (lkV j st).map (Option.map (bmap fun r => b + r)) = lkVb b j st
  | [], _ => rfl
  | k :: st, j => by
    unfold lkV lkVb
    rw [List.map_cons, List.map_cons, lkVb_map b st (j + 1), Option.map_some, Option.map_some, bmap_mI]
    congr 1
    show some (Blk.obj [.mp (b + (2 * j + 2)), .sl 2 (amapss _ (cels k.row))]) = _
    rw [cels_amapss]
theorem LHb_map (b : Nat) (st : List Lk) : (LH st).map (Option.map (bmap fun r => b + r)) = LHb b st := by
  unfold LH LHb
  rw [List.map_cons, lkVb_map]
  congr 1
  show some (Blk.obj [.sl 1 (amapss _ (lps st.length))]) = _
  rw [lpsb_map]
theorem LHb_get (b : Nat) (st : List Lk) (k : Nat) : (LHb b st)[k]? = (LH st)[k]?.map (Option.map (bmap fun r => b + r)) := by
  rw [← LHb_map, List.getElem?_map]
theorem psi_lo {n N : Nat} {φ : Nat → Nat} {r : Nat} (h : r < n) : psi n N φ r = φ r := by unfold psi; rw [if_pos h]
/-- Locks whose first name is b, anywhere in the heap. -/
theorem embL {H : Heap} {b : Nat} {st st' : List Lk} {g : FuncId} {rest : List AV} {r0 : AV} (hb : b + (LH st).length ≤ H.length) (hH : ∀ k, k < (LH st).length → H[b + k]? = (LHb b st)[k]?) (h : ACalls E0 g (.ptr 0 0 :: rest) (LH st) fun r H' => r = r0 ∧ H' = LH st') (hl : st'.length = st.length) (hrest : nbs 0 rest) (hr : nb 0 r0) :
    ACalls E0 g (.ptr b 0 :: rest) H fun r H' => r = r0 ∧ H'.length = H.length ∧ (∀ k, k < (LH st).length → H'[b + k]? = (LHb b st')[k]?) ∧ ∀ q, q < H.length → (q < b ∨ b + (LH st).length ≤ q) → H'[q]? = H[q]? := by
  have l1 := LH_len st
  have l2 := LH_len st'
  have hz : ∀ (f : Nat → Nat) (a : AV), nb 0 a → amap f a = a := fun f a ha => amap_id (n := 0) (fun r hr => absurd hr (Nat.not_lt_zero r)) ha
  have hzs : ∀ (f : Nat → Nat) (al : List AV), nbs 0 al → amaps f al = al := fun f a ha => amaps_id (n := 0) (fun r hr => absurd hr (Nat.not_lt_zero r)) ha
  have h1 : ACalls E0 g (.ptr 0 0 :: rest) (LH st) fun r H' => r = r0 ∧ H' = LH st' ++ [] := by
    rw [List.append_nil]
    exact h
  have h2 := ACalls.emb (H := H) (fun r => b + r) (fun r r' _ _ e => by omega) (fun r hr => by omega) h1 (by rw [l1, l2, hl]) ⟨by unfold nb; omega, nbs.mono (Nat.zero_le _) hrest⟩ (LH_nbs st) (fun k B hk => by
    have hkl := (List.getElem?_eq_some_iff.1 hk).1
    rw [hH k hkl, LHb_get, hk]
    rfl)
  have ea : amaps (fun r => b + r) (.ptr 0 0 :: rest) = .ptr b 0 :: rest := by
    show amap _ (.ptr 0 0) :: amaps _ rest = _
    rw [hzs _ _ hrest]
    rfl
  rw [ea] at h2
  refine ⟨h2.1, fun w M vs hG hv => (h2.2 w M vs hG hv).mono ?_⟩
  rintro e w' ⟨r, H', v, M', rfl, ⟨rfl, q1, q2, q3, _⟩, rest⟩
  refine ⟨_, _, v, M', rfl, ⟨hz _ _ hr, by simpa using q1, fun k hk => ?_, fun q hq hno => q3 q hq (fun k hk => by omega)⟩, rest⟩
  have hk2 : k < (LH st').length := by omega
  rw [q2 k _ (List.getElem?_eq_getElem hk2), LHb_get, List.getElem?_eq_getElem hk2, Option.map_some]
  congr 1
  cases hB : (LH st')[k] with
  | none => rfl
  | some B =>
    have hnb := LH_nbs st' k B (by rw [List.getElem?_eq_getElem hk2, hB])
    rw [Option.map_some, Option.map_some, bmap_cong (n := (LH st').length) (fun r hr => psi_lo (by omega)) hnb]
/-- One block without names, anywhere in the heap. -/
theorem embR {H : Heap} {c : Nat} {B B' : Blk} {g : FuncId} {rest : List AV} {r0 : AV} {Ns : Heap} (hc : H[c]? = some (some B)) (hB : nbB 0 B) (h : ACalls E0 g (.ptr 0 0 :: rest) [some B] fun r H' => r = r0 ∧ H' = [some B'] ++ Ns) (hrest : nbs 0 rest) :
    ACalls E0 g (.ptr c 0 :: rest) H fun r H' => r = amap (psi 1 H.length fun _ => c) r0 ∧ H'.length = H.length + Ns.length ∧ H'[c]? = some (some (bmap (psi 1 H.length fun _ => c) B')) ∧ (∀ q, q < H.length → q ≠ c → H'[q]? = H[q]?) ∧ ∀ k, H'[H.length + k]? = Ns[k]?.map (Option.map (bmap (psi 1 H.length fun _ => c))) := by
  have hcl := (List.getElem?_eq_some_iff.1 hc).1
  have hzs : ∀ (f : Nat → Nat) (al : List AV), nbs 0 al → amaps f al = al := fun f a ha => amaps_id (n := 0) (fun r hr => absurd hr (Nat.not_lt_zero r)) ha
  have hB1 : nbB 1 B := by
    cases B with
    | obj cs => exact nbs.mono (Nat.zero_le _) hB
    | row hot sz es => exact nbss.mono (Nat.zero_le _) hB
    | map ks vs s => exact nbs.mono (Nat.zero_le _) hB
    | iter m bs c seen => exact absurd hB (Nat.not_lt_zero _)
  have h2 := ACalls.emb (H := H) (Hs := [some B]) (Hs' := [some B']) (Ns := Ns) (fun _ => c) (fun r r' h1 h2 _ => by simp at h1 h2; omega) (fun r hr => hcl) h rfl ⟨Nat.zero_lt_one, nbs.mono (Nat.zero_le _) hrest⟩ (fun k C hk => by
    cases k with
    | zero => cases hk; exact hB1
    | succ k => simp at hk) (fun k C hk => by
    cases k with
    | zero => cases hk; rw [hc, bmap_id (n := 0) (fun r hr => absurd hr (Nat.not_lt_zero r)) hB]
    | succ k => simp at hk)
  have ea : amaps (fun _ => c) (.ptr 0 0 :: rest) = .ptr c 0 :: rest := by
    show amap _ (.ptr 0 0) :: amaps _ rest = _
    rw [hzs _ _ hrest]
    rfl
  rw [ea] at h2
  refine ⟨h2.1, fun w M vs hG hv => (h2.2 w M vs hG hv).mono ?_⟩
  rintro e w' ⟨r, H', v, M', rfl, ⟨rfl, q1, q2, q3, q4⟩, rest⟩
  exact ⟨_, _, v, M', rfl, ⟨rfl, q1, q2 0 _ rfl, fun q hq hne => q3 q hq (fun k _ e => hne e.symm), q4⟩, rest⟩
theorem embR0 {H : Heap} {c : Nat} {B B' : Blk} {g : FuncId} {rest : List AV} {r0 : AV} (hc : H[c]? = some (some B)) (hB : nbB 0 B) (hB' : nbB 0 B') (hr : nb 0 r0) (h : ACalls E0 g (.ptr 0 0 :: rest) [some B] fun r H' => r = r0 ∧ H' = [some B']) (hrest : nbs 0 rest) :
    ACalls E0 g (.ptr c 0 :: rest) H fun r H' => r = r0 ∧ H' = H.set c (some B') := by
  have h2 := embR (Ns := []) hc hB (by rw [List.append_nil]; exact h) hrest
  refine ⟨h2.1, fun w M vs hG hv => (h2.2 w M vs hG hv).mono ?_⟩
  rintro e w' ⟨r, H', v, M', rfl, ⟨rfl, q1, q2, q3, _⟩, rest⟩
  refine ⟨_, _, v, M', rfl, ⟨amap_id (n := 0) (fun r hr => absurd hr (Nat.not_lt_zero r)) hr, ?_⟩, rest⟩
  rw [bmap_id (n := 0) (fun r hr => absurd hr (Nat.not_lt_zero r)) hB'] at q2
  have hcl := (List.getElem?_eq_some_iff.1 hc).1
  apply List.ext_getElem?
  intro q
  rw [List.getElem?_set]
  split
  · next e => subst e; rw [q2]
  · next e =>
    by_cases hq : q < H.length
    · exact q3 q hq (fun e2 => e e2.symm)
    · rw [List.getElem?_eq_none (by simp at q1; omega), List.getElem?_eq_none (by omega)]
end Go.Proofs.Ytckppkimjiifpaa
