/- The abstract machine: rules that came later. No condition. -/
import Derived.Test.YtheingjfcbofcaaUv
import Derived.Test.YtheingjfcbofcaaFx
set_option linter.unusedSectionVars false
set_option linter.unusedVariables false
set_option linter.unusedSimpArgs false
set_option linter.deprecated false
namespace Go.Am
open Go.RowKit Go.Cx
theorem chunks1_c {n : Nat} {c : AV} {cs : List AV} : chunks 1 (n + 1) (c :: cs) = [c] :: chunks 1 n cs := (rfl)
theorem chunks1_0 {cs : List AV} : chunks 1 0 cs = [] := (rfl)
end Go.Am
namespace Go.Am
open Go.RowKit Go.Cx
theorem amapss_set {f : Nat → Nat} : ∀ {l : List (List AV)} {i : Nat} {e : List AV}, amapss f (l.set i e) = (amapss f l).set i (amaps f e)
  | [], _, _ => rfl
  | a :: l, 0, e => rfl
  | a :: l, i + 1, e => by
    simp only [List.set_cons_succ]
    unfold amapss
    rw [amapss_set, List.set_cons_succ]
theorem nbss_set {n : Nat} : ∀ {l : List (List AV)} {e : List AV}, nbss n l → nbs n e → ∀ i, nbss n (l.set i e)
  | [], _, _, _, _ => trivial
  | a :: l, e, h, k, 0 => ⟨k, h.2⟩
  | a :: l, e, h, k, i + 1 => ⟨h.1, nbss_set h.2 k i⟩
theorem jxcl {E : Env} {g : FuncId} {al al' : List AV} {r0 : AV} {K : Kv} {Hf : Heap → Heap} (h : ACalls E g al [] fun r H' => r = r0 ∧ H' = []) (ok : (∀ L, okAs false [] (Hf L) 0 al' al) ∧ nb 0 r0) (hk : K.k r0) : @jex (fun v => ∀ L, @jcall E g al' (Hf L) ⟨fun v' H' => v' = v ∧ H' = Hf L⟩) K :=
  jx (fun L => by
    refine z_at h [] List.nodup_nil (by simp) trivial (okAs_rd (ok.1 L)) ?_
    refine ⟨amap_id (n := 0) (fun r hr => absurd hr (Nat.not_lt_zero r)) ok.2, ?_⟩
    rw [back_nil]
    simp) hk
def nbH (n : Nat) : Heap → Prop
  | [] => True
  | none :: H => nbH n H
  | some B :: H => nbB n B ∧ nbH n H
theorem nbH_at {n : Nat} : ∀ {H : Heap}, nbH n H → ∀ (k : Nat) (B : Blk), H[k]? = some (some B) → nbB n B
  | [], _, k, B, e => by simp at e
  | none :: H, h, 0, B, e => by simp at e
  | none :: H, h, k + 1, B, e => nbH_at (H := H) h k B (by simpa using e)
  | some B' :: H, h, 0, B, e => by simp at e; subst e; exact h.1
  | some B' :: H, h, k + 1, B, e => nbH_at (H := H) h.2 k B (by simpa using e)
/-- Rows of one's own, told as they read. -/
theorem frz_hs {d N r k : Nat} {hot : Bool} {L : Heap} {l : List UInt8} (hr : N ≤ r) (h : L[r - N]? = some (some (.row hot 1 (l.map bcl)))) (hk : k = l.length) : frz (d + 1) L N (.hs r 1 0 k) = byts l := by
  subst hk
  unfold frz
  rw [if_neg (by omega), h]
  simp only
  rw [if_pos ⟨trivial, by simp⟩, List.drop_zero, List.take_of_length_le (by simp), frzs_bcl]
theorem frz_agg {d N : Nat} {L : Heap} {l : List AV} : frz (d + 1) L N (.agg l) = .agg (l.map (frz d L N)) := (rfl)
theorem frz_tup {d N : Nat} {L : Heap} {l : List AV} : frz (d + 1) L N (.tup l) = .tup (l.map (frz d L N)) := (rfl)
section
variable {E : Env} {f : FuncId} {al : List AV}
/-- A contract's last blocks, told as they read. -/
theorem ACalls.cold2 {H0 L1 L2 : Heap} {r0 : AV} (h : ACalls E f al H0 fun r H' => r = r0 ∧ H' = L1 ++ L2) (d : Nat) (r2 : AV) (hlen : H0.length ≤ L1.length) (hB : nbH L1.length L1) (hr : nb L1.length r2 ∧ Wk (frz d L2 L1.length r0) r2) : ACalls E f al H0 fun r H' => r = r2 ∧ H' = L1 := by
  refine calls_q ⟨h.1, fun w M vs hG hv => (h.2 w M vs hG hv).mono ?_⟩
  rintro e w' ⟨r, H', v, M', rfl, ⟨rfl, rfl⟩, q⟩
  exact ⟨_, _, v, M', rfl, ⟨ofl [(0, r2)], L1, cq_drop (H1 := L1) (L := L2) d hlen (nbH_at hB) ⟨⟨hr.1, hr.2⟩, trivial⟩, rfl, rfl⟩, q⟩
end
end Go.Am
namespace Go.Am
open Go.Cx
theorem rows_get (xss : List (List UInt8)) (i : Nat) (h : i < xss.length) : (xss.map fun l => [byts l]).getD i [] = [byts (xss.getD i [])] := by
  simp [List.getD_eq_getElem?_getD, List.getElem?_eq_getElem h]
theorem nbss_rows {n : Nat} (xss : List (List UInt8)) : nbss n (xss.map fun l => [.sl 1 (l.map bcl)]) = True :=
  eq_true (nbss_map (fun l => nbs_iff.2 fun a ha => by
    simp at ha
    subst ha
    exact of_eq_true (nb_byts l)) xss)
theorem amapss_rows {f : Nat → Nat} (xss : List (List UInt8)) : amapss f (xss.map fun l => [.sl 1 (l.map bcl)]) = xss.map fun l => [.sl 1 (l.map bcl)] :=
  amapss_id (n := 0) (fun r hr => absurd hr (Nat.not_lt_zero r)) (of_eq_true (nbss_rows xss))
theorem take_more {α : Type} (d : α) (xss : List α) (i : Nat) (h : i < xss.length) : xss.take (i + 1) = xss.take i ++ [xss.getD i d] := by
  rw [List.take_add_one, List.getElem?_eq_getElem h]
  simp [List.getD_eq_getElem?_getD, List.getElem?_eq_getElem h]
end Go.Am
namespace Go.Proofs.Ytheingjfcbofcaa
open Go.RowKit Go.Cx Go.Am
noncomputable def E0 : Env := ⟨Try.prog, fun _ => .any⟩
theorem frz_row {d n : Nat} {l : List UInt8} (h : n = l.length) : frz (d + 1) [some (.row true 1 (l.map bcl))] 0 (.hs 0 1 0 n) = byts l := by
  subst h
  show (if 0 < 0 then _ else _) = _
  rw [if_neg (Nat.lt_irrefl 0)]
  show (if 1 = 1 ∧ 0 + l.length ≤ (l.map bcl).length then AV.sl 1 ((((l.map bcl).drop 0).take l.length).map fun e => e.map (frz d [some (Blk.row true 1 (l.map bcl))] 0)) else .any) = _
  rw [if_pos ⟨rfl, by simp⟩, List.drop_zero, List.take_of_length_le (by simp), frzs_bcl]
end Go.Proofs.Ytheingjfcbofcaa
