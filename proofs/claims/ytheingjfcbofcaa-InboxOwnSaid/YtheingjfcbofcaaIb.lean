/- What an inbox holds: a ring of frames. No condition. -/
import Derived.Test.YtheingjfcbofcaaGn
set_option linter.unusedSectionVars false
set_option linter.unusedVariables false
set_option linter.unusedSimpArgs false
set_option linter.deprecated false
namespace Go.Ibx
open Go.Am Go.Cx
abbrev Bs := List UInt8
/-- A slot of the ring. -/
def slc : Option Bs → List AV
  | some b => [byts b]
  | none => [.v (.slice none 0 0)]
theorem slc_some {b : Bs} : slc (some b) = [byts b] := rfl
theorem slc_none : slc none = [.v (.slice none 0 0)] := rfl
theorem slc_len {o : Option Bs} : (slc o).length = 1 := by cases o <;> rfl
theorem splice_slc {o : Option Bs} {x : AV} : splice 0 [x] (slc o) = [x] := by cases o <;> rfl
theorem getI_slc {L : List (Option Bs)} {i : Nat} (h : i < L.length) : (L.map slc)[i]? = some (slc (L.getD i none)) := by
  rw [List.getElem?_map, List.getElem?_eq_getElem h, List.getD_eq_getElem?_getD, List.getElem?_eq_getElem h]
  rfl
theorem getD_slc {L : List (Option Bs)} {i : Nat} (h : i < L.length) : (L.map slc).getD i [] = slc (L.getD i none) := by
  rw [List.getD_eq_getElem?_getD, getI_slc h]
  rfl
theorem set_slc {L : List (Option Bs)} {i : Nat} : (L.map slc).set i [.v (.slice none 0 0)] = (L.set i none).map slc := by rw [List.map_set]; rfl
theorem sets_slc {L : List (Option Bs)} {i : Nat} {b : Bs} : (L.map slc).set i [.sl 1 (b.map bcl)] = (L.set i (some b)).map slc := by rw [List.map_set]; rfl
theorem nbs_slc {n : Nat} (o : Option Bs) : nbs n (slc o) := by
  cases o with
  | none => exact ⟨trivial, trivial⟩
  | some b => exact ⟨of_eq_true (nb_byts b), trivial⟩
theorem nbss_slc {n : Nat} (L : List (Option Bs)) : nbss n (L.map slc) = True := eq_true (nbss_map nbs_slc L)
theorem amapss_slc {f : Nat → Nat} (L : List (Option Bs)) : amapss f (L.map slc) = L.map slc := amapss_id (n := 0) (fun r hr => absurd hr (Nat.not_lt_zero r)) (of_eq_true (nbss_slc L))
theorem rep_slc (n : Nat) : List.replicate n [AV.v (.slice none 0 0)] = (List.replicate n (none : Option Bs)).map slc := by rw [List.map_replicate]; rfl
theorem frz_rows {d N r k : Nat} {hot : Bool} {L : Heap} {l : List Bs} (hr : N ≤ r) (h : L[r - N]? = some (some (.row hot 1 (l.map fun b => [byts b])))) (hk : k = l.length) : frz (d + 1) L N (.hs r 1 0 k) = .sl 1 (l.map fun b => [byts b]) := by
  subst hk
  unfold frz
  rw [if_neg (by omega), h]
  simp only
  rw [if_pos ⟨trivial, by simp⟩, List.drop_zero, List.take_of_length_le (by simp), List.map_map]
  congr 1
  refine List.map_congr_left fun x _ => ?_
  simp [frz_sl]
/-- A ring: its slots, where it begins, the frames in it. -/
structure Ring where
  L : List (Option Bs)
  a : Nat
  fs : List Bs
structure Ring.Ok (R : Ring) : Prop where
  pos : 0 < R.L.length
  small : R.L.length ≤ 64
  a : R.a < R.L.length
  n : R.fs.length ≤ R.L.length
  at_ : ∀ k b, R.fs[k]? = some b → R.L.getD ((R.a + k) % R.L.length) none = some b
def Ring.new (m : Nat) : Ring := ⟨List.replicate m none, 0, []⟩
def Ring.put (R : Ring) (b : Bs) : Ring := ⟨R.L.set ((R.a + R.fs.length) % R.L.length) (some b), R.a, R.fs ++ [b]⟩
def Ring.drop (R : Ring) : Ring := ⟨R.L.set R.a none, (R.a + 1) % R.L.length, R.fs.drop 1⟩
theorem Ring.new_ok {m : Nat} (h : 1 ≤ m ∧ m ≤ 64) : (Ring.new m).Ok := ⟨by simp [Ring.new]; omega, by simp [Ring.new]; omega, by simp [Ring.new]; omega, by simp [Ring.new], fun k b h => by simp [Ring.new] at h⟩
theorem mod_ne {m a i j : Nat} (hi : i < m) (hj : j < m) (h : (a + i) % m = (a + j) % m) : i = j := by
  have h1 : (a + i) % m = (a + j) % m := h
  have e1 := Nat.div_add_mod (a + i) m
  have e2 := Nat.div_add_mod (a + j) m
  rcases Nat.lt_trichotomy i j with hl | hl | hl
  · exfalso
    have h3 : (a + j) - (a + i) = m * ((a + j) / m) - m * ((a + i) / m) := by omega
    rw [← Nat.mul_sub] at h3
    have h4 : j - i = m * ((a + j) / m - (a + i) / m) := by omega
    rcases Nat.eq_zero_or_pos ((a + j) / m - (a + i) / m) with h5 | h5
    · rw [h5] at h4; omega
    · have := Nat.le_mul_of_pos_right m h5
      omega
  · exact hl
  · exfalso
    have h3 : (a + i) - (a + j) = m * ((a + i) / m) - m * ((a + j) / m) := by omega
    rw [← Nat.mul_sub] at h3
    have h4 : i - j = m * ((a + i) / m - (a + j) / m) := by omega
    rcases Nat.eq_zero_or_pos ((a + i) / m - (a + j) / m) with h5 | h5
    · rw [h5] at h4; omega
    · have := Nat.le_mul_of_pos_right m h5
      omega
theorem getD_set_ne {L : List (Option Bs)} {i j : Nat} {x : Option Bs} (h : i ≠ j) : (L.set i x).getD j none = L.getD j none := by
  rw [List.getD_eq_getElem?_getD, List.getElem?_set_ne h, List.getD_eq_getElem?_getD]
theorem getD_set_eq {L : List (Option Bs)} {i : Nat} {x : Option Bs} (h : i < L.length) : (L.set i x).getD i none = x := by
  rw [List.getD_eq_getElem?_getD, List.getElem?_set_self h]
  rfl
theorem Ring.put_ok {R : Ring} (h : R.Ok) (hn : R.fs.length < R.L.length) (b : Bs) : (R.put b).Ok := by
  obtain ⟨h1, h2, h3, h4, h5⟩ := h
  have hm : (R.a + R.fs.length) % R.L.length < R.L.length := Nat.mod_lt _ h1
  refine ⟨by simpa [Ring.put] using h1, by simpa [Ring.put] using h2, by simpa [Ring.put] using h3, by simp [Ring.put]; omega, fun k c hk => ?_⟩
  simp only [Ring.put, List.length_set] at hk ⊢
  rcases Nat.lt_or_ge k R.fs.length with hlt | hge
  · rw [List.getElem?_append_left hlt] at hk
    have h6 := h5 k c hk
    rw [getD_set_ne (fun e => by have := mod_ne hn (by omega) e; omega)]
    exact h6
  · have hkl : k < (R.fs ++ [b]).length := (List.getElem?_eq_some_iff.1 hk).1
    simp at hkl
    obtain rfl : k = R.fs.length := by omega
    rw [List.getElem?_append_right (Nat.le_refl _), Nat.sub_self] at hk
    simp at hk
    subst hk
    exact getD_set_eq hm
theorem Ring.drop_ok {R : Ring} (h : R.Ok) (hn : 0 < R.fs.length) : R.drop.Ok := by
  obtain ⟨h1, h2, h3, h4, h5⟩ := h
  refine ⟨by simpa [Ring.drop] using h1, by simpa [Ring.drop] using h2, by simp only [Ring.drop, List.length_set]; exact Nat.mod_lt _ h1, by simp [Ring.drop]; omega, fun k c hk => ?_⟩
  simp only [Ring.drop, List.length_set] at hk ⊢
  rw [List.getElem?_drop] at hk
  have hkl : 1 + k < R.fs.length := (List.getElem?_eq_some_iff.1 hk).1
  have h6 := h5 (1 + k) c hk
  have e : ((R.a + 1) % R.L.length + k) % R.L.length = (R.a + (1 + k)) % R.L.length := by rw [Nat.mod_add_mod]; congr 1; omega
  rw [e, getD_set_ne (fun e2 => ?_)]
  · exact h6
  · have h7 : (R.a + 0) % R.L.length = (R.a + (1 + k)) % R.L.length := by rw [← e2, Nat.add_zero, Nat.mod_eq_of_lt h3]
    have := mod_ne h1 (by omega) h7
    omega
theorem Ring.first {R : Ring} (h : R.Ok) {b : Bs} (hb : R.fs[0]? = some b) : R.L.getD R.a none = some b := by
  have := h.at_ 0 b hb
  rwa [Nat.add_zero, Nat.mod_eq_of_lt h.a] at this
theorem Ring.put_len {R : Ring} {b : Bs} : (R.put b).L.length = R.L.length := by simp [Ring.put]
theorem Ring.drop_len {R : Ring} : R.drop.L.length = R.L.length := by simp [Ring.drop]
/-- k frames taken out. -/
def Ring.clr (R : Ring) : Nat → Ring
  | 0 => R
  | k + 1 => (R.clr k).drop
theorem Ring.clr_fs (R : Ring) : ∀ k, (R.clr k).fs = R.fs.drop k
  | 0 => rfl
  | k + 1 => by
    show ((R.clr k).fs).drop 1 = _
    rw [Ring.clr_fs R k, List.drop_drop]
theorem Ring.clr_len (R : Ring) : ∀ k, (R.clr k).L.length = R.L.length
  | 0 => rfl
  | k + 1 => by
    show (R.clr k).drop.L.length = _
    rw [Ring.drop_len, Ring.clr_len R k]
theorem Ring.clr_ok {R : Ring} (h : R.Ok) : ∀ k, k ≤ R.fs.length → (R.clr k).Ok
  | 0, _ => h
  | k + 1, hk => Ring.drop_ok (Ring.clr_ok h k (by omega)) (by rw [Ring.clr_fs]; simp; omega)
end Go.Ibx
