/- Locks: another one that stands alike, by the machine. No condition but bounds of lengths. -/
import Derived.Test.YtckppkimjiifpaaQLo
import Derived.Test.YtckppkimjiifpaaQNd
import Derived.Test.YtckppkimjiifpaaQb1
set_option linter.unusedSectionVars false
set_option linter.unusedVariables false
set_option linter.unusedSimpArgs false
set_option linter.deprecated false
namespace Go.Proofs.Ytckppkimjiifpaa
open Go.RowKit Go.Cx Go.Am
def lpsb (b n : Nat) : List (List AV) := (List.range n).map fun j => [.ptr (b + (2 * j + 1)) 0]
def lkVb (b : Nat) : Nat → List Lk → Heap
  | _, [] => []
  | j, k :: st => some (.obj [.mp (b + (2 * j + 2)), .sl 2 (cels k.row)]) :: some (mB vI k.held) :: lkVb b (j + 1) st
/-- Locks whose first name is b. -/
def LHb (b : Nat) (st : List Lk) : Heap := some (.obj [.sl 1 (lpsb b st.length)]) :: lkVb b 0 st
/-- i locks of st that are being copied. -/
def NHb (b : Nat) (st : List Lk) (i : Nat) : Heap := some (.obj [.hs (b + (2 * i + 1)) 1 0 i]) :: (lkVb b 0 (st.take i) ++ [some (.row true 1 (lpsb b i))])
theorem lpsb_len (b n : Nat) : (lpsb b n).length = n := by simp [lpsb]
theorem lpsb_succ (b i : Nat) : lpsb b (i + 1) = lpsb b i ++ [[.ptr (b + (2 * i + 1)) 0]] := by simp [lpsb, List.range_succ]
theorem lkVb_len (b j : Nat) (st : List Lk) : (lkVb b j st).length = 2 * st.length := by
  induction st generalizing j with
  | nil => rfl
  | cons k st ih => simp [lkVb, ih]; omega
theorem lkVb_o (b j : Nat) (st : List Lk) (i : Nat) (hi : i < st.length) : (lkVb b j st)[2 * i]? = some (some (.obj [.mp (b + (2 * (j + i) + 2)), .sl 2 (cels (lk st i).row)])) ∧ (lkVb b j st)[2 * i + 1]? = some (some (mB vI (lk st i).held)) := by
  induction st generalizing j i with
  | nil => simp at hi
  | cons k st ih =>
    cases i with
    | zero => exact ⟨rfl, rfl⟩
    | succ i =>
      have := ih (j + 1) i (by simpa using hi)
      have e : j + 1 + i = j + (i + 1) := by omega
      rw [e] at this
      exact this
theorem LHb_len (b : Nat) (st : List Lk) : (LHb b st).length = 2 * st.length + 1 := by simp [LHb, lkVb_len]
theorem LHb_o (b : Nat) (st : List Lk) {i : Nat} (hi : i < st.length) : (LHb b st)[2 * i + 1]? = some (some (.obj [.mp (b + (2 * i + 2)), .sl 2 (cels (lk st i).row)])) ∧ (LHb b st)[2 * i + 2]? = some (some (mB vI (lk st i).held)) := by
  have := lkVb_o b 0 st i hi
  rw [Nat.zero_add] at this
  exact this
theorem lk_take {st : List Lk} {i j : Nat} (hj : j < i) : lk (st.take i) j = lk st j := by
  simp [lk, List.getD_eq_getElem?_getD, List.getElem?_take, hj]
theorem NHb_len (b : Nat) (st : List Lk) {i : Nat} (hi : i ≤ st.length) : (NHb b st i).length = 2 * i + 2 := by
  simp [NHb, lkVb_len]
  omega
theorem NHb_0 (b : Nat) (st : List Lk) (i : Nat) : (NHb b st i)[0]? = some (some (.obj [.hs (b + (2 * i + 1)) 1 0 i])) := rfl
theorem NHb_o (b : Nat) (st : List Lk) {i j : Nat} (hi : i ≤ st.length) (hj : j < i) : (NHb b st i)[2 * j + 1]? = some (some (.obj [.mp (b + (2 * j + 2)), .sl 2 (cels (lk st j).row)])) ∧ (NHb b st i)[2 * j + 2]? = some (some (mB vI (lk st j).held)) := by
  have hl : (st.take i).length = i := by rw [List.length_take]; omega
  have h := lkVb_o b 0 (st.take i) j (by omega)
  rw [lk_take hj, Nat.zero_add] at h
  have hl2 := lkVb_len b 0 (st.take i)
  constructor
  · show (lkVb b 0 (st.take i) ++ _)[2 * j]? = _
    rw [List.getElem?_append_left (by omega)]
    exact h.1
  · show (lkVb b 0 (st.take i) ++ _)[2 * j + 1]? = _
    rw [List.getElem?_append_left (by omega)]
    exact h.2
theorem NHb_r (b : Nat) (st : List Lk) {i : Nat} (hi : i ≤ st.length) : (NHb b st i)[2 * i + 1]? = some (some (.row true 1 (lpsb b i))) := by
  have hl : (st.take i).length = i := by rw [List.length_take]; omega
  have hl2 := lkVb_len b 0 (st.take i)
  show (lkVb b 0 (st.take i) ++ _)[2 * i]? = _
  rw [List.getElem?_append_right (by omega), hl2, hl]
  simp
theorem lpsb_nbss {b n N : Nat} (h : b + 2 * n ≤ N) : nbss N (lpsb b n) := by
  rw [nbss_iff]
  intro e he
  obtain ⟨j, hj, rfl⟩ := List.mem_map.1 he
  have := List.mem_range.1 hj
  exact ⟨by unfold nb; omega, trivial⟩
/-- What a round makes of it. -/
def NFb (b : Nat) (st : List Lk) (i : Nat) (X : Option Blk) : Heap := ((NHb b st i).set (2 * i + 1) none).set 0 (some (.obj [.hs (b + (2 * i + 6)) 1 0 (i + 1)])) ++ [some (mB vI (lk st i).held), some (.obj [.mp (b + (2 * i + 2)), .sl 2 (cels (lk st i).row)]), X, some (.row true 1 [[.ptr (b + (2 * i + 3)) 0]]), some (.row true 1 (lpsb b i ++ [[.ptr (b + (2 * i + 3)) 0]]))]
def nfb (b i r : Nat) : Nat := if r < b + (2 * i + 1) then r else if r = b + (2 * i + 1) then b + (2 * i + 3) else if r = b + (2 * i + 2) then b + (2 * i + 2) else b + (2 * i + 6)
theorem NFb_old (b : Nat) (st : List Lk) (X : Option Blk) {i r : Nat} (hi : i ≤ st.length) (h : 0 < r) (h2 : r < 2 * i + 1) : (NFb b st i X)[r]? = (NHb b st i)[r]? := by
  unfold NFb
  rw [List.getElem?_append_left (by rw [List.length_set, List.length_set, NHb_len b st hi]; omega), List.getElem?_set_ne (by omega), List.getElem?_set_ne (by omega)]
theorem NFb_new (b : Nat) (st : List Lk) (X : Option Blk) {i : Nat} (hi : i ≤ st.length) (k : Nat) : (NFb b st i X)[2 * i + 2 + k]? = [some (mB vI (lk st i).held), some (.obj [.mp (b + (2 * i + 2)), .sl 2 (cels (lk st i).row)]), X, some (.row true 1 [[.ptr (b + (2 * i + 3)) 0]]), some (.row true 1 (lpsb b i ++ [[.ptr (b + (2 * i + 3)) 0]]))][k]? := by
  unfold NFb
  rw [List.getElem?_append_right (by rw [List.length_set, List.length_set, NHb_len b st hi]; omega), List.length_set, List.length_set, NHb_len b st hi]
  congr 1
  omega
theorem cq_newb {n : Nat} {T : Nat → AV} {tl : List (Nat × AV)} (st : List Lk) (X : Option Blk) (i : Nat) (hi : i < st.length) (hn : n ≤ (LH st).length) (hT : okT ((LH st).length + (2 * i + 4)) (nfb (LH st).length i) T tl) : Cq E0 n T (LH st ++ NFb (LH st).length st i X) (ofl tl) (LH st ++ NHb (LH st).length st (i + 1)) := by
  obtain ⟨N, hN⟩ : ∃ N, (LH st).length = N := ⟨_, rfl⟩
  have hnb := LH_nbs st
  rw [hN] at hn hT hnb ⊢
  have f1 : ∀ r, r < N + (2 * i + 1) → nfb N i r = r := fun r h => by unfold nfb; rw [if_pos h]
  have f2 : nfb N i (N + (2 * i + 1)) = N + (2 * i + 3) := by unfold nfb; rw [if_neg (by omega), if_pos rfl]
  have f3 : nfb N i (N + (2 * i + 2)) = N + (2 * i + 2) := by unfold nfb; rw [if_neg (by omega), if_neg (by omega), if_pos rfl]
  have f4 : nfb N i (N + (2 * i + 3)) = N + (2 * i + 6) := by unfold nfb; rw [if_neg (by omega), if_neg (by omega), if_neg (by omega)]
  have hl1 := NHb_len N st (i := i + 1) (by omega)
  have hlen : (LH st ++ NHb N st (i + 1)).length = N + (2 * i + 4) := by rw [List.length_append, hN, hl1]; omega
  have hget : ∀ (G : Heap) (q : Nat), (LH st ++ G)[N + q]? = G[q]? := fun G q => by rw [List.getElem?_append_right (by omega), hN, Nat.add_sub_cancel_left]
  refine Cq.ren (nfb N i) (fun _ => by omega) (fun r hr => f1 r (by omega)) (fun r B hr => ?_) (fun r r' B B' hr hr' e => ?_) (fun j => ?_)
  · have hrl := (List.getElem?_eq_some_iff.1 hr).1
    rw [hlen] at hrl ⊢
    rcases Nat.lt_or_ge r N with hlt | hge
    · rw [List.getElem?_append_left (by omega)] at hr
      have hb := hnb r B hr
      have hb2 : nbB (N + (2 * i + 4)) B := by
        cases B with
        | obj cs => exact nbs.mono (by omega) hb
        | row hot sz es => exact nbss.mono (by omega) hb
        | map ks vs s => exact nbs.mono (by omega) hb
        | iter m bs c seen => exact Nat.lt_of_lt_of_le hb (by omega)
      refine ⟨hb2, ?_⟩
      rw [f1 r (by omega), List.getElem?_append_left (by omega), hr, bmap_id (n := N) (fun q hq => f1 q (by omega)) hb]
    · obtain ⟨q, rfl⟩ : ∃ q, r = N + q := ⟨r - N, by omega⟩
      rw [hget] at hr
      rcases Nat.eq_zero_or_pos q with rfl | hp
      · rw [NHb_0] at hr
        cases hr
        refine ⟨⟨by unfold nb; omega, trivial⟩, ?_⟩
        rw [f1 _ (by omega), hget]
        show some (some (Blk.obj [.hs (N + (2 * i + 6)) 1 0 (i + 1)])) = some (some (.obj [.hs (nfb N i (N + (2 * i + 3))) 1 0 (i + 1)]))
        rw [f4]
      · rcases Nat.lt_or_ge q (2 * i + 1) with hlt2 | hge2
        · rw [f1 _ (by omega), hget, NFb_old N st X (by omega) hp hlt2]
          obtain ⟨j, h | h⟩ : ∃ j, q = 2 * j + 1 ∨ q = 2 * j + 2 := ⟨(q - 1) / 2, by omega⟩
          · subst h
            rw [(NHb_o N st (by omega) (by omega : j < i + 1)).1] at hr
            cases hr
            rw [(NHb_o N st (by omega) (by omega : j < i)).1]
            refine ⟨⟨by unfold nb; omega, of_eq_true (cels_nbss _), trivial⟩, ?_⟩
            show _ = some (some (Blk.obj [.mp (nfb N i (N + (2 * j + 2))), .sl 2 (amapss _ (cels (lk st j).row))]))
            rw [f1 _ (by omega), cels_amapss]
          · subst h
            rw [(NHb_o N st (by omega) (by omega : j < i + 1)).2] at hr
            cases hr
            rw [(NHb_o N st (by omega) (by omega : j < i)).2]
            exact ⟨of_eq_true nbB_mI, by rw [bmap_mI]⟩
        · obtain h | h | h : q = 2 * i + 1 ∨ q = 2 * i + 2 ∨ q = 2 * i + 3 := by omega
          · subst h
            rw [(NHb_o N st (by omega) (by omega : i < i + 1)).1] at hr
            cases hr
            rw [f2, hget, show 2 * i + 3 = 2 * i + 2 + 1 by omega, NFb_new N st X (by omega)]
            refine ⟨⟨by unfold nb; omega, of_eq_true (cels_nbss _), trivial⟩, ?_⟩
            show _ = some (some (Blk.obj [.mp (nfb N i (N + (2 * i + 2))), .sl 2 (amapss _ (cels (lk st i).row))]))
            rw [f3, cels_amapss]
            rfl
          · subst h
            rw [(NHb_o N st (by omega) (by omega : i < i + 1)).2] at hr
            cases hr
            rw [f3, hget, show 2 * i + 2 = 2 * i + 2 + 0 by omega, NFb_new N st X (by omega)]
            exact ⟨of_eq_true nbB_mI, by rw [bmap_mI]; rfl⟩
          · subst h
            have hr2 := NHb_r N st (i := i + 1) (by omega)
            rw [show 2 * (i + 1) + 1 = 2 * i + 3 by omega] at hr2
            rw [hr2] at hr
            cases hr
            rw [f4, hget, show 2 * i + 6 = 2 * i + 2 + 4 by omega, NFb_new N st X (by omega)]
            refine ⟨lpsb_nbss (by omega), ?_⟩
            show _ = some (some (Blk.row true 1 (amapss (nfb N i) (lpsb N (i + 1)))))
            have e : amapss (nfb N i) (lpsb N (i + 1)) = lpsb N i ++ [[.ptr (N + (2 * i + 3)) 0]] := by
              rw [lpsb_succ]
              have h5 : ∀ a b : List (List AV), amapss (nfb N i) (a ++ b) = amapss (nfb N i) a ++ amapss (nfb N i) b := fun a b => by
                induction a with
                | nil => rfl
                | cons x a ih => show amaps (nfb N i) x :: amapss (nfb N i) (a ++ b) = amaps (nfb N i) x :: amapss (nfb N i) a ++ amapss (nfb N i) b; rw [ih]; rfl
              rw [h5, amapss_id (n := N + 2 * i) (fun r h => f1 r (by omega)) (lpsb_nbss (by omega))]
              show lpsb N i ++ [[.ptr (nfb N i (N + (2 * i + 1))) 0]] = _
              rw [f2]
            rw [e]
            rfl
  · have h1 := (List.getElem?_eq_some_iff.1 hr).1
    have h2 := (List.getElem?_eq_some_iff.1 hr').1
    rw [hlen] at h1 h2
    unfold nfb at e
    split at e <;> split at e <;> (try split at e) <;> (try split at e) <;> (try split at e) <;> (try split at e) <;> omega
  · rw [hlen]
    exact ofl_all (p := fun j x => nb (N + (2 * i + 4)) x ∧ Wk (T j) (amap (nfb N i) x)) ⟨trivial, Wk.any _⟩ fun x hx => okT_all hT x hx
theorem cq_doneb {n : Nat} {T : Nat → AV} {tl : List (Nat × AV)} (st : List Lk) (hn : n ≤ (LH st).length) (hT : ∀ x ∈ tl, T x.1 = x.2) (hb : okD (LH st ++ LHb (LH st).length st).length 0 [none] (ofl tl) tl) : Cq E0 n T (LH st ++ NHb (LH st).length st st.length) (ofl tl) (LH st ++ LHb (LH st).length st) := by
  obtain ⟨N, hN⟩ : ∃ N, (LH st).length = N := ⟨_, rfl⟩
  have hnb := LH_nbs st
  rw [hN] at hn hb hnb ⊢
  have hget : ∀ (G : Heap) (q : Nat), (LH st ++ G)[N + q]? = G[q]? := fun G q => by rw [List.getElem?_append_right (by omega), hN, Nat.add_sub_cancel_left]
  have hl1 := NHb_len N st (i := st.length) (Nat.le_refl _)
  have hl2 := LHb_len N st
  have h1 : Cq E0 n T (LH st ++ NHb N st st.length) (ofl tl) ((LH st ++ LHb N st) ++ [none]) := by
    refine cq_ice (N + (2 * st.length + 1)) (by rw [hget]; exact NHb_r N st (Nat.le_refl _)) (by rw [List.length_append, List.length_append, List.length_append, hl1, hl2]; rfl) (fun q B' hq => ?_) (fun x hx => .inl (hT x hx))
    have hql := (List.getElem?_eq_some_iff.1 hq).1
    rw [List.length_append, List.length_append, hN, hl2] at hql
    have hql2 : q < N + (2 * st.length + 1) + 1 := hql
    by_cases hq1 : q = N + (2 * st.length + 1)
    · subst hq1
      rw [List.getElem?_append_right (by rw [List.length_append, hN, hl2]; exact Nat.le_refl _), List.length_append, hN, hl2, Nat.sub_self] at hq
      cases hq
    · rw [List.getElem?_append_left (by rw [List.length_append, hN, hl2]; omega)] at hq
      refine ⟨hq1, ?_⟩
      rcases Nat.lt_or_ge q N with hlt | hge
      · rw [List.getElem?_append_left (by omega)] at hq
        exact ⟨B', by rw [List.getElem?_append_left (by omega)]; exact hq, rlB_refl B'⟩
      · obtain ⟨p, rfl⟩ : ∃ p, q = N + p := ⟨q - N, by omega⟩
        rw [hget] at hq ⊢
        rcases Nat.eq_zero_or_pos p with rfl | hp
        · cases hq
          refine ⟨_, NHb_0 N st _, .inr ⟨0, st.length, rfl, by rw [lpsb_len]; omega, by rw [List.drop_zero, List.take_of_length_le (by rw [lpsb_len]; omega)]⟩, trivial⟩
        · obtain ⟨j, h | h⟩ : ∃ j, p = 2 * j + 1 ∨ p = 2 * j + 2 := ⟨(p - 1) / 2, by omega⟩
          · subst h
            rw [(LHb_o N st (by omega : j < st.length)).1] at hq
            cases hq
            exact ⟨_, (NHb_o N st (Nat.le_refl _) (by omega : j < st.length)).1, rlB_refl _⟩
          · subst h
            rw [(LHb_o N st (by omega : j < st.length)).2] at hq
            cases hq
            exact ⟨_, (NHb_o N st (Nat.le_refl _) (by omega : j < st.length)).2, rlB_refl _⟩
  refine h1.trans (cq_drop 0 (by rw [List.length_append]; omega) (fun k B hk => ?_) hb)
  have hk2 := (List.getElem?_eq_some_iff.1 hk).1
  rw [List.length_append, hN, hl2] at hk2 ⊢
  rcases Nat.lt_or_ge k N with hlt | hge
  · rw [List.getElem?_append_left (by omega)] at hk
    have hb := hnb k B hk
    cases B with
    | obj cs => exact nbs.mono (by omega) hb
    | row hot sz es => exact nbss.mono (by omega) hb
    | map ks vs s => exact nbs.mono (by omega) hb
    | iter m bs c seen => exact Nat.lt_of_lt_of_le hb (by omega)
  · obtain ⟨p, rfl⟩ : ∃ p, k = N + p := ⟨k - N, by omega⟩
    rw [hget] at hk
    rcases Nat.eq_zero_or_pos p with rfl | hp
    · cases hk
      exact ⟨lpsb_nbss (by omega), trivial⟩
    · obtain ⟨j, h | h⟩ : ∃ j, p = 2 * j + 1 ∨ p = 2 * j + 2 := ⟨(p - 1) / 2, by omega⟩
      · subst h
        rw [(LHb_o N st (by omega : j < st.length)).1] at hk
        cases hk
        exact ⟨by unfold nb; omega, of_eq_true (cels_nbss _), trivial⟩
      · subst h
        rw [(LHb_o N st (by omega : j < st.length)).2] at hk
        cases hk
        exact of_eq_true nbB_mI
end Go.Proofs.Ytckppkimjiifpaa
