/- Rows of tags, told to the abstract machine. No condition. -/
import Derived.Test.YtckppkimjiifpaaTm
import Derived.Test.YtckppkimjiifpaaOt
set_option linter.unusedSectionVars false
set_option linter.unusedVariables false
set_option linter.unusedSimpArgs false
set_option linter.deprecated false
namespace Go.Am
open Go.Cx
theorem VRt.wks {M : Mem} {n : Nat} {w : World} : ∀ {cs cs' : List AV} {us : List Value}, wks cs cs' → VRt M n w cs us → VRt M n w cs' us
  | [], [], us, _, h => h
  | a :: l, b :: m, us, k, h => by
    unfold VRt at h ⊢
    obtain ⟨x, r, h0, k2, k3⟩ := h
    exact ⟨x, r, h0, k.1 _ _ _ _ k2, VRt.wks k.2 k3⟩
  | [], _ :: _, _, k, _ => k.elim
  | _ :: _, [], _, k, _ => k.elim
theorem str_cut (l : List UInt8) (k : Nat) : (str l).extract 0 k = str (l.take k) := by
  unfold str
  apply ByteArray.ext
  rw [ByteArray.data_extract]
  simp [List.extract]
theorem nbss_app {n : Nat} : ∀ {a b : List (List AV)}, nbss n (a ++ b) = (nbss n a ∧ nbss n b)
  | [], b => by simp [nbss]
  | x :: a, b => by
    show (nbs n x ∧ nbss n (a ++ b)) = ((nbs n x ∧ nbss n a) ∧ nbss n b)
    rw [nbss_app, and_assoc]
theorem amapss_app {f : Nat → Nat} : ∀ {a b : List (List AV)}, amapss f (a ++ b) = amapss f a ++ amapss f b
  | [], b => by simp [amapss]
  | x :: a, b => by
    show amaps f x :: amapss f (a ++ b) = amaps f x :: amapss f a ++ amapss f b
    rw [amapss_app, List.cons_append]
theorem Wk.aggs {xs ys : List AV} (h : wks xs ys) : Wk (.agg xs) (.agg ys) := fun M n w u k => by
  unfold VR at k ⊢
  obtain ⟨us, k1, k2⟩ := k
  exact ⟨us, k1, VRs.wks h k2⟩
theorem Wk.tups {xs ys : List AV} (h : wks xs ys) : Wk (.tup xs) (.tup ys) := fun M n w u k => by
  unfold VR at k ⊢
  obtain ⟨us, k1, k2⟩ := k
  exact ⟨us, k1, VRt.wks h k2⟩
end Go.Am
namespace Go.Proofs.Ytckppkimjiifpaa
open Go.RowKit Go.Cx Go.Am
def tagC (t : Tag) : List AV := [.v (.int .i64 t.typ), byts t.val]
def tgs (l : List Tag) : List (List AV) := l.map tagC
def tg0 : Tag := ⟨0, []⟩
theorem tagC_eq (t : Tag) : tagC t = [.v (.int .i64 t.typ), .sl 1 (t.val.map bcl)] := rfl
section
variable {l m : List Tag} {t : Tag} {i k : Nat}
theorem tgs_nil : tgs [] = [] := rfl
theorem tgs_len : (tgs l).length = l.length := by simp [tgs]
theorem tgs_take : (tgs l).take k = tgs (l.take k) := by simp [tgs, List.map_take]
theorem tgs_drop : (tgs l).drop k = tgs (l.drop k) := by simp [tgs, List.map_drop]
theorem tgs_app : tgs l ++ tgs m = tgs (l ++ m) := by simp [tgs]
theorem tgs_snoc {y : Int} {v : List UInt8} : tgs l ++ [[.v (.int .i64 y), .sl 1 (v.map bcl)]] = tgs (l ++ [⟨y, v⟩]) := by simp [tgs]; rfl
theorem tgs_one {y : Int} {v : List UInt8} : [[AV.v (.int .i64 y), .sl 1 (v.map bcl)]] = tgs [⟨y, v⟩] := rfl
theorem tgs_getD (h : i < l.length) : (tgs l).getD i [] = tagC (l.getD i tg0) := by
  simp [tgs, List.getD_eq_getElem?_getD, List.getElem?_eq_getElem h]
theorem tgs_getI (h : i < l.length) : (tgs l)[i]? = some (tagC (l.getD i tg0)) := by
  simp [tgs, List.getD_eq_getElem?_getD, List.getElem?_eq_getElem h]
theorem tagC_nbs {n : Nat} (t : Tag) : nbs n (tagC t) = True := eq_true ⟨trivial, of_eq_true (nb_byts _), trivial⟩
theorem tgs_nbss {n : Nat} (l : List Tag) : nbss n (tgs l) = True := eq_true (nbss_map (fun t => of_eq_true (tagC_nbs t)) l)
theorem tgs_amapss {f : Nat → Nat} (l : List Tag) : amapss f (tgs l) = tgs l := amapss_id (n := 0) (fun r hr => absurd hr (Nat.not_lt_zero r)) (of_eq_true (tgs_nbss l))
theorem frz_tgs {d N : Nat} {L : Heap} (l : List Tag) : ((tgs l).map fun e => e.map (frz d L N)) = tgs l := by
  simp only [tgs, List.map_map]
  refine List.map_congr_left fun x _ => ?_
  simp [tagC, byts, frz_v, frz_sl]
theorem frzT {d N r k : Nat} {hot : Bool} {L : Heap} {l : List Tag} (hr : N ≤ r) (h : L[r - N]? = some (some (.row hot 2 (tgs l)))) (hk : k = l.length) : frz (d + 1) L N (.hs r 2 0 k) = .sl 2 (tgs l) := by
  subst hk
  unfold frz
  rw [if_neg (by omega), h]
  simp only
  rw [if_pos ⟨trivial, by rw [tgs_len]; omega⟩, List.drop_zero, List.take_of_length_le (by rw [tgs_len]; omega), frz_tgs]
theorem frz_tsnoc {d N r k : Nat} {hot : Bool} {L : Heap} {y : Int} {v : List UInt8} (hr : N ≤ r) (h : L[r - N]? = some (some (.row hot 1 (v.map bcl)))) (hk : k = v.length) : ((tgs l ++ [[AV.v (.int .i64 y), AV.hs r 1 0 k]]).map fun e => e.map (frz (d + 1) L N)) = tgs (l ++ [⟨y, v⟩]) := by
  rw [List.map_append, frz_tgs, ← tgs_app]
  simp only [List.map_cons, List.map_nil, frz_v, frz_hs hr h hk]
  rfl
theorem take_tg (h : i < l.length) : l.take (i + 1) = l.take i ++ [l.getD i tg0] := take_more tg0 l i h
end
/-- Rows of bytes, as All tells them. -/
def rwb (xss : List (List UInt8)) : List (List AV) := xss.map fun l => [byts l]
section
variable {xss : List (List UInt8)} {i k : Nat}
theorem rwb_nil : rwb [] = [] := rfl
theorem rwb_len : (rwb xss).length = xss.length := by simp [rwb]
theorem rwb_take : (rwb xss).take k = rwb (xss.take k) := by simp [rwb, List.map_take]
theorem rwb_snoc {v : List UInt8} : rwb xss ++ [[.sl 1 (v.map bcl)]] = rwb (xss ++ [v]) := by simp [rwb, byts]
theorem rwb_getD (h : i < xss.length) : (rwb xss).getD i [] = [byts (xss.getD i [])] := by
  simp [rwb, List.getD_eq_getElem?_getD, List.getElem?_eq_getElem h]
theorem rwb_getI (h : i < xss.length) : (rwb xss)[i]? = some [byts (xss.getD i [])] := by
  simp [rwb, List.getD_eq_getElem?_getD, List.getElem?_eq_getElem h]
theorem rwb_nbss {n : Nat} (l : List (List UInt8)) : nbss n (rwb l) = True := nbss_rows l
theorem rwb_amapss {f : Nat → Nat} (l : List (List UInt8)) : amapss f (rwb l) = rwb l := amapss_id (n := 0) (fun r hr => absurd hr (Nat.not_lt_zero r)) (of_eq_true (rwb_nbss l))
theorem frz_rwb {d N : Nat} {L : Heap} (l : List (List UInt8)) : ((rwb l).map fun e => e.map (frz d L N)) = rwb l := by
  simp only [rwb, List.map_map]
  refine List.map_congr_left fun x _ => ?_
  simp [byts, frz_sl]
theorem frzR {d N r k : Nat} {hot : Bool} {L : Heap} {l : List (List UInt8)} (hr : N ≤ r) (h : L[r - N]? = some (some (.row hot 1 (rwb l)))) (hk : k = l.length) : frz (d + 1) L N (.hs r 1 0 k) = .sl 1 (rwb l) := by
  subst hk
  unfold frz
  rw [if_neg (by omega), h]
  simp only
  rw [if_pos ⟨trivial, by rw [rwb_len]; omega⟩, List.drop_zero, List.take_of_length_le (by rw [rwb_len]; omega), frz_rwb]
end
end Go.Proofs.Ytckppkimjiifpaa
