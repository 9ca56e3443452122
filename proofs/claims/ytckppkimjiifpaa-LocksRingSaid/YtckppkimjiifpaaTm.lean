/- Tags: what their bytes are; plain lemmas on lists. No condition. -/
import Derived.Test.YtckppkimjiifpaaLib
set_option linter.unusedSectionVars false
set_option linter.unusedVariables false
set_option linter.unusedSimpArgs false
set_option linter.deprecated false
namespace Go.Proofs.Ytckppkimjiifpaa
open Go.RowKit Go.Cx

structure Tag where
  typ : Int
  val : List UInt8

instance : Rep Tag where
  sz := 2
  rd G w cs t := ∃ v, cs = [.int .i64 t.typ, v] ∧ (-9223372036854775808 ≤ t.typ ∧ t.typ ≤ 9223372036854775807) ∧ RSl G w v t.val
  len := by rintro _ _ _ _ ⟨v, rfl, _⟩; rfl
  one := by
    rintro _ _ _ _ ⟨v, rfl, _, ao, cap, cells, rfl, _⟩
    simp [Value.oneCell']
  mono hG hw := by
    rintro ⟨v, rfl, h1, h⟩
    exact ⟨v, rfl, h1, h.mono hG hw⟩

/-- may a tag be? -/
def okB (t : Int) (n : Nat) : Bool := decide (1 ≤ t ∧ t ≤ 65535 ∧ n ≤ 65535)
def okTag (t : Tag) : Bool := okB t.typ t.val.length
theorem okB_le {t : Int} {n : Nat} (h : okB t n = true) : 1 ≤ t ∧ t ≤ 65535 ∧ n ≤ 65535 := by simpa [okB] using h
def encOne (t : Tag) : List UInt8 := be 2 t.typ.toNat ++ be 2 t.val.length ++ t.val
def encAll (ts : List Tag) : List UInt8 := ts.flatMap encOne
def enc (ts : List Tag) : List UInt8 × Int := if 64 < ts.length then ([], 3) else if ts.all okTag = false then ([], 50) else if 1494 < (encAll ts).length then ([], 2) else (encAll ts, 0)

theorem encOne_length (t : Tag) : (encOne t).length = 4 + t.val.length := by simp [encOne, be_length]; omega
theorem encAll_snoc (ts : List Tag) (t : Tag) : encAll (ts ++ [t]) = encAll ts ++ encOne t := by simp [encAll, List.flatMap_append]
theorem encAll_le : ∀ (ts : List Tag), ts.all okTag = true → (encAll ts).length ≤ ts.length * 65539
  | [], _ => by simp [encAll]
  | t :: ts, h => by
    simp only [List.all_cons, Bool.and_eq_true] at h
    have h1 := encAll_le ts h.2
    have h2 : t.val.length ≤ 65535 := by have := h.1; simp [okTag, okB] at this; omega
    have h3 : encAll (t :: ts) = encOne t ++ encAll ts := by simp [encAll]
    rw [h3, List.length_append, encOne_length, List.length_cons]
    omega

def typOf (b : List UInt8) : Nat := 256 * (b.getD 0 0).toNat + (b.getD 1 0).toNat
def lenOf (b : List UInt8) : Nat := 256 * (b.getD 2 0).toNat + (b.getD 3 0).toNat
/-- The tags of bytes, behind those that were read. -/
def decL : Nat → List UInt8 → List Tag → List Tag × Int
  | 0, _, _ => ([], -1)
  | f + 1, b, acc =>
    if b.length = 0 then (acc, 0)
    else if b.length < 4 then ([], 50)
    else if typOf b = 0 ∧ lenOf b = 0 then (acc, 0)
    else if typOf b = 0 ∨ b.length - 4 < lenOf b then ([], 50)
    else if acc.length = 64 then ([], 3)
    else decL f (b.drop (4 + lenOf b)) (acc ++ [⟨typOf b, (b.drop 4).take (lenOf b)⟩])
def dec (b : List UInt8) : List Tag × Int := if 1494 < b.length then ([], 2) else decL (b.length + 1) b []

theorem decL_step {f : Nat} {b : List UInt8} {acc : List Tag} {r : List Tag × Int} (h : decL f b acc = r) (hf : b.length < f) :
    ∃ f', f = f' + 1 ∧ (if b.length = 0 then (acc, 0)
    else if b.length < 4 then ([], 50)
    else if typOf b = 0 ∧ lenOf b = 0 then (acc, 0)
    else if typOf b = 0 ∨ b.length - 4 < lenOf b then ([], 50)
    else if acc.length = 64 then ([], 3)
    else decL f' (b.drop (4 + lenOf b)) (acc ++ [⟨typOf b, (b.drop 4).take (lenOf b)⟩])) = r := by
  match f, hf with
  | f' + 1, _ => exact ⟨f', rfl, h⟩

theorem getD_get (b : List UInt8) (k : Nat) (h : k < b.length) : b.getD k 0 = b[k] := by simp [List.getD, h]

def vals (ts : List Tag) (y : Int) : List (List UInt8) := (ts.filter fun t => t.typ == y).map (·.val)
def others (ts : List Tag) (y : Int) : List Tag := ts.filter fun t => !(t.typ == y)
theorem vals_snoc (ts : List Tag) (t : Tag) (y : Int) : vals (ts ++ [t]) y = vals ts y ++ (if t.typ == y then [t.val] else []) := by
  simp only [vals, List.filter_append, List.map_append, List.filter_cons, List.filter_nil]
  split <;> simp
theorem vals_le (ts : List Tag) (y : Int) : (vals ts y).length ≤ ts.length := by simp [vals]; exact List.length_filter_le _ _
theorem others_snoc (ts : List Tag) (t : Tag) (y : Int) : others (ts ++ [t]) y = others ts y ++ (if t.typ == y then [] else [t]) := by
  simp only [others, List.filter_append, List.filter_cons, List.filter_nil]
  cases t.typ == y <;> simp
theorem others_le (ts : List Tag) (y : Int) : (others ts y).length ≤ ts.length := List.length_filter_le _ _

theorem be2 (n : Nat) : be 2 n = [UInt8.ofNat (n / 256), UInt8.ofNat n] := by simp [be, List.range_succ]

theorem two (n : Nat) (h : n ≤ 65535) : 256 * (UInt8.ofNat (n / 256)).toNat + (UInt8.ofNat n).toNat = n := by simp; omega

theorem encOne_eq (t : Tag) (r : List UInt8) : encOne t ++ r = UInt8.ofNat (t.typ.toNat / 256) :: UInt8.ofNat t.typ.toNat :: UInt8.ofNat (t.val.length / 256) :: UInt8.ofNat t.val.length :: (t.val ++ r) := by
  simp [encOne, be2]

theorem typOf_enc (t : Tag) (r : List UInt8) (h : okTag t = true) : typOf (encOne t ++ r) = t.typ.toNat := by
  have h2 : 1 ≤ t.typ ∧ t.typ ≤ 65535 ∧ t.val.length ≤ 65535 := by simpa [okTag, okB] using h
  rw [encOne_eq, typOf]
  exact two _ (by omega)

theorem lenOf_enc (t : Tag) (r : List UInt8) (h : okTag t = true) : lenOf (encOne t ++ r) = t.val.length := by
  have h2 : 1 ≤ t.typ ∧ t.typ ≤ 65535 ∧ t.val.length ≤ 65535 := by simpa [okTag, okB] using h
  rw [encOne_eq, lenOf]
  exact two _ (by omega)

theorem decL_enc : ∀ (ts : List Tag) (f : Nat) (b : List UInt8) (acc : List Tag), ts.all okTag = true → acc.length + ts.length ≤ 64 → ts.length + b.length < f →
    decL f (encAll ts ++ b) acc = decL (f - ts.length) b (acc ++ ts)
  | [], f, b, acc, _, _, _ => by simp [encAll]
  | t :: ts, f, b, acc, h, hl, hf => by
    simp only [List.all_cons, Bool.and_eq_true] at h
    simp only [List.length_cons] at hl hf
    have h2 : 1 ≤ t.typ ∧ t.typ ≤ 65535 ∧ t.val.length ≤ 65535 := by simpa [okTag, okB] using h.1
    have he : encAll (t :: ts) ++ b = encOne t ++ (encAll ts ++ b) := by simp [encAll]
    have hlen : (encOne t ++ (encAll ts ++ b)).length = 4 + t.val.length + (encAll ts ++ b).length := by rw [List.length_append, encOne_length]
    match f, hf with
    | f + 1, hf =>
      rw [he, decL, typOf_enc _ _ h.1, lenOf_enc _ _ h.1, hlen]
      rw [if_neg (by omega), if_neg (by omega), if_neg (by omega), if_neg (by omega), if_neg (by omega)]
      have hd : (encOne t ++ (encAll ts ++ b)).drop (4 + t.val.length) = encAll ts ++ b := by rw [← encOne_length, List.drop_left]
      have ht : ((encOne t ++ (encAll ts ++ b)).drop 4).take t.val.length = t.val := by rw [encOne_eq]; simp
      rw [hd, ht, show ((t.typ.toNat : Nat) : Int) = t.typ from by omega]
      rw [decL_enc ts f b _ h.2 (by simp; omega) (by omega)]
      congr 1
      · simp only [List.length_cons]; omega
      · simp

theorem encAll_ge : ∀ (ts : List Tag), ts.length ≤ (encAll ts).length
  | [] => by simp
  | t :: ts => by
    have := encAll_ge ts
    have h : encAll (t :: ts) = encOne t ++ encAll ts := by simp [encAll]
    rw [h, List.length_append, encOne_length, List.length_cons]
    omega

theorem enc_ok {ts : List Tag} (h : (enc ts).2 = 0) : ts.length ≤ 64 ∧ ts.all okTag = true ∧ (encAll ts).length ≤ 1494 ∧ enc ts = (encAll ts, 0) := by
  unfold enc at h ⊢
  split at h
  · simp at h
  · split at h
    · simp at h
    · split at h
      · simp at h
      · rename_i h1 h2 h3
        rw [if_neg h1, if_neg h2, if_neg h3]
        exact ⟨by omega, by simpa using h2, by omega, rfl⟩

/-- What was encoded is decoded, with anything behind it. -/
theorem dec_enc {ts : List Tag} (h : (enc ts).2 = 0) (b : List UInt8) (hb : (encAll ts).length + b.length ≤ 1494) : ∃ f, b.length < f ∧ dec (encAll ts ++ b) = decL f b ts := by
  obtain ⟨h1, h2, h3, _⟩ := enc_ok h
  have h4 := encAll_ge ts
  refine ⟨(encAll ts ++ b).length + 1 - ts.length, by simp; omega, ?_⟩
  rw [dec, if_neg (by simp; omega), decL_enc ts _ b [] h2 (by simpa using h1) (by simp; omega)]
  simp

theorem dec_enc_nil {ts : List Tag} (h : (enc ts).2 = 0) : dec (encAll ts) = (ts, 0) := by
  have h1 := enc_ok h
  obtain ⟨f, hf, hd⟩ := dec_enc h [] (by simpa using h1.2.2.1)
  rw [List.append_nil] at hd
  rw [hd]
  match f, hf with
  | f + 1, _ => simp [decL]

theorem dec_enc_end {ts : List Tag} (h : (enc ts).2 = 0) (more : List UInt8) (hl : (encAll ts).length + (4 + more.length) ≤ 1494) : dec (encAll ts ++ ([0, 0, 0, 0] ++ more)) = (ts, 0) := by
  obtain ⟨f, hf, hd⟩ := dec_enc h ([0, 0, 0, 0] ++ more) (by simp; omega)
  rw [hd]
  match f, hf with
  | f + 1, _ =>
    rw [decL, if_neg (by simp), if_neg (by simp), if_pos]
    exact ⟨rfl, rfl⟩

/-- Decoding goes on from what was decoded. -/
theorem four {b : List UInt8} (h : ¬ b.length < 4) : ∃ x0 x1 x2 x3 r, b = x0 :: x1 :: x2 :: x3 :: r := by
  match b, h with
  | x0 :: x1 :: x2 :: x3 :: r, _ => exact ⟨_, _, _, _, _, rfl⟩
  | [], h => simp at h
  | [_], h => simp at h
  | [_, _], h => simp at h
  | [_, _, _], h => simp at h

theorem decL_acc : ∀ (f : Nat) (b : List UInt8) (acc m : List Tag), (decL f b acc) = (m, 0) → ∃ ms, m = acc ++ ms ∧ (acc.length ≤ 64 → m.length ≤ 64) ∧ ms.all okTag = true ∧ (∃ r, b = encAll ms ++ r) ∧
      ∀ acc2 : List Tag, acc2.length + ms.length ≤ 64 → decL f b acc2 = (acc2 ++ ms, 0)
  | 0, b, acc, m, h => by simp [decL] at h
  | f + 1, b, acc, m, h => by
    rw [decL] at h
    split at h
    · rename_i h0
      simp at h
      refine ⟨[], by simp [h], by rw [h]; exact id, rfl, ⟨b, by simp [encAll]⟩, fun acc2 _ => by rw [decL, if_pos h0]; simp⟩
    · rename_i h0
      split at h
      · simp at h
      · rename_i h4
        split at h
        · rename_i hz
          simp at h
          refine ⟨[], by simp [h], by rw [h]; exact id, rfl, ⟨b, by simp [encAll]⟩, fun acc2 _ => by rw [decL, if_neg h0, if_neg h4, if_pos hz]; simp⟩
        · rename_i hz
          split at h
          · simp at h
          · rename_i hb
            split at h
            · simp at h
            · rename_i h64
              obtain ⟨ms, h1, h2, h3, ⟨r, h4'⟩, h5⟩ := decL_acc f _ _ m h
              have hval : ((b.drop 4).take (lenOf b)).length = lenOf b := by simp; omega
              have hT : typOf b ≤ 65535 := by
                have a1 := (b.getD 0 0).toNat_lt
                have a2 := (b.getD 1 0).toNat_lt
                unfold typOf; omega
              have hN : lenOf b ≤ 65535 := by
                have a1 := (b.getD 2 0).toNat_lt
                have a2 := (b.getD 3 0).toNat_lt
                unfold lenOf; omega
              obtain ⟨x0, x1, x2, x3, b', rfl⟩ := four h4
              have e1 : lenOf (x0 :: x1 :: x2 :: x3 :: b') = 256 * x2.toNat + x3.toNat := rfl
              have e2 : typOf (x0 :: x1 :: x2 :: x3 :: b') = 256 * x0.toNat + x1.toNat := rfl
              rw [e1] at hval hN h1 h4' h5 hz hb
              rw [e2] at hT h1 hz hb
              have hb4 : (x0 :: x1 :: x2 :: x3 :: b') = encOne ⟨((256 * x0.toNat + x1.toNat : Nat) : Int), ((x0 :: x1 :: x2 :: x3 :: b').drop 4).take (256 * x2.toNat + x3.toNat)⟩ ++ (x0 :: x1 :: x2 :: x3 :: b').drop (4 + (256 * x2.toNat + x3.toNat)) := by
                rw [encOne_eq]
                simp only [hval, Int.toNat_natCast]
                have x0' := x0.toNat_lt
                have x1' := x1.toNat_lt
                have x2' := x2.toNat_lt
                have x3' := x3.toNat_lt
                have y0 : UInt8.ofNat ((256 * x0.toNat + x1.toNat) / 256) = x0 := by
                  rw [show (256 * x0.toNat + x1.toNat) / 256 = x0.toNat from by omega]; simp
                have y1 : UInt8.ofNat (256 * x0.toNat + x1.toNat) = x1 := by
                  apply UInt8.toNat_inj.1; simp
                have y2 : UInt8.ofNat ((256 * x2.toNat + x3.toNat) / 256) = x2 := by
                  rw [show (256 * x2.toNat + x3.toNat) / 256 = x2.toNat from by omega]; simp
                have y3 : UInt8.ofNat (256 * x2.toNat + x3.toNat) = x3 := by
                  apply UInt8.toNat_inj.1; simp
                rw [y0, y1, y2, y3, ← List.drop_drop, List.take_append_drop]
                rfl
              refine ⟨⟨((256 * x0.toNat + x1.toNat : Nat) : Int), ((x0 :: x1 :: x2 :: x3 :: b').drop 4).take (256 * x2.toNat + x3.toNat)⟩ :: ms, by rw [h1]; simp, fun hacc => h2 (by simp; omega), ?_, ⟨r, ?_⟩, fun acc2 hacc => ?_⟩
              · simp only [List.all_cons, h3, Bool.and_true]
                simp only [okTag, okB, hval]
                simp
                omega
              · rw [show ∀ t : Tag, encAll (t :: ms) = encOne t ++ encAll ms from fun t => by simp [encAll], List.append_assoc, ← h4']
                exact hb4
              · simp only [List.length_cons] at hacc
                rw [decL, if_neg h0, if_neg h4, e1, e2, if_neg hz, if_neg hb, if_neg (by omega), h5 _ (by simp; omega)]
                simp

theorem dec_ok {b : List UInt8} (h : (dec b).2 = 0) : ∃ r, b.length ≤ 1494 ∧ b = encAll (dec b).1 ++ r ∧ (dec b).1.all okTag = true ∧ (dec b).1.length ≤ 64 ∧ enc (dec b).1 = (encAll (dec b).1, 0) := by
  unfold dec at h ⊢
  split at h
  · simp at h
  · rename_i hl
    rw [if_neg hl]
    generalize hd : decL (b.length + 1) b [] = x at *
    obtain ⟨m, e⟩ := x
    simp at h
    subst h
    obtain ⟨ms, h1, h2, h3, ⟨r, h4⟩, _⟩ := decL_acc _ _ _ _ hd
    simp only [List.nil_append] at h1
    subst h1
    refine ⟨r, by omega, h4, h3, h2 (by simp), ?_⟩
    have h5 : (encAll m).length ≤ 1494 := by
      have := congrArg List.length h4
      rw [List.length_append] at this
      omega
    have h6 := h2 (by simp)
    show enc m = (encAll m, 0)
    rw [enc, if_neg (by omega), if_neg (by rw [h3]; simp), if_neg (by omega)]

theorem decL_fuel : ∀ (f g : Nat) (b : List UInt8) (acc : List Tag), b.length < f → b.length < g → decL f b acc = decL g b acc
  | f + 1, g + 1, b, acc, hf, hg => by
    rw [decL, decL]
    by_cases h0 : b.length = 0
    · rw [if_pos h0, if_pos h0]
    · rw [if_neg h0, if_neg h0, decL_fuel f g _ _ (by simp; omega) (by simp; omega)]

theorem dec_parts {ts : List Tag} {b : List UInt8} (h : (enc ts).2 = 0) (hd : (dec b).2 = 0) (hl : (encAll ts).length + b.length ≤ 1494) (hn : ts.length + (dec b).1.length ≤ 64) :
    dec (encAll ts ++ b) = (ts ++ (dec b).1, 0) := by
  obtain ⟨f, hf, he⟩ := dec_enc h b hl
  rw [he]
  have hd2 : dec b = decL (b.length + 1) b [] := by rw [dec, if_neg (by omega)]
  rw [hd2] at hd hn ⊢
  generalize hx : decL (b.length + 1) b [] = x at *
  obtain ⟨m, e⟩ := x
  simp at hd
  subst hd
  obtain ⟨ms, h1, _, _, _, h5⟩ := decL_acc _ _ _ _ hx
  simp only [List.nil_append] at h1
  subst h1
  have := h5 ts hn
  rw [← this]
  exact decL_fuel _ _ _ _ hf (by omega)
theorem decL_err : ∀ (f : Nat) (b : List UInt8) (acc : List Tag), b.length < f → (decL f b acc).2 ≠ 0 → (decL f b acc).1 = []
  | f + 1, b, acc, hf, h => by
    rw [decL] at h ⊢
    by_cases h0 : b.length = 0
    · rw [if_pos h0] at h; simp at h
    · rw [if_neg h0] at h ⊢
      by_cases h4 : b.length < 4
      · rw [if_pos h4]
      · rw [if_neg h4] at h ⊢
        by_cases hz : typOf b = 0 ∧ lenOf b = 0
        · rw [if_pos hz] at h; simp at h
        · rw [if_neg hz] at h ⊢
          by_cases hb : typOf b = 0 ∨ b.length - 4 < lenOf b
          · rw [if_pos hb]
          · rw [if_neg hb] at h ⊢
            by_cases h64 : acc.length = 64
            · rw [if_pos h64]
            · rw [if_neg h64] at h ⊢
              exact decL_err f _ _ (by simp; omega) h

theorem dec_err {b : List UInt8} (h : (dec b).2 ≠ 0) : (dec b).1 = [] := by
  unfold dec at h ⊢
  split
  · rfl
  · rename_i hl
    rw [if_neg hl] at h
    exact decL_err _ _ _ (by omega) h

theorem dec_ok_len {b : List UInt8} (h : (dec b).2 = 0) : b.length ≤ 1494 ∧ (dec b).1.length ≤ 64 := by
  obtain ⟨_, h1, _, _, h2, _⟩ := dec_ok h
  exact ⟨h1, h2⟩
end Go.Proofs.Ytckppkimjiifpaa
