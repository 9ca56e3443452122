/- The plain law of ids: what stands of an allocator at all times. No condition. -/
import Derived.Test.YtbbgaeopadnglaaDg
set_option linter.unusedSectionVars false
set_option linter.unusedVariables false
set_option linter.unusedSimpArgs false
set_option linter.deprecated false
namespace Go.Ids
open Go.Am
theorem has_iff {tk : List Bool} {lo id : Int} : has tk lo id = true ↔ id ∈ tkn lo tk tk.length := by
  simp only [has, tkn, Bool.and_eq_true, decide_eq_true_eq, List.mem_map, List.mem_filter, List.mem_range]
  constructor
  · rintro ⟨h1, h2, h3⟩
    exact ⟨(id - lo).toNat, ⟨by omega, h3⟩, by omega⟩
  · rintro ⟨j, ⟨h1, h2⟩, rfl⟩
    have e : (lo + (j : Int) - lo).toNat = j := by omega
    exact ⟨by omega, by omega, by rw [e]; exact h2⟩
theorem mem_idsL {lo x : Int} {n : Nat} : x ∈ idsL lo n ↔ ∃ k : Nat, k < n ∧ x = lo + (k : Int) := by
  simp only [idsL, List.mem_map, List.mem_range]
  constructor
  · rintro ⟨k, h, rfl⟩; exact ⟨k, h, rfl⟩
  · rintro ⟨k, h, rfl⟩; exact ⟨k, h, rfl⟩
theorem pw_map {l : List Nat} (lo : Int) (h : l.Pairwise (· < ·)) : (l.map fun j : Nat => lo + (j : Int)).Pairwise (· < ·) :=
  List.Pairwise.map _ (fun a b hab => by omega) h
theorem idsL_pw (lo : Int) (n : Nat) : (idsL lo n).Pairwise (· < ·) := pw_map lo List.pairwise_lt_range
theorem tkn_pw (lo : Int) (tk : List Bool) (n : Nat) : (tkn lo tk n).Pairwise (· < ·) := pw_map lo (List.pairwise_lt_range.sublist List.filter_sublist)
theorem pw_nodup {l : List Int} (h : l.Pairwise (· < ·)) : l.Nodup := h.imp fun h => by omega
theorem gt_set {tk : List Bool} {k j : Nat} {b : Bool} (hk : k < tk.length) : gt (tk.set k b) j = if j = k then b else gt tk j := by
  unfold gt
  rw [List.getD_eq_getElem?_getD, List.getElem?_set]
  split
  · rename_i h
    subst h
    simp [hk]
  · rename_i h
    rw [if_neg (fun e => h e.symm), List.getD_eq_getElem?_getD]
theorem mem_tkn {lo x : Int} {tk : List Bool} {n : Nat} : x ∈ tkn lo tk n ↔ ∃ j : Nat, j < n ∧ gt tk j = true ∧ x = lo + (j : Int) := by
  simp only [tkn, List.mem_map, List.mem_filter, List.mem_range]
  constructor
  · rintro ⟨j, ⟨h1, h2⟩, rfl⟩; exact ⟨j, h1, h2, rfl⟩
  · rintro ⟨j, h1, h2, rfl⟩; exact ⟨j, ⟨h1, h2⟩, rfl⟩
theorem tkn_take {lo : Int} {tk : List Bool} {k : Nat} (hk : k < tk.length) (h : gt tk k = false) : (tkn lo (tk.set k true) tk.length).Perm ((lo + (k : Int)) :: tkn lo tk tk.length) := by
  refine (List.perm_ext_iff_of_nodup (pw_nodup (tkn_pw _ _ _)) (List.nodup_cons.2 ⟨?_, pw_nodup (tkn_pw _ _ _)⟩)).2 fun x => ?_
  · rw [mem_tkn]
    rintro ⟨j, _, h2, h3⟩
    obtain rfl : k = j := by omega
    rw [h] at h2
    cases h2
  · rw [mem_tkn, List.mem_cons, mem_tkn]
    constructor
    · rintro ⟨j, h1, h2, rfl⟩
      rw [gt_set hk] at h2
      by_cases e : j = k
      · exact .inl (by rw [e])
      · rw [if_neg e] at h2
        exact .inr ⟨j, h1, h2, rfl⟩
    · rintro (rfl | ⟨j, h1, h2, rfl⟩)
      · exact ⟨k, hk, by rw [gt_set hk, if_pos rfl], rfl⟩
      · refine ⟨j, h1, ?_, rfl⟩
        rw [gt_set hk]
        split
        · rfl
        · exact h2
theorem set_self {tk : List Bool} {k : Nat} (hk : k < tk.length) {b : Bool} (h : gt tk k = b) (c : Bool) : (tk.set k c).set k b = tk := by
  rw [List.set_set]
  refine List.ext_getElem? fun j => ?_
  rw [List.getElem?_set]
  split
  · rename_i e
    subst e
    rw [gt_I hk, h]
  · rfl
theorem tkn_give {lo : Int} {tk : List Bool} {k : Nat} (hk : k < tk.length) (h : gt tk k = true) : (tkn lo tk tk.length).Perm ((lo + (k : Int)) :: tkn lo (tk.set k false) tk.length) := by
  have := tkn_take (lo := lo) (tk := tk.set k false) (k := k) (by simpa using hk) (by rw [gt_set hk, if_pos rfl])
  rwa [set_self hk h, List.length_set] at this
/-- What stands of an allocator at all times. -/
structure Al.Ok (S : Al) : Prop where
  lo : 1 ≤ S.low ∧ S.low + S.tk.length ≤ 65535
  ne : 0 < S.tk.length
  qu : 0 ≤ S.quiet ∧ S.quiet ≤ 1099511627776
  fr : 2 * S.fr ≤ S.fl.length
  all : (S.fl.drop S.fr ++ S.rs.map Prod.fst ++ tkn S.low S.tk S.tk.length).Perm (idsL S.low S.tk.length)
def Al.free (S : Al) : List Int := S.fl.drop S.fr
theorem Al.Ok.sum {S : Al} (h : S.Ok) : S.free.length + S.rs.length + (tkn S.low S.tk S.tk.length).length = S.tk.length := by
  have := h.all.length_eq
  simp only [List.length_append, List.length_map, idsL_len] at this
  exact this
theorem Al.Ok.lens {S : Al} (h : S.Ok) : S.fl.length ≤ 131070 ∧ S.rs.length ≤ 65535 ∧ S.tk.length ≤ 65535 ∧ S.fr ≤ S.fl.length := by
  have h1 := h.sum
  have h2 := h.fr
  have h3 := h.lo
  have h4 : S.free.length = S.fl.length - S.fr := List.length_drop
  omega
theorem Al.Ok.nodup {S : Al} (h : S.Ok) : (S.fl.drop S.fr ++ S.rs.map Prod.fst ++ tkn S.low S.tk S.tk.length).Nodup := (List.Perm.nodup_iff h.all).2 (pw_nodup (idsL_pw _ _))
theorem rd_perm (now : Int) (rs : List (Int × Int)) : (rdF now rs ++ (rdR now rs).map Prod.fst).Perm (rs.map Prod.fst) := by
  unfold rdF rdR
  rw [← List.map_append]
  exact (List.filter_append_perm (rd now) rs).map Prod.fst
def Al.rouse (S : Al) (now : Int) : Al := { S with fl := S.fl ++ rdF now S.rs, rs := rdR now S.rs }
theorem Al.rouse_free {S : Al} (h : S.Ok) (now : Int) : (S.rouse now).free = S.free ++ rdF now S.rs := by
  have h1 := h.fr
  have h2 : S.fr ≤ S.fl.length := by omega
  exact List.drop_append_of_le_length h2
theorem Al.Ok.rouse {S : Al} (h : S.Ok) (now : Int) : (S.rouse now).Ok := by
  refine ⟨h.lo, h.ne, h.qu, ?_, ?_⟩
  · have := h.fr
    have e : (S.rouse now).fr = S.fr := rfl
    simp only [Al.rouse, List.length_append] at e ⊢
    omega
  · have e := Al.rouse_free h now
    unfold Al.free at e
    rw [e]
    refine List.Perm.trans ?_ h.all
    refine List.Perm.append_right _ ?_
    rw [List.append_assoc]
    exact List.Perm.append_left _ (rd_perm now S.rs)
/-- The first free number is taken. -/
def Al.pop (S : Al) (k : Nat) : Al := { S with tk := S.tk.set k true, fl := if S.fl.length < 2 * (S.fr + 1) then S.fl.drop (S.fr + 1) else S.fl, fr := if S.fl.length < 2 * (S.fr + 1) then 0 else S.fr + 1 }
theorem Al.pop_free (S : Al) (k : Nat) : (S.pop k).free = S.free.drop 1 := by
  unfold Al.free Al.pop
  simp only
  split
  · rw [List.drop_zero, List.drop_drop]
  · rw [List.drop_drop]
theorem Al.Ok.head {S : Al} (h : S.Ok) {x : Int} {r : List Int} (e : S.free = x :: r) : ∃ k : Nat, k < S.tk.length ∧ x = S.low + (k : Int) ∧ gt S.tk k = false := by
  have h1 : x ∈ idsL S.low S.tk.length := h.all.subset (by
    unfold Al.free at e
    rw [e]
    simp)
  obtain ⟨k, hk, hx⟩ := mem_idsL.1 h1
  refine ⟨k, hk, hx, ?_⟩
  cases hg : gt S.tk k
  · rfl
  · have h2 : x ∈ tkn S.low S.tk S.tk.length := mem_tkn.2 ⟨k, hk, hg, hx⟩
    have h3 := h.nodup
    unfold Al.free at e
    rw [e, List.nodup_append] at h3
    exact absurd rfl (h3.2.2 x (by simp) x h2)
theorem Al.Ok.pop {S : Al} (h : S.Ok) {k : Nat} {r : List Int} (e : S.free = (S.low + (k : Int)) :: r) : (S.pop k).Ok := by
  obtain ⟨k2, hk, hx, hg⟩ := h.head e
  obtain rfl : k = k2 := by omega
  refine ⟨by simpa [Al.pop] using h.lo, by simpa [Al.pop] using h.ne, h.qu, ?_, ?_⟩
  · have := h.fr
    simp only [Al.pop]
    split <;> omega
  · have e2 := S.pop_free k
    have e3 := h.all
    unfold Al.free at e e2
    rw [e2, e]
    rw [e] at e3
    simp only [List.drop_one, List.tail_cons]
    have e4 : (S.pop k).rs = S.rs := rfl
    have e5 : (S.pop k).tk = S.tk.set k true := rfl
    have e6 : (S.pop k).low = S.low := rfl
    rw [e4, e5, e6, List.length_set]
    refine List.Perm.trans ?_ e3
    refine ((tkn_take hk hg).append_left _).trans ?_
    simp only [List.cons_append, List.append_assoc]
    refine List.Perm.trans (List.Perm.append_left _ List.perm_middle) ?_
    exact List.perm_middle
/-- A number is given back. -/
def Al.push (S : Al) (k : Nat) (now : Int) : Al := { S with tk := S.tk.set k false, rs := S.rs ++ [(S.low + (k : Int), now + S.quiet)] }
theorem Al.Ok.push {S : Al} (h : S.Ok) {k : Nat} (hk : k < S.tk.length) (hg : gt S.tk k = true) (now : Int) : (S.push k now).Ok := by
  refine ⟨by simpa [Al.push] using h.lo, by simpa [Al.push] using h.ne, h.qu, h.fr, ?_⟩
  have e5 : (S.push k now).tk = S.tk.set k false := rfl
  have e4 : (S.push k now).rs.map Prod.fst = S.rs.map Prod.fst ++ [S.low + (k : Int)] := by simp [Al.push]
  have e6 : (S.push k now).low = S.low := rfl
  have e7 : (S.push k now).fl.drop (S.push k now).fr = S.fl.drop S.fr := rfl
  rw [e4, e5, e6, e7, List.length_set]
  refine List.Perm.trans ?_ h.all
  rw [← List.append_assoc, List.append_assoc _ [_]]
  exact ((tkn_give hk hg).symm.append_left _)
/-- A fork has its free numbers in a row of its own. -/
def Al.fork (S : Al) : Al := { S with fl := S.fl.drop S.fr, fr := 0 }
theorem Al.Ok.fork {S : Al} (h : S.Ok) : S.fork.Ok := ⟨h.lo, h.ne, h.qu, by simp [Al.fork], by simpa [Al.fork] using h.all⟩
theorem Al.fork_free (S : Al) : S.fork.free = S.free := by simp [Al.fork, Al.free]
/-- A new one. -/
def Al.new (lo qu : Int) (n : Nat) : Al := ⟨lo, qu, List.replicate n false, idsL lo n, 0, []⟩
theorem gt_rep {n j : Nat} : gt (List.replicate n false) j = false := by
  unfold gt
  rw [List.getD_eq_getElem?_getD, List.getElem?_replicate]
  split <;> rfl
theorem tkn_rep (lo : Int) (n m : Nat) : tkn lo (List.replicate n false) m = [] := by
  rw [List.eq_nil_iff_forall_not_mem]
  intro x hx
  obtain ⟨j, _, h, _⟩ := mem_tkn.1 hx
  rw [gt_rep] at h
  cases h
theorem Al.new_ok {lo qu : Int} {n : Nat} (h1 : 1 ≤ lo) (h2 : 0 < n) (h3 : lo + n ≤ 65535) (h4 : 0 ≤ qu ∧ qu ≤ 1099511627776) : (Al.new lo qu n).Ok := by
  refine ⟨by simpa [Al.new] using ⟨h1, h3⟩, by simpa [Al.new] using h2, h4, by simp [Al.new], ?_⟩
  simp [Al.new, tkn_rep]
theorem eq_of_pw : ∀ {l m : List Int}, l.Pairwise (· < ·) → m.Pairwise (· < ·) → l.Perm m → l = m
  | [], m, _, _, h => (List.nil_perm.1 h).symm
  | a :: l, [], _, _, h => absurd (List.perm_nil.1 h) (by simp)
  | a :: l, b :: m, h1, h2, h => by
    rw [List.pairwise_cons] at h1 h2
    have e : a = b := by
      have ha : a ∈ b :: m := h.subset (by simp)
      have hb : b ∈ a :: l := h.symm.subset (by simp)
      rw [List.mem_cons] at ha hb
      rcases ha with ha | ha
      · exact ha
      · rcases hb with hb | hb
        · exact hb.symm
        · have := h1.1 b hb
          have := h2.1 a ha
          omega
    subst e
    rw [eq_of_pw h1.2 h2.2 ((List.perm_cons a).1 h)]
theorem insI_perm (l : List Int) (x : Int) : (insI l x).Perm (x :: l) := by
  unfold insI
  rw [List.append_assoc]
  refine List.Perm.trans (List.perm_middle) ?_
  have e : l.takeWhile (fun y => decide (y < x)) ++ ([] ++ l.dropWhile (fun y => decide (y < x))) = l := by
    rw [List.nil_append, List.takeWhile_append_dropWhile]
  exact List.Perm.of_eq (congrArg _ e)
theorem insI_pw {l : List Int} {x : Int} (h : l.Pairwise (· < ·)) (hx : x ∉ l) : (insI l x).Pairwise (· < ·) := by
  induction l with
  | nil => simp [insI]
  | cons a l ih =>
    rw [List.pairwise_cons] at h
    by_cases ha : a < x
    · have e : insI (a :: l) x = a :: insI l x := by simp [insI, ha]
      rw [e, List.pairwise_cons]
      refine ⟨fun b hb => ?_, ih h.2 (fun hm => hx (List.mem_cons_of_mem _ hm))⟩
      have := (insI_perm l x).subset hb
      rw [List.mem_cons] at this
      rcases this with rfl | hb
      · exact ha
      · exact h.1 b hb
    · have e : insI (a :: l) x = x :: a :: l := by simp [insI, ha]
      rw [e, List.pairwise_cons, List.pairwise_cons]
      have hxa : x < a := by
        have : x ≠ a := fun e => hx (e ▸ List.mem_cons_self)
        omega
      refine ⟨fun b hb => ?_, h⟩
      rw [List.mem_cons] at hb
      rcases hb with rfl | hb
      · exact hxa
      · have := h.1 b hb
        omega
theorem isortI_ok : ∀ (l : List Int), l.Nodup → (isortI l).Perm l ∧ (isortI l).Pairwise (· < ·) := by
  suffices ∀ (l m : List Int), (m ++ l).Nodup → m.Pairwise (· < ·) → (l.foldl insI m).Perm (m ++ l) ∧ (l.foldl insI m).Pairwise (· < ·) by
    intro l h
    simpa [isortI] using this l [] (by simpa using h) List.Pairwise.nil
  intro l
  induction l with
  | nil => intro m _ h; simp [h]
  | cons a l ih =>
    intro m h hp
    have hp2 : (insI m a ++ l).Perm (m ++ a :: l) := ((insI_perm m a).append_right l).trans List.perm_middle.symm
    have ha : a ∉ m := by
      intro hm
      rw [List.nodup_append] at h
      exact absurd rfl (h.2.2 a hm a (by simp))
    have := ih (insI m a) ((List.Perm.nodup_iff hp2).2 h) (insI_pw hp ha)
    exact ⟨this.1.trans hp2, this.2⟩
theorem isort_tkn {lo : Int} {tk : List Bool} {n : Nat} {used : List Int} (h : used.Perm (tkn lo tk n)) : isortI used = tkn lo tk n := by
  have hn : used.Nodup := (List.Perm.nodup_iff h).2 (pw_nodup (tkn_pw _ _ _))
  have := isortI_ok used hn
  exact eq_of_pw this.2 (tkn_pw _ _ _) (this.1.trans h)
theorem Al.Ok.givef {S : Al} (_ : S.Ok) {k : Nat} {used : List Int} (hk : k < S.tk.length) (hg : gt S.tk k = true) (hu : used.Perm (tkn S.low S.tk S.tk.length)) (now : Int) : (used.erase (S.low + (k : Int))).Perm (tkn (S.push k now).low (S.push k now).tk (S.push k now).tk.length) := by
  have e5 : (S.push k now).tk = S.tk.set k false := rfl
  have e6 : (S.push k now).low = S.low := rfl
  rw [e5, e6, List.length_set]
  refine (hu.erase _).trans ?_
  refine ((tkn_give hk hg).erase _).trans ?_
  rw [List.erase_cons_head]
theorem Al.Ok.takef {S : Al} (h : S.Ok) {k : Nat} {r used : List Int} (e : S.free = (S.low + (k : Int)) :: r) (hu : used.Perm (tkn S.low S.tk S.tk.length)) : (used ++ [S.low + (k : Int)]).Perm (tkn (S.pop k).low (S.pop k).tk (S.pop k).tk.length) := by
  obtain ⟨k2, hk, hx, hg⟩ := h.head e
  obtain rfl : k = k2 := by omega
  have e5 : (S.pop k).tk = S.tk.set k true := rfl
  have e6 : (S.pop k).low = S.low := rfl
  rw [e5, e6, List.length_set]
  refine List.Perm.trans ?_ (tkn_take hk hg).symm
  exact (List.perm_append_comm).trans (hu.cons _)
end Go.Ids
