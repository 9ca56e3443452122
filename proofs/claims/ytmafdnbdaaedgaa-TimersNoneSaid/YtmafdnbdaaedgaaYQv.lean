/- Timers: what stands behind each call, told by a row in order. No condition. -/
import Derived.Test.YtmafdnbdaaedgaaYQu
import Derived.Test.YtmafdnbdaaedgaaYQw
import Derived.Test.YtmafdnbdaaedgaaYb1
set_option linter.unusedSectionVars false
set_option linter.unusedVariables false
set_option linter.unusedSimpArgs false
set_option linter.deprecated false
namespace Go.Proofs.Ytmafdnbdaaedgaa
open Go.RowKit Go.Cx Go.Am Go.Sort
structure Tv (H : Heap) (b c q : Nat) (p : List It) (l : List (Int × Int)) : Prop where
  tz : ∃ m Z, Tz H b c q m p Z
  pw : l.Pairwise lt2
  pm : l.Perm (kt p)
  rg : rgT l
def Sv (H : Heap) (b c q : Nat) (p : List It) (l : List (Int × Int)) (H' : Heap) : Prop := ∃ q' p', Tv H' b c q' p' l ∧ Fw H b c q p H' q' p'
theorem pw_len {l : List (Int × Int)} {p : List It} (pm : l.Perm (kt p)) : l.length = p.length := by have := pm.length_eq; unfold kt at this; rwa [List.length_map] at this
theorem wto_pw {l : List (Int × Int)} (h : l.Pairwise lt2) (key : Int) : (wtoF l key).Pairwise lt2 := h.sublist (List.filter_sublist ..)
theorem wto_rg {l : List (Int × Int)} (h : rgT l) (key : Int) : rgT (wtoF l key) := fun d hd => h d (List.mem_filter.1 hd).1
theorem set_pm (l : List (Int × Int)) (key tick : Int) (h : ¬ bdF key tick) : (setF l key tick).Perm ((key, tick) :: wtoF l key) := by
  unfold setF
  rw [if_neg h]
  have e : wtoF l key = (wtoF l key).takeWhile (ahF key tick) ++ (wtoF l key).dropWhile (ahF key tick) := (List.takeWhile_append_dropWhile ..).symm
  conv => rhs; rw [e]
  rw [List.append_assoc]
  exact List.perm_middle
theorem set_rg {l : List (Int × Int)} (h : rgT l) (key tick : Int) : rgT (setF l key tick) := by
  by_cases hb : bdF key tick
  · unfold setF
    rw [if_pos hb]
    exact h
  · intro d hd
    rcases List.mem_cons.1 ((set_pm l key tick hb).mem_iff.1 hd) with rfl | hd
    · unfold bdF at hb
      simp only
      omega
    · exact wto_rg h key d hd
theorem dw_head {α : Type} {f : α → Bool} : ∀ {l : List α} {x : α} {r : List α}, l.dropWhile f = x :: r → f x = false
  | [], _, _, h => by cases h
  | y :: l, x, r, h => by
    rw [List.dropWhile_cons] at h
    split at h
    · exact dw_head h
    · next hh =>
      cases h
      simpa using hh
theorem set_pw {l : List (Int × Int)} (h : l.Pairwise lt2) (key tick : Int) : (setF l key tick).Pairwise lt2 := by
  by_cases hb : bdF key tick
  · unfold setF
    rw [if_pos hb]
    exact h
  · unfold setF
    rw [if_neg hb]
    have hw := wto_pw h key
    have hk : ∀ d ∈ wtoF l key, d.1 ≠ key := fun d hd => of_decide_eq_true (List.mem_filter.1 hd).2
    generalize wtoF l key = r at *
    have e : r = r.takeWhile (ahF key tick) ++ r.dropWhile (ahF key tick) := (List.takeWhile_append_dropWhile ..).symm
    have hA : ∀ d ∈ r.takeWhile (ahF key tick), lt2 d (key, tick) := fun d hd => by
      have := List.all_takeWhile (p := ahF key tick) (l := r)
      rw [List.all_eq_true] at this
      have := of_decide_eq_true (this d hd)
      unfold lt2
      simp only
      omega
    have hD : ∀ d ∈ r.dropWhile (ahF key tick), lt2 (key, tick) d := fun d hd => by
      have hs := hw.sublist (List.dropWhile_sublist (ahF key tick))
      have hkd : ∀ d ∈ r.dropWhile (ahF key tick), d.1 ≠ key := fun d hd => hk d ((List.dropWhile_sublist _).subset hd)
      cases hd2 : r.dropWhile (ahF key tick) with
      | nil => rw [hd2] at hd; cases hd
      | cons x y =>
        have hx0 : ahF key tick x = false := dw_head hd2
        have hx := of_decide_eq_false hx0
        rw [hd2] at hs hd hkd
        have kx := hkd x (List.mem_cons_self ..)
        have h1 : lt2 (key, tick) x := by
          unfold lt2
          simp only
          omega
        rcases List.mem_cons.1 hd with rfl | hd
        · exact h1
        · have h2 := (List.pairwise_cons.1 hs).1 d hd
          unfold lt2 at *
          simp only at *
          omega
    rw [e] at hw
    obtain ⟨p1, p2, p3⟩ := List.pairwise_append.1 hw
    rw [List.append_assoc, List.pairwise_append]
    refine ⟨p1, ?_, fun a ha b hb => ?_⟩
    · rw [List.singleton_append, List.pairwise_cons]
      exact ⟨hD, p2⟩
    · rw [List.singleton_append] at hb
      rcases List.mem_cons.1 hb with rfl | hb
      · exact hA a ha
      · exact p3 a ha b hb
section
variable {H : Heap} {b c q : Nat} {p : List It} {l : List (Int × Int)}
theorem Tv.ks (V : Tv H b c q p l) (key : Int) : key ∈ p.map (·.2.1) ↔ key ∈ l.map (·.1) := by
  rw [← kt_keys]
  exact ((V.pm.map _).mem_iff).symm
theorem Tv.nd (V : Tv H b c q p l) : (l.map (·.1)).Nodup := by
  obtain ⟨m, Z, S⟩ := V.tz
  exact ((V.pm.map (·.1)).nodup_iff).2 (by rw [kt_keys]; exact S.ms.nd)
theorem Tv.keep {H' : Heap} (V : Tv H b c q p l) (hk : ∀ k, Ow b c q p k → H'[k]? = H[k]?) : Tv H' b c q p l := by
  obtain ⟨m, Z, S⟩ := V.tz
  exact ⟨⟨m, Z, S.keep hk⟩, V.pw, V.pm, V.rg⟩
theorem Tv.lt (V : Tv H b c q p l) {k : Nat} (hk : Ow b c q p k) : k < H.length := by
  obtain ⟨m, Z, S⟩ := V.tz
  exact S.lt hk
theorem Tv.app (V : Tv H b c q p l) (L : Heap) : Tv (H ++ L) b c q p l := V.keep fun k hk => at_app' (V.lt hk) L
theorem Tv.gr {H' : Heap} (V : Tv H b c q p l) (g : Gr H H') : Tv H' b c q p l := V.keep fun k hk => g.2 k (V.lt hk)
theorem Fw.gr {H' : Heap} (g : Gr H H') : Fw H b c q p H' q p := ⟨g.1, fun k hk _ => g.2 k hk, fun _ h _ => h⟩
theorem set_v (V : Tv H b c q p l) (key tick : Int) (hl : l.length ≤ 100000) : ACalls E0 8 [.ptr b 0, .v (.int .i64 key), .v (.int .i64 tick)] H fun r H' => r = .v (.int .i64 (errF key tick)) ∧ Sv H b c q p (setF l key tick) H' := by
  obtain ⟨m, Z, S⟩ := V.tz
  have hpl := pw_len V.pm
  by_cases hb : bdF key tick
  · unfold errF
    rw [if_pos hb]
    refine acalls_imp (set0_am S hb) ?_
    rintro r H' ⟨rfl, rfl⟩
    refine ⟨rfl, q, p, ?_, Fw.rfl'⟩
    unfold setF
    rw [if_pos hb]
    exact V
  · have hb2 := hb
    unfold bdF at hb2
    unfold errF
    rw [if_neg hb]
    refine acalls_imp (set_am S (key := key) (tick := tick) (by omega) (by omega) (by omega) (by omega) (by omega)) ?_
    rintro r H' ⟨rfl, q', m', p', Z', S', pm', fw⟩
    refine ⟨rfl, q', p', ⟨⟨m', Z', S'⟩, set_pw V.pw key tick, ?_, set_rg V.rg key tick⟩, fw⟩
    exact (set_pm l key tick hb).trans (((V.pm.filter _).cons _).trans pm'.symm)
theorem stop_v (V : Tv H b c q p l) (key : Int) (hl : l.length ≤ 100000) : ACalls E0 13 [.ptr b 0, .v (.int .i64 key)] H fun r H' => r = .v (.bool (decide ((wtoF l key).length < l.length))) ∧ Sv H b c q p (wtoF l key) H' := by
  obtain ⟨m, Z, S⟩ := V.tz
  have hpl := pw_len V.pm
  have e : decide (key ∈ p.map (·.2.1)) = decide ((wtoF l key).length < l.length) := by
    apply decide_eq_decide.2
    rw [V.ks]
    unfold wtoF
    rw [List.length_filter_lt_length_iff_exists]
    constructor
    · intro h
      obtain ⟨d, hd, rfl⟩ := List.mem_map.1 h
      exact ⟨d, hd, by simp⟩
    · rintro ⟨d, hd, e⟩
      exact List.mem_map.2 ⟨d, hd, by simpa using e⟩
  rw [← e]
  refine acalls_imp (stop2_am S key (by omega)) ?_
  rintro r H' ⟨rfl, m', p', Z', S', pm', nk, fw, _⟩
  exact ⟨rfl, q, p', ⟨⟨m', Z', S'⟩, wto_pw V.pw key, (V.pm.filter _).trans pm'.symm, wto_rg V.rg key⟩, fw⟩
theorem due_v (V : Tv H b c q p l) (tick : Int) (hl : l.length ≤ 100000) : ACalls E0 9 [.ptr b 0, .v (.int .i64 tick)] H fun r H' => r = .sl 2 (cels (dueF l tick)) ∧ Sv H b c q p (resF l tick) H' := by
  obtain ⟨m, Z, S⟩ := V.tz
  have hpl := pw_len V.pm
  refine acalls_imp (due_am S V.pw V.pm tick (by omega)) ?_
  rintro r H' ⟨rfl, m', p', Z', S', pm', fw⟩
  exact ⟨rfl, q, p', ⟨⟨m', Z', S'⟩, V.pw.sublist (List.dropWhile_sublist _), pm', fun d hd => V.rg d ((List.dropWhile_sublist _).subset hd)⟩, fw⟩
theorem next_v (V : Tv H b c q p l) : ACalls E0 17 [.ptr b 0] H fun r H' => r = .tup [.agg [.v (.int .i64 (gt l 0).1), .v (.int .i64 (gt l 0).2)], .v (.bool (decide (0 < l.length)))] ∧ H' = H := by
  obtain ⟨m, Z, S⟩ := V.tz
  have hpl := pw_len V.pm
  by_cases h0 : 0 < p.length
  · obtain ⟨r, hr⟩ := hp_head S.hp V.pw V.pm h0
    have h := next_am (S.th.tm h0) h0
    rw [decide_eq_true (by omega)]
    have e : gt l 0 = (at3 p 0).2 := by rw [hr]; rfl
    rw [e]
    exact h
  · have e0 : p = [] := List.length_eq_zero_iff.1 (by omega)
    have e1 : l = [] := List.length_eq_zero_iff.1 (by omega)
    subst e0 e1
    exact next0_am S.th
theorem len_v (V : Tv H b c q p l) : ACalls E0 10 [.ptr b 0] H fun r H' => r = .v (.int .i64 (l.length : Int)) ∧ H' = H := by
  obtain ⟨m, Z, S⟩ := V.tz
  rw [pw_len V.pm]
  exact len_am S.th
theorem new_v {H1 : Heap} (h0 : H1[H.length]? = some (some (mB pv []))) (h1 : H1[H.length + 1]? = some (some (.obj [.v (.slice none 0 0), .mp H.length]))) : Tv H1 (H.length + 1) H.length (H.length + 1) [] [] :=
  ⟨⟨[], [], new_tz h0 h1⟩, .nil, .refl _, fun d hd => by cases hd⟩
end
end Go.Proofs.Ytmafdnbdaaedgaa
