/- A contract about worlds, told to the abstract machine. No condition. -/
import Derived.Test.YtckppkimjiifpaaAk
set_option linter.unusedSectionVars false
set_option linter.unusedVariables false
set_option linter.unusedSimpArgs false
set_option linter.deprecated false
namespace Go.Am
open Go.RowKit Go.Cx

theorem rall_bytes {G : Nat → Prop} {M : Mem} {n : Nat} {w : World} : ∀ {l : List UInt8} {us : List Value}, RAll G w us l → VRss M n w 1 (l.map bcl) us
  | [], us, h => h
  | b :: l, us, h => by
    obtain ⟨c, r, rfl, h1, h2⟩ := h
    rw [List.map_cons]
    unfold VRss
    have h1 : c = [Value.int .u8 (b.toNat : Int)] := h1
    subst h1
    exact ⟨_, r, rfl, rfl, ⟨_, [], rfl, rfl, rfl, rfl⟩, rall_bytes h2⟩
theorem bytes_rall {G : Nat → Prop} {M : Mem} {n : Nat} {w : World} : ∀ {l : List UInt8} {us : List Value}, VRss M n w 1 (l.map bcl) us → RAll G w us l
  | [], us, h => h
  | b :: l, us, h => by
    rw [List.map_cons] at h
    unfold VRss at h
    obtain ⟨c, r, rfl, h1, h2, h3⟩ := h
    unfold bcl VRs at h2
    obtain ⟨u, r2, rfl, k1, k2, k3⟩ := h2
    unfold VR at k2
    unfold VRs at k3
    subst k2 k3
    exact ⟨_, r, rfl, rfl, bytes_rall h3⟩
theorem byts_rsl {M : Mem} {n : Nat} {w : World} {l : List UInt8} {v : Value} (h : VR M n w (byts l) v) : RSl M.G w v l := by
  unfold byts VR at h
  obtain ⟨ao, cap, us, h1, h2, h3⟩ := h
  rw [List.length_map] at h1 h3
  exact ⟨ao, cap, us, h1, h3, bytes_rall h2⟩
/-- Rows of rows of bytes. -/
def rows (xss : List (List UInt8)) : AV := .sl 1 (xss.map fun l => [byts l])
theorem rows_rall {M : Mem} {n : Nat} {w : World} : ∀ {xss : List (List UInt8)} {us : List Value}, VRss M n w 1 (xss.map fun l => [byts l]) us → RAll M.G w us xss
  | [], us, h => h
  | b :: l, us, h => by
    rw [List.map_cons] at h
    unfold VRss at h
    obtain ⟨c, r, rfl, h1, h2, h3⟩ := h
    unfold VRs at h2
    obtain ⟨u, r2, rfl, k1, k2, k3⟩ := h2
    unfold VRs at k3
    subst k3
    exact ⟨_, r, rfl, ⟨_, rfl, byts_rsl k2⟩, rows_rall h3⟩
theorem rows_rsl {M : Mem} {n : Nat} {w : World} {xss : List (List UInt8)} {v : Value} (h : VR M n w (rows xss) v) : RSl M.G w v xss := by
  unfold rows VR at h
  obtain ⟨ao, cap, us, h1, h2, h3⟩ := h
  rw [List.length_map] at h1 h3
  exact ⟨ao, cap, us, h1, h3, rows_rall h2⟩

theorem own_am {E : Env} {f : FuncId} {as : List AV} {l : List UInt8} {t : TypeId} (hf : ∃ fn, E.P.funcs[f]? = some fn ∧ (fn.name == "runtime.NumGoroutine") = false ∧ fn.body.isNone = false)
    (h : ∀ (w : World) (M : Mem) (vs : List Value), (∀ b, M.G b → b < w.heap.size) → VRt M 0 w as vs → Calls E.P f vs.toArray w fun e w' => ∃ v, e = .returned v ∧ Own w' w.heap.size t v l ∧ Below w.heap.size w w') :
    ACalls E f as [] fun r H' => r = .hs 0 1 0 l.length ∧ H' = [some (.row true 1 (l.map bcl))] := by
  refine ⟨hf, fun w M vs hG hv => (h w M vs hG.inG hv).mono ?_⟩
  rintro e w' ⟨v, rfl, ⟨cells, ⟨hlen, ho⟩, ha⟩, hb⟩
  have hGs : ∀ b, M.G b → w'.heap[b]? = w.heap[b]? := fun b hb2 => hb.block b (hG.inG b hb2)
  rcases ho with ⟨rfl, h0⟩ | ⟨g, cap, cur, rfl, hg1, hg2, hg3, hg4, hg5, hg6⟩
  · obtain rfl : l = [] := List.eq_nil_of_length_eq_zero h0
    let M' : Mem := ⟨fun _ => none, fun _ => 0, M.G⟩
    refine ⟨_, _, _, M', rfl, ⟨rfl, rfl⟩, ⟨fun q => ?_, fun c hc => Nat.lt_of_lt_of_le (hG.inG c hc) hb.size, fun r B hr => ?_, fun r B b _ _ h => (by cases h), fun r r' B B' b _ _ _ _ h => (by cases h)⟩, ?_, ⟨hb.os, hb.tape, hb.output, hb.size, fun _ h => h, fun _ h => .inl h, fun b hb2 _ => hb.block b hb2, Nat.zero_le _, fun r hr => absurd hr (Nat.not_lt_zero r), fun r hr => absurd hr (Nat.not_lt_zero r), fun b hb2 => ?_⟩⟩
    · exact VR.mono (M := M) (M' := M') (n := 0) (w := w) (fun _ h => h) hGs (Nat.le_refl _) (fun r hr => absurd hr (Nat.not_lt_zero r)) (hG.glob q)
    · cases r with
      | zero =>
        simp at hr
        subst hr
        exact .inl ⟨rfl, rfl⟩
      | succ r => simp at hr
    · unfold VR
      exact ⟨by simp, none, 0, rfl, Nat.le_refl _, Nat.zero_le _, fun _ => rfl, .inr (.inl ⟨rfl, rfl⟩)⟩
    · obtain ⟨r, B, _, _, q⟩ := hb2
      cases q
  · let M' : Mem := ⟨fun _ => some g, fun _ => cap * 1, M.G⟩
    refine ⟨_, _, _, M', rfl, ⟨rfl, rfl⟩, ⟨fun q => ?_, fun c hc => Nat.lt_of_lt_of_le (hG.inG c hc) hb.size, fun r B hr => ?_, fun r B b _ _ h hG2 => ?_, fun r r' B B' b h1 h2 _ hne _ _ => ?_⟩, ?_, ⟨hb.os, hb.tape, hb.output, hb.size, fun _ h => h, fun _ h => .inl h, fun b hb2 _ => hb.block b hb2, Nat.zero_le _, fun r hr => absurd hr (Nat.not_lt_zero r), fun r hr => absurd hr (Nat.not_lt_zero r), fun b hb2 => ?_⟩⟩
    · exact VR.mono (M := M) (M' := M') (n := 0) (w := w) (fun _ h => h) hGs (Nat.le_refl _) (fun r hr => absurd hr (Nat.not_lt_zero r)) (hG.glob q)
    · cases r with
      | zero =>
        simp at hr
        subst hr
        have hz : l.length * Rep.sz UInt8 = cells.length := hlen.symm
        refine .inr ⟨g, cur, t, (0, 0), cells, rfl, hg2, .inl rfl, hg5, rall_bytes ha, ?_, fun h => by cases h⟩
        rw [← hz]
        exact hg6
      | succ r => simp at hr
    · cases h
      have := hG.inG _ hG2
      omega
    · have q1 := (List.getElem?_eq_some_iff.1 h1).1
      have q2 := (List.getElem?_eq_some_iff.1 h2).1
      simp at q1 q2
      omega
    · unfold VR
      exact ⟨by simp, some ⟨g, 0, none⟩, cap, rfl, hg3, hg4, fun h => (by cases h), .inr (.inr ⟨g, rfl, by simp, by simp [M']⟩)⟩
    · obtain ⟨r, B, _, _, q⟩ := hb2
      cases q
      exact .inr hg1
theorem vrt1 {M : Mem} {n : Nat} {w : World} {a : AV} {vs : List Value} (h : VRt M n w [a] vs) : ∃ v, vs = [v] ∧ VR M n w a v := by
  unfold VRt at h
  obtain ⟨u, r, rfl, h1, h2⟩ := h
  unfold VRt at h2
  subst h2
  exact ⟨u, rfl, h1⟩
end Go.Am
