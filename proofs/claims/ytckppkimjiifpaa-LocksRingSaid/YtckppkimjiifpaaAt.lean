/- The abstract machine: the model does what it says; operations, regions, code, functions. No condition. -/
import Derived.Test.YtckppkimjiifpaaMp
set_option linter.unusedSectionVars false
set_option linter.unusedVariables false
set_option linter.unusedSimpArgs false
set_option linter.deprecated false
namespace Go.Am
open Go.RowKit Go.Cx

section
variable {E : Env} {M : Mem} {w : World} {H : Heap}

theorem yields_wp {o : Oper} {a : Act} {m : Sem Value} {K : AV → Heap → Prop} {next : Act → World → Prop} {Q : Exit → Act → World → Prop} (he : execOp a.eval o = (do pure (Next.value (← m)))) (hy : Yields E M w H m K)
    (hn : ∀ v u w' M' H', K v H' → Gam E.gl M' w' H' → VR M' H'.length w' v u → Ext M w H M' w' H' → next (a.put o.dst u) w') : o.wp E.P a w next Q := by
  obtain ⟨u, w', v, M', H', hr, h1, h2, h3, h4⟩ := hy
  unfold Oper.wp
  rw [he, Sem.run_bind, hr]
  exact hn v u w' M' H' h1 h2 h3 h4

theorem evs_out {gl : Nat → AV} {N : Nat} {T : Nat → AV} {a : Act} (hG : Gam gl M w H) (hT : TR M H.length w N T a) : ∀ l : List Operand, VRt M H.length w (l.map (ev gl T)) (l.map a.eval)
  | [] => by simp [VRt]
  | x :: l => by
    simp only [List.map_cons]
    unfold VRt
    exact ⟨_, _, rfl, ev_out hG hT x, evs_out hG hT l⟩

theorem opt_out {gl : Nat → AV} {N : Nat} {T : Nat → AV} {a : Act} (hG : Gam gl M w H) (hT : TR M H.length w N T a) (x : Option Operand) :
    (∀ b, x.map (ev gl T) = some b → ∃ u, x.map a.eval = some u ∧ VR M H.length w b u) ∧ (x.map (ev gl T) = none → x.map a.eval = none) := by
  cases x with
  | none => exact ⟨(fun b h => by cases h), (fun _ => rfl)⟩
  | some y => exact ⟨(fun b h => by cases h; exact ⟨_, rfl, ev_out hG hT y⟩), (fun h => by cases h)⟩

theorem equal_run {P : Program} {t : TypeId} {x y : Value} {b : Bool} {w : World} (h : ∀ n, (Op.equalIn (n + 1) t x y).run P w = .ok b w) : (Op.equal t x y).run P w = .ok b w := h 9999

theorem both_run {P : Program} {t : TypeId} {x y : Value} {b : Bool} {w : World} {p q : Operand} (h : ∀ n, (Op.equalIn (n + 1) t x y).run P w = .ok b w) (hg : ∀ op, eqGuard op t p q x y = pure () ∨ op ≠ .eql ∧ op ≠ .neq) (h1 : binOp .eql t x y = (do pure (.bool (← Op.equal t x y)))) (h2 : binOp .neq t x y = (do pure (.bool (!(← Op.equal t x y))))) :
    (do eqGuard .eql t p q x y; binOp .eql t x y : Sem Value).run P w = .ok (.bool b) w ∧ (do eqGuard .neq t p q x y; binOp .neq t x y : Sem Value).run P w = .ok (.bool (!b)) w := by
  have e := equal_run h
  refine ⟨?_, ?_⟩
  · rcases hg .eql with g | g
    · rw [g, h1]; simp only [Sem.run_bind, Sem.run_pure, Result.andThen_ok, e]
    · exact absurd rfl g.1
  · rcases hg .neq with g | g
    · rw [g, h2]; simp only [Sem.run_bind, Sem.run_pure, Result.andThen_ok, e]
    · exact absurd rfl g.2

theorem aeq_sound {t : TypeId} {d : TypeDesc} {a b : AV} {u x : Value} {y z : Operand} {k : Bool → Prop} (hu : E.P.underlying t = some d) (ha : VR M H.length w a u) (hb : VR M H.length w b x) (h : aeq d a b k) :
    ∃ s, k s ∧ (do eqGuard .eql t y z u x; binOp .eql t u x : Sem Value).run E.P w = .ok (.bool s) w ∧ (do eqGuard .neq t y z u x; binOp .neq t u x : Sem Value).run E.P w = .ok (.bool (!s)) w := by
  have hS : ∀ {b : AV} {x : Value}, nilS b = true → VR M H.length w b x → ∃ n c, x = .slice none n c := by
    intro b x h1 h2
    unfold nilS at h1
    split at h1
    · unfold VR at h2; exact ⟨_, _, h2⟩
    · cases h1
  have hP : ∀ {b : AV} {x : Value}, nilP b = true → VR M H.length w b x → x = .pointer none := by
    intro b x h1 h2
    unfold nilP at h1
    split at h1
    · unfold VR at h2; exact h2
    · cases h1
  have hF : ∀ {b : AV} {x : Value}, nilF b = true → VR M H.length w b x → x = .nilFunc := by
    intro b x h1 h2
    unfold nilF at h1
    split at h1
    · unfold VR at h2; exact h2
    · cases h1
  have hQ : ∀ {b : AV} {x : Value}, surePtr b = true → VR M H.length w b x → ∃ p, x = .pointer (some p) := by
    intro b x h1 h2
    cases b with
    | ptr r off => unfold VR at h2; obtain ⟨_, c, _, rfl⟩ := h2; exact ⟨_, rfl⟩
    | rp r sz i off => unfold VR at h2; obtain ⟨_, c, _, rfl⟩ := h2; exact ⟨_, rfl⟩
    | cptr cs => unfold VR at h2; obtain ⟨b, of, us, rfl, _⟩ := h2; exact ⟨_, rfl⟩
    | _ => cases h1
  cases d with
  | slice e =>
    obtain ⟨h1, h2⟩ := h
    obtain ⟨n, c, rfl⟩ := hS h1 hb
    have key : ∃ ao m cap, u = .slice ao m cap ∧ k ao.isNone := by
      cases a with
      | sl sz es =>
        unfold VR at ha
        obtain ⟨ao, cap, us, rfl, _, h3⟩ := ha
        refine ⟨ao, _, cap, rfl, h2 _ (fun hh => ?_)⟩
        rcases h3.at_ with ⟨h4, _⟩ | ⟨b, off, rfl, _⟩
        · exact List.eq_nil_of_length_eq_zero h4
        · cases hh
      | mt =>
        unfold VR at ha
        obtain ⟨ao, rfl⟩ := ha
        exact ⟨ao, _, _, rfl, h2 _⟩
      | hs r sz off n =>
        unfold VR at ha
        obtain ⟨_, ao, cap, rfl, k1, k2, k3, _⟩ := ha
        refine ⟨ao, _, cap, rfl, h2 _ (fun hh => ?_)⟩
        cases ao with
        | none => have := k3 rfl; omega
        | some a => cases hh
      | _ => exact h2.elim
    obtain ⟨ao, m, cap, rfl, hk⟩ := key
    refine ⟨ao.isNone, hk, both_run (fun n => ?_) (fun op => .inl ?_) rfl rfl⟩
    · cases ao <;> simp [Op.equalIn, run_underlying hu]
    · cases op <;> rfl
  | pointer e =>
    obtain ⟨h1, h2⟩ := h
    rcases h1 with ⟨h1, h3⟩ | ⟨h1, h3⟩
    · obtain ⟨p, rfl⟩ := hQ h1 ha
      have := hP h3 hb
      subst this
      refine ⟨false, h2, both_run (fun n => ?_) (fun op => .inl ?_) rfl rfl⟩
      · simp [Op.equalIn, run_underlying hu]
      · cases op <;> rfl
    · obtain ⟨p, rfl⟩ := hQ h1 hb
      have := hP h3 ha
      subst this
      refine ⟨false, h2, both_run (fun n => ?_) (fun op => .inl ?_) rfl rfl⟩
      · simp [Op.equalIn, run_underlying hu]
      · cases op <;> rfl
  | func ps rs v =>
    obtain ⟨h1, h2, h3⟩ := h
    have := hF h2 hb
    subst this
    cases a with
    | fn f first caps =>
      unfold VR at ha
      obtain ⟨us, ks, rfl, _⟩ := ha
      refine ⟨false, h3, both_run (fun n => ?_) (fun op => .inl ?_) rfl rfl⟩
      · simp [Op.equalIn, run_underlying hu]
      · cases op <;> rfl
    | _ => cases h1
  | _ => exact h.elim

theorem op_sound {o : Oper} {a : Act} {T : Nat → AV} {N : Nat} {K : AV → Heap → Prop} {next : Act → World → Prop} {Q : Exit → Act → World → Prop} (hG : Gam E.gl M w H) (hT : TR M H.length w N T a) (h : aop E o.op o.type (ev E.gl T) H K)
    (hn : ∀ v u w' M' H', K v H' → Gam E.gl M' w' H' → VR M' H'.length w' v u → Ext M w H M' w' H' → next (a.put o.dst u) w') : o.wp E.P a w next Q := by
  have hev := ev_out hG hT
  cases ho : o.op with
  | move x =>
    rw [ho] at h
    unfold Oper.wp execOp
    simp only [ho]
    exact hn _ _ w M H h hG (hev x) (Ext.refl _ _ _)
  | assign x =>
    rw [ho] at h
    unfold Oper.wp execOp
    simp only [ho]
    exact hn _ _ w M H h hG (hev x) (Ext.refl _ _ _)
  | pick c x y =>
    rw [ho] at h
    have h' : (match ev E.gl T c with
      | .v (.bool t) => apick t (ev E.gl T x) (ev E.gl T y) fun v => K v H
      | _ => False) := h
    clear h
    split at h'
    case h_2 => exact h'.elim
    case h_1 t h1 =>
    obtain ⟨h2, h3⟩ := h'
    have hc := hev c
    rw [h1] at hc
    unfold VR at hc
    unfold Oper.wp execOp
    simp only [ho, hc, asBool, Sem.run_bind, Sem.run_pure, Result.andThen_ok, Oper.upon_value]
    cases t with
    | true => exact hn _ _ w M H (h2 rfl) hG (hev x) (Ext.refl _ _ _)
    | false => exact hn _ _ w M H (h3 rfl) hG (hev y) (Ext.refl _ _ _)
  | alloc t =>
    rw [ho] at h
    have h' : (match tyI E.P t with
      | some (_, _, z) => K (.ptr H.length 0) (H ++ [some (.obj z)])
      | none => False) := h
    clear h
    split at h'
    case h_2 => exact h'.elim
    case h_1 s g z h1 =>
    exact yields_wp (m := Instr.alloc t true (.tuple #[])) (by unfold execOp; simp only [ho]) (alloc_sound hG h1 h') hn
  | box t x =>
    rw [ho] at h
    have h' : (match cells1 (ev E.gl T x) with
      | some cs => K (.ptr H.length 0) (H ++ [some (.obj cs)])
      | none => False) := h
    clear h
    split at h'
    case h_2 => exact h'.elim
    case h_1 cs h1 =>
    exact yields_wp (m := Instr.box t (a.eval x)) (by unfold execOp; simp only [ho]) (box_sound hG (hev x) h1 h') hn
  | build t ps =>
    rw [ho] at h
    exact yields_wp (by unfold execOp; simp only [ho]) (build_sound hG hev h) hn
  | buildSlice t len ps =>
    rw [ho] at h
    exact yields_wp (by unfold execOp; simp only [ho]) (buildSlice_sound hG hev h) hn
  | load t x =>
    rw [ho] at h
    obtain ⟨s, g, z, h1, cs, h2, h3⟩ := h
    obtain ⟨b, of, us, h4, h5, h6⟩ := place_out hG (hev x) h2
    refine yields_wp (m := Instr.loadAt t (a.eval x)) (by unfold execOp; simp only [ho]) ?_ hn
    rw [h4]
    exact load_sound hG h1 h5 h6 h3
  | store t x y =>
    rw [ho] at h
    obtain ⟨w', M', H', h1, h2, h3, h4⟩ := store_sound hG (hev x) (hev y) h
    unfold Oper.wp execOp
    simp only [ho, Sem.run_bind, h1, Result.andThen_ok, Sem.run_pure, Oper.upon_skip]
    exact hn _ _ w' M' H' h2 h3 (by unfold VR; rfl) h4
  | nilCheck x =>
    rw [ho] at h
    obtain ⟨h1, h2⟩ := h
    have hx := hev x
    unfold Oper.wp execOp
    simp only [ho]
    generalize ev E.gl T x = v at hx h1 h2
    generalize a.eval x = u at hx
    cases v with
    | ptr r off => have hx' := hx; unfold VR at hx; obtain ⟨_, b, _, rfl⟩ := hx; exact hn _ _ w M H h2 hG hx' (Ext.refl _ _ _)
    | rp r sz i off => have hx' := hx; unfold VR at hx; obtain ⟨_, b, _, rfl⟩ := hx; exact hn _ _ w M H h2 hG hx' (Ext.refl _ _ _)
    | cptr cs => have hx' := hx; unfold VR at hx; obtain ⟨b, of, us, rfl, _⟩ := hx; exact hn _ _ w M H h2 hG hx' (Ext.refl _ _ _)
    | fn f first caps => have hx' := hx; unfold VR at hx; obtain ⟨us, ks, rfl, _⟩ := hx; exact hn _ _ w M H h2 hG hx' (Ext.refl _ _ _)
    | _ => cases h1
  | binOp op t x y yt =>
    rw [ho] at h
    have he : execOp a.eval o = (do pure (Next.value (← (do eqGuard op t x y (a.eval x) (a.eval y); binOp op t (a.eval x) (a.eval y) : Sem Value)))) := by unfold execOp; simp only [ho]
    have h0 : abin E.P op t x y (ev E.gl T x) (ev E.gl T y) (fun v => K v H) := h
    clear h
    unfold abin at h0
    have h := h0
    clear h0
    split at h
    · next u v hu hv =>
      obtain ⟨r, h1, h2⟩ := h
      refine yields_wp he ?_ hn
      rw [conc_out hu (hev x), conc_out hv (hev y)]
      exact .ret hG h1 h2
    · obtain ⟨d, hd, h⟩ := h
      split at h
      · obtain ⟨s, h1, h2, h3⟩ := aeq_sound (y := x) (z := y) hd (hev x) (hev y) h
        exact yields_wp he (.pure hG (u := .bool s) h2 (by unfold VR; rfl) h1) hn
      · obtain ⟨s, h1, h2, h3⟩ := aeq_sound (y := x) (z := y) hd (hev x) (hev y) h
        exact yields_wp he (.pure hG (u := .bool (!s)) h3 (by unfold VR; rfl) h1) hn
      · exact h.elim
  | unOp op t x =>
    rw [ho] at h
    obtain ⟨u, h1, r, h2, h3⟩ := h
    refine yields_wp (m := Op.unary op (a.eval x)) (by unfold execOp; simp only [ho]) ?_ hn
    rw [conc_out h1 (hev x)]
    exact .ret hG h2 h3
  | convert src dst x =>
    rw [ho] at h
    exact yields_wp (m := convert src dst (a.eval x)) (by unfold execOp; simp only [ho]) (conv_sound hG (hev x) h) hn
  | makeFunc f first caps =>
    rw [ho] at h
    cases f with
    | func f =>
      refine yields_wp (m := Instr.makeFunc (.func f) (first.map a.eval) (caps.map a.eval)) (by unfold execOp; simp only [ho]) ?_ hn
      refine .pure hG (u := .func (.func f) (first.map a.eval) (caps.map a.eval)) rfl ?_ h
      unfold VR
      exact ⟨first.toList.map a.eval, caps.toList.map a.eval, by congr 1 <;> (apply Array.ext'; simp), evs_out hG hT _, evs_out hG hT _⟩
    | _ => exact h.elim
  | makeSlice t l c =>
    rw [ho] at h
    exact yields_wp (m := Instr.makeSlice t (a.eval l) (a.eval c)) (by unfold execOp; simp only [ho]) (makeSlice_sound hG (hev l) (hev c) h) hn
  | slice t x lo hi mx =>
    rw [ho] at h
    exact yields_wp (m := Instr.sliceAt t (a.eval x) (lo.map a.eval) (hi.map a.eval) (mx.map a.eval)) (by unfold execOp; simp only [ho]) (slice_sound hG (hev x) (opt_out hG hT lo) (opt_out hG hT hi) (opt_out hG hT mx) h) hn
  | fieldAddr t x f =>
    rw [ho] at h
    exact yields_wp (m := Instr.fieldAt t (a.eval x) f) (by unfold execOp; simp only [ho]) (fieldAddr_sound hG (hev x) h) hn
  | field t x f =>
    rw [ho] at h
    exact yields_wp (m := Instr.field t (a.eval x) f) (by unfold execOp; simp only [ho]) (field_sound hG (hev x) h) hn
  | indexAddr t x i =>
    rw [ho] at h
    exact yields_wp (m := Instr.indexAt t (a.eval x) (a.eval i)) (by unfold execOp; simp only [ho]) (indexAddr_sound hG (hev x) (hev i) h) hn
  | index t x i =>
    rw [ho] at h
    exact yields_wp (m := Instr.index t (a.eval x) (a.eval i)) (by unfold execOp; simp only [ho]) (index_sound hG (hev x) (hev i) h) hn
  | makeMap t r =>
    rw [ho] at h
    refine yields_wp (m := Instr.makeMap t (r.map a.eval)) (by unfold execOp; simp only [ho]) (makeMap_sound hG (fun hr => ?_) h) hn
    cases r with
    | none => rfl
    | some x => cases hr
  | lookup t x k ok =>
    rw [ho] at h
    exact yields_wp (m := Instr.lookup t (a.eval x) (a.eval k) ok) (by unfold execOp; simp only [ho]) (lookup_sound hG (hev x) (hev k) h) hn
  | mapUpdate t x k y =>
    rw [ho] at h
    obtain ⟨w', M', H', h1, h2, h3, h4⟩ := mapUpdate_sound hG (hev x) (hev k) (hev y) h
    unfold Oper.wp execOp
    simp only [ho, Sem.run_bind, h1, Result.andThen_ok, Sem.run_pure, Oper.upon_skip]
    exact hn _ _ w' M' H' h2 h3 (by unfold VR; rfl) h4
  | range t x =>
    rw [ho] at h
    exact yields_wp (m := Instr.range t (a.eval x)) (by unfold execOp; simp only [ho]) (range_sound hG (hev x) h) hn
  | next x str =>
    rw [ho] at h
    exact yields_wp (m := Instr.next (a.eval x) str o.type) (by unfold execOp; simp only [ho]) (next_sound hG (hev x) h) hn
  | entry x =>
    rw [ho] at h
    exact yields_wp (m := Instr.entry (a.eval x)) (by unfold execOp; simp only [ho]) (entry_sound hG (hev x) h) hn
  | extract x i =>
    rw [ho] at h
    have h' : (match ev E.gl T x with
      | .tup vs => (match vs[i]? with
        | some a => K a H
        | none => False)
      | _ => False) := h
    clear h
    split at h'
    case h_2 => exact h'.elim
    case h_1 vs h1 =>
    split at h'
    case h_2 => exact h'.elim
    case h_1 b h2 =>
    have h3 := h'
    have hx := hev x
    rw [h1] at hx
    unfold VR at hx
    obtain ⟨us, h4, h5⟩ := hx
    obtain ⟨u, h6, h7⟩ := VRt.get h5 h2
    refine yields_wp (m := Instr.extract (a.eval x) i) (by unfold execOp; simp only [ho]) (.pure hG (u := u) ?_ h7 h3) hn
    rw [h4]
    simp [Instr.extract, h6]
  | call c =>
    rw [ho] at h
    have h0 : acall E (ev E.gl T) c o.type H K := h
    clear h
    have hargs := evs_out hG hT c.args.toList
    have hargs2 : (c.args.map a.eval) = (c.args.toList.map a.eval).toArray := by apply Array.ext'; simp
    obtain ⟨callee, args, argTypes⟩ := c
    cases callee with
    | invoke x m => exact h0.elim
    | builtin b =>
      have h1 : abuiltin E.P b argTypes.toList o.type (args.toList.map (ev E.gl T)) H K := h0
      have he : ∀ m, builtin b argTypes o.type (args.map fun | .const _ => true | _ => false) (args.toList.map a.eval).toArray = (do pure (Next.value (← m))) → execOp a.eval o = (do pure (Next.value (← m))) := by
        intro m hm
        unfold execOp
        simp only [ho, resolve]
        rw [hargs2]
        exact hm
      cases b with
      | len => exact yields_wp (he _ rfl) (lenM_sound hG hargs h1) hn
      | delete => exact yields_wp (he _ rfl) (delete_sound hG hargs h1) hn
      | append => exact yields_wp (he _ rfl) (append_sound hG hargs h1) hn
      | copy => exact yields_wp (he _ rfl) (copy_sound hG hargs h1) hn
      | cap =>
        have h2 : (match argTypes.toList, args.toList.map (ev E.gl T) with
          | [t], [.mt] => (∃ e sz, slI E.P t = some (e, sz)) ∧ K (.v (.int .i64 0)) H
          | [t], [.v (.slice none 0 0)] => (∃ e sz, slI E.P t = some (e, sz)) ∧ K (.v (.int .i64 0)) H
          | _, _ => False) := h1
        clear h1
        refine yields_wp (he _ rfl) ?_ hn
        have hat : argTypes = argTypes.toList.toArray := by simp
        split at h2
        · next t heq1 heq2 =>
          obtain ⟨⟨e, sz, hs⟩, hK⟩ := h2
          obtain ⟨hu, _⟩ := slI_out hs
          rw [heq2] at hargs
          unfold VRt at hargs
          obtain ⟨u, r, hur, k1, k2⟩ := hargs
          unfold VRt at k2
          subst k2
          unfold VR at k1
          obtain ⟨ao, rfl⟩ := k1
          rw [hat, heq1, hur]
          exact .pure hG (u := goInt 0) (by simp [Builtin.cap_, run_underlying hu]) (by unfold VR; rfl) hK
        · next t heq1 heq2 =>
          obtain ⟨⟨e, sz, hs⟩, hK⟩ := h2
          obtain ⟨hu, _⟩ := slI_out hs
          rw [heq2] at hargs
          unfold VRt at hargs
          obtain ⟨u, r, hur, k1, k2⟩ := hargs
          unfold VRt at k2
          subst k2
          unfold VR at k1
          subst k1
          rw [hat, heq1, hur]
          exact .pure hG (u := goInt 0) (by simp [Builtin.cap_, run_underlying hu]) (by unfold VR; rfl) hK
        · exact h2.elim
      | min =>
        obtain ⟨us, h2, r, h3, h4⟩ := h1
        refine yields_wp (he _ rfl) ?_ hn
        rw [concl_out h2 hargs]
        exact .ret hG h3 h4
      | max =>
        obtain ⟨us, h2, r, h3, h4⟩ := h1
        refine yields_wp (he _ rfl) ?_ hn
        rw [concl_out h2 hargs]
        exact .ret hG h3 h4
      | _ => exact h1.elim
    | value f =>
      have hf := hev f
      have h1 : (match ev E.gl T f with
        | .fn g first caps => acallF E g (first ++ args.toList.map (ev E.gl T) ++ caps) H K
        | _ => False) := h0
      clear h0
      generalize ev E.gl T f = v at hf h1
      cases v with
      | fn g first caps =>
        obtain ⟨R, ⟨⟨fn, hfn, hnm, hbd⟩, hc⟩, hK⟩ := h1
        unfold VR at hf
        obtain ⟨us, ks, hfe, h2, h3⟩ := hf
        have hall := VRt.append (VRt.append h2 hargs) h3
        have hcall := hc w M _ hG hall
        have hrun : (execOp a.eval o).run E.P w = .ok (.enter g (us ++ args.toList.map a.eval ++ ks).toArray) w := by
          unfold execOp
          simp only [ho, resolve, hfe, Deferred.ofValue, Sem.run_bind, Sem.run_pure, Result.andThen_ok, invoke, callFunc, run_program, hfn, hnm, hbd, Bool.false_eq_true, if_false]
          rw [hargs2]
          simp
        unfold Oper.wp
        rw [hrun, Oper.upon_enter]
        refine hcall.mono ?_
        rintro e w' ⟨r, H', v, M', rfl, h4, h5, h6, h7⟩
        exact hn _ _ w' M' H' (hK r H' h4) h5 h6 h7
      | _ => exact h1.elim
  | _ => rw [ho] at h; exact h.elim
end
end Go.Am
