/- conciergelaw05's law TagsParts: the walk. -/
import Derived.Test.YtminoakdilbokaaTagsL
import Derived.Test.YtminoakdilbokaaTagsMath
namespace Go.Proofs.Ytminoakdilbokaa
open Go.RowKit Go.Cx

section
variable {α : Type} [Rep α] {P : Program} {w : World}
theorem wpList_append_g {ops : Array Oper} {rest : List Oper} {o : Oper} {a : Act} {Q : Exit → Act → World → Prop} (hgd : Region.wanted o (yielded ops a.tmps) = true) {s x : Operand} {t tx e : TypeId}
    (ho : o.op = .call { callee := .builtin .append, args := #[s, x], argTypes := #[t, tx] })
    {z : Value} {bytes base lo : Nat} (ht : P.underlying t = some (.slice e)) (hi : (P.info? e).map (fun i => (i.zero, i.size, i.bytes)) = some (some z, Rep.sz α, bytes)) (hzs : z.cells.size = Rep.sz α)
    {v vx : Value} {xs ys : List α} (hs : a.eval s = v) (hx : a.eval x = vx) (hown : Own w base e v xs lo) (hsrc : Srcs P (fun b => b < w.heap.size ∧ some b ≠ v.ownBlock ∧ lo ≤ b) w tx vx ys)
    (hn : xs.length + ys.length ≤ 137438953472) (hb : bytes ≤ 1024) (hbase : base ≤ w.heap.size)
    (h : ∀ v' w', Own w' base e v' (xs ++ ys) lo → Appended w w' v v' (xs.length * Rep.sz α) → wpList P ops Q rest (a.put o.dst v') w') : wpList P ops Q (o :: rest) a w :=
  wpList_step fun K hK => by
    simp only [hgd, if_true]
    obtain ⟨v', w', hr, h2, h3⟩ := run_append (P := P) (ty := o.type) ht hi hzs hown hsrc hn hb hbase
    unfold Oper.wp execOp
    simp only [ho, resolve, invoke, builtin, Sem.run_bind, Sem.run_pure, Result.andThen_ok, List.map_toArray, List.map_cons, List.map_nil, hs, hx, hr]
    exact hK _ _ (h v' w' h2 h3)
end

set_option maxRecDepth 1000000 in
set_option maxHeartbeats 1600000 in
theorem parts_walk (v x : Value) (ts : List Tag) (l : List UInt8) (w : World) (h : RSl (fun b => b < w.heap.size) w v ts) (hx : RSl (fun b => b < w.heap.size) w x l) :
    Calls Try.prog 7 #[v, x] w fun e w' => e = .returned (.bool true) ∧ Below w.heap.size w w' := by
  go_enter Try.func7, Try.ntmps7
  go_wp2_with fail
  refine (few_any v ts w h).mono ?_
  rintro e w1 ⟨v1, rfl, hv1, b1⟩
  go_wp2_with fail
  refine (cut_any x l w1 (hx.now b1)).mono ?_
  rintro e w1' ⟨x1, rfl, hx1, rfl⟩
  generalize few ts = fs at *
  generalize l.take 1600 = bs at *
  go_wp2_with fail
  refine (encode_any v1 fs w1 hv1).mono ?_
  rintro e w2 ⟨v2, rfl, hv2, hb2⟩
  have b2 : Below w.heap.size w w2 := b1.trans (hb2.mono b1.size)
  have hx2 := hx1.now hb2
  have hv1a := hv1.now hb2
  go_wp2_with fail
  refine (decode_any x1 bs w2 hx2).mono ?_
  rintro e w3 ⟨v3, rfl, hv3, hb3⟩
  have b3 : Below w.heap.size w w3 := b2.trans (hb3.mono b2.size)
  have hv2b := hv2.rsl.now hb3
  have hx3 := hx2.now hb3
  have hv1b := hv1a.now hb3
  have hv3b := hv3.old
  obtain ⟨a1, c1, k1, rfl, hr1, ha1⟩ := hv1b
  obtain ⟨a2, c2, rfl, hr2⟩ := hv2b.bytes
  obtain ⟨a3, c3, k3, rfl, hr3, ha3⟩ := hv3b
  obtain ⟨xa, xc, rfl, hrx⟩ := hx3.bytes
  clear h hx hv1 hv1a hx1 hx2 hx3 hv2 hv2b hv3 hb2 hb3
  have bad : ∀ W, Below w.heap.size w W → Calls Try.prog 12 #[] W fun e w' => e = .returned (.bool true) ∧ Below w.heap.size w w' :=
    fun W hW => (awake_any W).mono fun e w' ⟨h1, h2⟩ => ⟨h1, hW.trans (h2.mono hW.size)⟩
  have Bad := Lib.hid bad
  clear bad
  obtain ⟨nx, hnx⟩ : ∃ nx, nx = (enc fs).1.length := ⟨_, rfl⟩
  obtain ⟨nm, hnm⟩ : ∃ nm, nm = (dec bs).1.length := ⟨_, rfl⟩
  obtain ⟨nb, hnb⟩ : ∃ nb, nb = bs.length := ⟨_, rfl⟩
  obtain ⟨nf, hnf⟩ : ∃ nf, nf = fs.length := ⟨_, rfl⟩
  rw [← hnx] at hr2 ⊢
  rw [← hnm] at hr3 ⊢
  rw [← hnb] at hrx ⊢
  rw [← hnf] at hr1 ⊢
  have hmx := hr2.max
  have hmm := hr3.max
  have hmb := hrx.max
  have hmf := hr1.max
  have hcx := hr2.cle
  have hcm := hr3.cle
  have hcb := hrx.cle
  have hcf := hr1.cle
  unfold maxLen at hmx hmm hmb hmf
  have sx : (nx : Int) + (nb : Int) ≤ 9223372036854775807 ∨ True := .inr trivial
  clear sx
  have Hnx := Lib.hid hnx
  have Hnm := Lib.hid hnm
  have Hnb := Lib.hid hnb
  have Hnf := Lib.hid hnf
  by_cases hE : (enc fs).2 = 0
  · have hE1 : ((enc fs).2 != 0) = false := by simp [hE]
    have HE := Lib.hid hE
    have hxl : nx ≤ 1494 := by rw [hnx, (enc_ok hE).2.2.2]; exact (enc_ok hE).2.2.1
    by_cases hF : (dec bs).2 = 0
    · have hF1 : ((dec bs).2 != 0) = false := by simp [hF]
      have HF := Lib.hid hF
      obtain ⟨hbl, hml⟩ := dec_ok_len hF
      rw [← hnb] at hbl
      rw [← hnm] at hml
      have hfl := (enc_ok hE).1
      rw [← hnf] at hfl
      clear hE hF hnx hnm hnb hnf
      by_cases hL : (1494 : Int) < (nx : Int) + (nb : Int)
      · generalize (enc fs).2 = ee at *
        generalize (dec bs).2 = fe at *
        go_wp2_with (go_at_call 12; refine (Bad.out _ b3).mono ?_; rintro e w4 ⟨rfl, b4⟩)
        go_ret
        exact ⟨rfl, b4⟩
      · by_cases hN : (64 : Int) < (nf : Int) + (nm : Int)
        · generalize (enc fs).2 = ee at *
          generalize (dec bs).2 = fe at *
          go_wp2_with (go_at_call 12; refine (Bad.out _ b3).mono ?_; rintro e w4 ⟨rfl, b4⟩)
          go_ret
          exact ⟨rfl, b4⟩
        · have hd := dec_parts HE.out HF.out (by have h1 := Hnx.out; rw [(enc_ok HE.out).2.2.2] at h1; simp only at h1; have h2 := Hnb.out; omega) (by have := Hnf.out; have := Hnm.out; omega)
          have hex : (enc fs).1 = encAll fs := by rw [(enc_ok HE.out).2.2.2]
          have Hd := Lib.hid hd
          have Hex := Lib.hid hex
          have h1495 : ¬ (1494 : Int) < ((nx : Int) + (nb : Int)) := hL
          clear hd hex hmx hmm hmb hmf
          generalize (enc fs).1 = ex at *
          have hsx := RowAt.mono (G' := fun _ => True) (w' := w3.alloc (.cells #[] 5)) (fun _ _ => trivial) (fun k hk => heap_alloc_old w3 _ hk) hr2
          go_wp2_with (at_builtin; refine wpList_append (α := UInt8) (base := w3.heap.size) (lo := 0) (xs := []) (ys := ex) rfl rfl Try.underlying24 Try.infoU8 rfl rfl rfl (Own.empty (heap_at_new rfl) (Nat.le_refl _)) (hsx.srcsB Try.underlying24 Hnx.out) (by have := Hnx.out; simp; omega) (by decide) (by simp) ?go)
          intro v4 w4 hown4 hap4
          have hb4 : Below w3.heap.size w3 w4 := ((Below.refl _ _).alloc (Nat.le_refl _) _).grown hap4.by_ (by simp) (by simp [Value.ownBlock])
          have hsb := RowAt.mono (G' := fun _ => True) (w' := w4) (fun _ _ => trivial) (fun k hk => hb4.block k hk) hrx
          go_wp2_with (at_builtin; refine wpList_append (α := UInt8) (base := w3.heap.size) (ys := bs) rfl rfl Try.underlying24 Try.infoU8 rfl rfl rfl hown4 (hsb.srcsB Try.underlying24 Hnb.out) (by have := Hnx.out; have := Hnb.out; simp; omega) (by decide) hb4.size ?go2)
          intro v5 w5 hown5 hap5
          have hb5 : Below w3.heap.size w3 w5 := hb4.grown hap5.by_ hb4.size (fun j hj => (hown4.lt j hj).1)
          clear hown4 hap4 hap5 hsx hsb hb4
          go_wp2_with fail
          refine (decode_any _ _ _ hown5.rsl).mono ?_
          rintro e w6 ⟨v6, rfl, hv6, hb6⟩
          rw [Hex.out, Hd.out] at hv6 ⊢
          simp only at hv6 ⊢
          have b6' : Below w3.heap.size w3 w6 := hb5.trans (hb6.mono hb5.size)
          have hx2b : Below w3.heap.size w3 (w6.alloc (.cells #[] 34)) := b6'.alloc b6'.size _
          have r1 : RSl (fun b => b < w3.heap.size) (w6.alloc (.cells #[] 34)) (.slice a1 nf c1) fs := by
            rw [Hnf.out] at hr1 ⊢
            exact RSl.mono (G := fun b => b < w3.heap.size) (w := w3) (fun _ h => h) (fun k hk => hx2b.block k hk) ⟨_, _, _, rfl, hr1, ha1⟩
          have r3 : RSl (fun b => b < w3.heap.size) w3 (.slice a3 nm c3) (dec bs).1 := by
            rw [Hnm.out] at hr3 ⊢
            exact ⟨_, _, _, rfl, hr3, ha3⟩
          have hv6' := hv6.old
          clear hv6 hb6 hown5 hb5
          have hfl2 : fs.length ≤ 64 := by have := Hnf.out; omega
          have hml2 : (dec bs).1.length ≤ 64 := by have := Hnm.out; omega
          have hgk : ∀ k, k < w3.heap.size → k < (w6.alloc (.cells #[] 34)).heap.size ∧ some k ≠ (Value.slice (some ⟨w6.heap.size, 0, none⟩) 0 0).ownBlock ∧ 0 ≤ k := by
            intro k hk
            have := b6'.size
            refine ⟨by simp; omega, fun he => ?_, Nat.zero_le _⟩
            simp [Value.ownBlock] at he
            omega
          go_wp2_with (at_builtin; go_loud (refine wpList_append_g (α := Tag) (base := w6.heap.size) (lo := 0) (xs := []) (ys := fs) (by first | rfl | (trace_state; simp [Region.wanted, yielded])) rfl Try.underlying22 Try.infoTag rfl rfl rfl (Own.empty (heap_at_new rfl) (Nat.le_refl _)) ((r1.mono (fun k hk => hgk k hk) (fun _ _ => rfl)).srcs Try.underlying22) (by simp; omega) (by decide) (by simp) ?go3))
          intro v7 w7 hown7 hap7
          have hb7 : Below w6.heap.size w6 w7 := ((Below.refl _ _).alloc (Nat.le_refl _) _).grown hap7.by_ (by simp) (by simp [Value.ownBlock])
          have hb37 : Below w3.heap.size w3 w7 := b6'.trans (hb7.mono b6'.size)
          have r3b : RSl (fun b => b < w7.heap.size ∧ some b ≠ v7.ownBlock ∧ 0 ≤ b) w7 (.slice a3 nm c3) (dec bs).1 := by
            refine r3.mono (fun k hk => ?_) (fun k hk => hb37.block k hk)
            have h := hown7.avoid hb7.size k (Nat.lt_of_lt_of_le hk b6'.size)
            exact ⟨h.1, h.2, Nat.zero_le _⟩
          go_wp2_with (at_builtin; go_loud (refine wpList_append_g (α := Tag) (base := w6.heap.size) (ys := (dec bs).1) (by first | rfl | (trace_state; simp [Region.wanted, yielded])) rfl Try.underlying22 Try.infoTag rfl rfl rfl hown7 (r3b.srcs Try.underlying22) (by first | omega | (simp only [List.nil_append]; omega) | (simp; omega)) (by decide) hb7.size ?go4))
          intro v8 w8 hown8 hap8
          have hb8 : Below w6.heap.size w6 w8 := hb7.grown hap8.by_ hb7.size (fun j hj => (hown7.lt j hj).1)
          have b8 : Below w.heap.size w w8 := b3.trans ((b6'.trans (hb8.mono b6'.size)).mono b3.size)
          clear hown7 hap7 hap8 hb7 hb37
          have q1 := hv6'.now hb8
          have q2 := hown8.rsl
          go_wp2_with fail
          refine (same_yes _ _ _ w8 (q1.mono (fun _ _ => trivial) (fun _ _ => rfl)) (q2.mono (fun _ _ => trivial) (fun _ _ => rfl))).mono ?_
          rintro e w9 ⟨rfl, hb9⟩
          have b9 : Below w.heap.size w w9 := b8.trans (hb9.mono b8.size)
          go_wp2_with (go_at_call 12; refine (Bad.out _ b9).mono ?_; rintro e w10 ⟨rfl, b10⟩)
          go_ret
          exact ⟨rfl, b10⟩
    · have hF1 : ((dec bs).2 != 0) = true := by simp [hF]
      clear hE hF hnx hnm hnb hnf
      generalize (enc fs).2 = ee at *
      generalize (dec bs).2 = fe at *
      go_wp2_with (go_at_call 12; refine (Bad.out _ b3).mono ?_; rintro e w4 ⟨rfl, b4⟩)
      go_ret
      exact ⟨rfl, b4⟩
  · have hE1 : ((enc fs).2 != 0) = true := by simp [hE]
    clear hE hnx hnm hnb hnf
    generalize (enc fs).2 = ee at *
    generalize (dec bs).2 = fe at *
    go_wp2_with (go_at_call 12; refine (Bad.out _ b3).mono ?_; rintro e w4 ⟨rfl, b4⟩)
    go_ret
    exact ⟨rfl, b4⟩
end Go.Proofs.Ytminoakdilbokaa
