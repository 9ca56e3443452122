/- The abstract machine: calls, their side conditions reckoned at once; ways that part, marked. No condition. -/
import Derived.Test.YtckppkimjiifpaaAa
set_option linter.unusedSectionVars false
set_option linter.unusedVariables false
set_option linter.unusedSimpArgs false
set_option linter.deprecated false
namespace Go.Am
open Go.RowKit Go.Cx

def sgOk (n : Nat) : List Nat → Prop
  | [] => True
  | q :: σ => (q < n ∧ q ∉ σ) ∧ sgOk n σ
theorem sgOk_out {n : Nat} : ∀ {σ : List Nat}, sgOk n σ → σ.Nodup ∧ ∀ q ∈ σ, q < n
  | [], _ => ⟨List.nodup_nil, by simp⟩
  | q :: σ, ⟨⟨h1, h2⟩, h3⟩ => by
    obtain ⟨h4, h5⟩ := sgOk_out h3
    refine ⟨List.nodup_cons.2 ⟨h2, h4⟩, fun x hx => ?_⟩
    rcases List.mem_cons.1 hx with rfl | hx
    · exact h1
    · exact h5 x hx
/-- What a call asks. -/
def cok (lend : Bool) (σ : List Nat) (H Hs : Heap) (as' as : List AV) : Prop := sgOk H.length σ ∧ okL Hs.length (sg H.length σ) H Hs σ ∧ okAs lend σ H Hs.length as' as
section
variable {E : Env} {H Hs : Heap} {g : FuncId} {as as' : List AV} {r0 : AV} {L0 : Heap} {B0 : Option Blk}
theorem zc {K : Kvh} (h : ACalls E g as Hs fun r H' => r = r0 ∧ H' = L0) (σ : List Nat) (ok : cok false σ H Hs as' as) (hk : K.k (amap (sg H.length σ) r0) (back σ H L0)) : jcall (K := K) E g as' H :=
  z_at h σ (sgOk_out ok.1).1 (sgOk_out ok.1).2 ok.2.1 (okAs_rd ok.2.2) hk
theorem zl {K : Kvh} (h : ACalls E g as Hs fun r H' => r = r0 ∧ H' = L0) (σ : List Nat) (ok : cok true σ H Hs as' as ∧ gf r0 ∧ gfH L0) (hk : K.k (amap (sg H.length σ) r0) (back σ H L0)) : jcall (K := K) E g as' H :=
  z_lend h σ (sgOk_out ok.1.1).1 (sgOk_out ok.1.1).2 ok.1.2.1 (okAs_rd ok.1.2.2) ok.2 hk
theorem jxc {K : Kv} (h : ACalls E g as Hs fun r H' => r = r0 ∧ H' = L0) (σ : List Nat) (ok : cok false σ H Hs as' as ∧ back σ H L0 = H) (hk : K.k (amap (sg H.length σ) r0)) : @jex (fun v => @jcall E g as' H ⟨fun v' H' => v' = v ∧ H' = H⟩) K :=
  jx_at h σ (sgOk_out ok.1.1).1 (sgOk_out ok.1.1).2 ok.1.2.1 (okAs_rd ok.1.2.2) ok.2 hk
theorem jxl {K : Kv} (h : ACalls E g as Hs fun r H' => r = r0 ∧ H' = L0) (σ : List Nat) (ok : (cok true σ H Hs as' as ∧ gf r0 ∧ gfH L0) ∧ back σ H L0 = H) (hk : K.k (amap (sg H.length σ) r0)) : @jex (fun v => @jcall E g as' H ⟨fun v' H' => v' = v ∧ H' = H⟩) K :=
  jx_lend h σ (sgOk_out ok.1.1.1).1 (sgOk_out ok.1.1.1).2 ok.1.1.2.1 (okAs_rd ok.1.1.2.2) ok.1.2 ok.2 hk
theorem jxgc {K : Kvg} (h : ACalls E g as [] fun r H' => r = r0 ∧ H' = [B0]) (ok : okAs false [] H 0 as' as) (hk : K.k (amap (sg H.length []) r0) (B0.map (bmap (sg H.length [])))) : @jexg (fun v B => @jcall E g as' H ⟨fun v' H' => v' = v ∧ H' = H ++ [B]⟩) K :=
  jxg_at h (okAs_rd ok) hk
theorem jxgl {K : Kvg} (h : ACalls E g as [] fun r H' => r = r0 ∧ H' = [B0]) (ok : okAs true [] H 0 as' as ∧ gf r0 ∧ gfH [B0]) (hk : K.k (amap (sg H.length []) r0) (B0.map (bmap (sg H.length [])))) : @jexg (fun v B => @jcall E g as' H ⟨fun v' H' => v' = v ∧ H' = H ++ [B]⟩) K :=
  jxg_lend h (okAs_rd ok.1) ok.2 hk
theorem jxhc {K : Kvh} (h : ACalls E g as Hs fun r H' => r = r0 ∧ H' = L0) (σ : List Nat) (ok : cok false σ H Hs as' as) (hk : K.k (amap (sg H.length σ) r0) (back σ H L0)) : @jexh (fun v H1 => @jcall E g as' H ⟨fun v' H' => v' = v ∧ H' = H1⟩) K :=
  jxh_at h σ (sgOk_out ok.1).1 (sgOk_out ok.1).2 ok.2.1 (okAs_rd ok.2.2) hk
theorem jxhl {K : Kvh} (h : ACalls E g as Hs fun r H' => r = r0 ∧ H' = L0) (σ : List Nat) (ok : cok true σ H Hs as' as ∧ gf r0 ∧ gfH L0) (hk : K.k (amap (sg H.length σ) r0) (back σ H L0)) : @jexh (fun v H1 => @jcall E g as' H ⟨fun v' H' => v' = v ∧ H' = H1⟩) K :=
  jxh_lend h σ (sgOk_out ok.1.1).1 (sgOk_out ok.1.1).2 ok.1.2.1 (okAs_rd ok.1.2.2) ok.2 hk
end
/-! ### ways that part, marked -/
structure Mk (p : Prop) : Prop where
  out : p
theorem mc_b {K : Kc} {b : Bool} (h1 : Mk (b = true) → K.x) (h2 : Mk (b = false) → K.y) : jcnd (K := K) (.v (.bool b)) := jc_b (fun h => h1 ⟨h⟩) fun h => h2 ⟨h⟩
theorem mg_st {K : Kg} {b : Bool} (h1 : Mk (b = true) → K.run) (h2 : Mk (b = false) → K.skip) : jguard (K := K) (some (some b)) true := jg_st (fun h => h1 ⟨h⟩) fun h => h2 ⟨h⟩
theorem mg_sf {K : Kg} {b : Bool} (h1 : Mk (b = false) → K.run) (h2 : Mk (b = true) → K.skip) : jguard (K := K) (some (some b)) false := jg_sf (fun h => h1 ⟨h⟩) fun h => h2 ⟨h⟩
theorem mall_s {K : Kv} {p : Bool → Prop} (h1 : Mk (p true) → K.k (.v (.bool true))) (h2 : Mk (p false) → K.k (.v (.bool false))) : jall (K := K) p := jall_s (fun h => h1 ⟨h⟩) fun h => h2 ⟨h⟩
theorem malln_s {K : Kv} {p : Bool → Prop} (h1 : Mk (p true) → K.k (.v (.bool false))) (h2 : Mk (p false) → K.k (.v (.bool true))) : jalln (K := K) p := jalln_s (fun h => h1 ⟨h⟩) fun h => h2 ⟨h⟩
theorem mpk_s {K : Kv} {b : Bool} {x y : AV} (h1 : Mk (b = true) → K.k x) (h2 : Mk (b = false) → K.k y) : jpick (K := K) b x y := jpk_s (fun h => h1 ⟨h⟩) fun h => h2 ⟨h⟩
end Go.Am
