/- The laws of conciergelaw04 for whatever arguments. No condition. -/
import Derived.Test.YtbiohfcmjiadeaaEz
import Derived.Test.YtbiohfcmjiadeaaEzy
import Derived.Test.YtbiohfcmjiadeaaEn
import Derived.Test.YtbiohfcmjiadeaaEr
import Derived.Test.YtbiohfcmjiadeaaEro
import Derived.Test.YtbiohfcmjiadeaaEto
set_option linter.unusedSectionVars false
set_option linter.unusedVariables false
set_option linter.unusedSimpArgs false
set_option linter.deprecated false
namespace Go.Proofs.Ytbiohfcmjiadeaa
open Go.RowKit Go.Cx Go.Am
theorem back_am (e : Eth) (b : List UInt8) : ACalls E0 5 [.agg (ethL e), byts b] [] fun r _ => r = .v (.bool true) := by
  by_cases hc : chk e.typ (e.pay.take 1600).length = 0
  · obtain ⟨n, hn⟩ : ∃ n : Nat, e.typ = n := Int.eq_ofNat_of_zero_le (by unfold chk at hc; split at hc; cases hc; omega)
    have hl : (e.pay.take 1600).length ≤ 1600 := by simp; omega
    unfold ethL
    rw [hn] at hc ⊢
    exact back_yes _ _ _ _ _ _ _ _ _ _ _ _ n e.pay (e.pay.take 1600) b (cut_am e.pay) hl hc
  · exact back_no _ _ _ _ _ _ _ _ _ _ _ _ e.typ e.pay (e.pay.take 1600) b (cut_am e.pay) hc
theorem own_am (e : Eth) (x : UInt8) : ACalls E0 8 [.agg (ethL e), .v (.int .u8 (x.toNat : Int))] [] fun r _ => r = .v (.bool true) := by
  by_cases hc : chk e.typ (e.pay.take 1600).length = 0
  · obtain ⟨n, hn⟩ : ∃ n : Nat, e.typ = n := Int.eq_ofNat_of_zero_le (by unfold chk at hc; split at hc; cases hc; omega)
    unfold ethL
    rw [hn] at hc ⊢
    exact own_yes _ _ _ _ _ _ _ _ _ _ _ _ x n e.pay hc
  · exact own_no _ _ _ _ _ _ _ _ _ _ _ _ x e.typ e.pay (e.pay.take 1600) (cut_am e.pay) hc
theorem u8_of {n : Nat} (h : n ≤ 255) : ∃ x : UInt8, n = x.toNat := ⟨UInt8.ofNat n, by simp; omega⟩
end Go.Proofs.Ytbiohfcmjiadeaa
