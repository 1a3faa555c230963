/- The plain law of UnpackEstimates. No condition. -/
import Derived.Test.YtgbopjgnggdhkaaHUnpackE
namespace Go.Proofs.Ytgbopjgnggdhkaa
open Go Go.RowKit
set_option linter.unusedSimpArgs false
set_option linter.unusedVariables false

theorem law_UnpackEstimates {b : List UInt8} (w : b.length ≤ maxLen ∧ ∀ x ∈ b, True) : laws_FnExactUnpackEstimates b = some true := by
  unfold laws_FnExactUnpackEstimates
  by_cases h : 1048576 < (b.length : Int)
  · simp [h]
  · obtain ⟨l, k, hl, e1, e2⟩ := UnpackEstimates_same (b := b) (by omega)
    have hb : b.length ≤ 1099511627776 := by omega
    have hll : l.length ≤ 1099511627776 := by omega
    simp only [h, decide_false, Bool.false_eq_true, if_false, toByteS_is hb, Option.bind_some, e1, e2, eqEstimateS_is hll, eqByteS_is hb, decide_true, beq_self_eq_true, Bool.not_true, Bool.or_self,
      markByteS_is hb (show (1 : Int) ≤ 1 by decide) (by decide), markEstimateS_is hll (show (1 : Int) ≤ 1 by decide) (by decide), heldEstimateS_is hll (show (1 : Int) ≤ 1 by decide) (by decide)]
    have h3 : ¬ (1 + ((1 : Nat) : Int) * (b.length : Int) < 0) := by omega
    have h4 : ¬ (1 + ((5 : Nat) : Int) * (l.length : Int) < 0) := by omega
    simp only [h3, h4, decide_false, Bool.or_self, Bool.false_eq_true, if_false]

end Go.Proofs.Ytgbopjgnggdhkaa
