/- The plain law of PackCurve. No condition. -/
import Derived.Test.YtndkifgpbmaicaaHCurve
namespace Go.Proofs.Ytndkifgpbmaicaa
open Go Go.RowKit
set_option linter.unusedSimpArgs false
set_option linter.unusedVariables false

theorem law_PackCurve {c : List Point} (w : c.length ≤ maxLen ∧ ∀ x ∈ c, R64 x.Time ∧ R64 x.Mag) : laws_FnExactPackCurve c = some true := by
  unfold laws_FnExactPackCurve
  obtain ⟨z, hz, hz2⟩ := szPointS_is (a := c) (n := 1048576) (by decide) (by decide) w.1
  rw [hz]
  simp only [Option.bind_some]
  by_cases h : z < 0
  · simp [h]
  · obtain ⟨h1, h2⟩ := hz2 h
    have hl : c.length ≤ 1048576 := by omega
    obtain ⟨l, k, hl5, e1, e2⟩ := PackCurve_same hl
    have hcl : c.length ≤ 1099511627776 := by omega
    have hll : l.length ≤ 1099511627776 := by omega
    simp only [h, decide_false, Bool.false_eq_true, if_false, toPointS_is hcl, Option.bind_some, e1, e2, eqByteS_is hll, decide_true, Bool.not_true, beq_self_eq_true, Bool.or_self,
      eqPointS_is hcl, markPointS_is hcl (show (1 : Int) ≤ 1 by decide) (by decide), markByteS_is hll (show (1 : Int) ≤ 1 by decide) (by decide), heldByteS_is hll (show (1 : Int) ≤ 1 by decide) (by decide)]
    have h3 : ¬ (1 + ((2 : Nat) : Int) * (c.length : Int) < 0) := by omega
    have h4 : ¬ (1 + ((1 : Nat) : Int) * (l.length : Int) < 0) := by omega
    simp only [h3, h4, decide_false, Bool.or_self, Bool.false_eq_true, if_false]

end Go.Proofs.Ytndkifgpbmaicaa
