/- The plain law of PackEstimates. No condition. -/
import Derived.Test.YtgbopjgnggdhkaaHPack
namespace Go.Proofs.Ytgbopjgnggdhkaa
open Go Go.RowKit
set_option linter.unusedSimpArgs false
set_option linter.unusedVariables false

theorem PackEstimates_same {l : List Estimate} (hl : l.length ≤ 1048576) : ∃ p k, p.length ≤ 30000 ∧ spec_PackEstimates l = some (p, k) ∧ impl_PackEstimates l = some (p, k) := by
  unfold spec_PackEstimates
  rw [l06Ok_is (by omega)]
  have h := Pack_is hl
  simp only [Option.bind_some]
  cases hg : (goodE l && decide (l.length ≤ 100))
  · rw [hg] at h
    exact ⟨[], 1, by simp, rfl, h⟩
  · rw [hg, if_pos rfl] at h
    obtain ⟨p, h1, h2, h3⟩ := h
    exact ⟨p, 0, h1, by simp [h2], h3⟩

theorem law_PackEstimates {l : List Estimate} (w : l.length ≤ maxLen ∧ ∀ s ∈ l, R64 s.Time ∧ s.Star.length ≤ maxLen ∧ s.Observer.length ≤ maxLen ∧ R64 s.Mag ∧ True) : laws_FnExactPackEstimates l = some true := by
  unfold laws_FnExactPackEstimates
  obtain ⟨z, hz, hz2⟩ := szEstimateS_is (a := l) (n := 1048576) (by decide) (by decide) w.1 (fun s hs => ⟨(w.2 s hs).2.1, (w.2 s hs).2.2.1⟩)
  simp only [hz, Option.bind_some]
  by_cases h : z < 0
  · simp [h]
  have hz2 := hz2 h
  have hl : l.length ≤ 1048576 := by omega
  obtain ⟨p, k, hp, e1, e2⟩ := PackEstimates_same hl
  have b1 : l.length ≤ 1099511627776 := by omega
  have b3 : p.length ≤ 1099511627776 := by omega
  simp only [h, decide_false, Bool.false_eq_true, if_false, toEstimateS_is b1, Option.bind_some, e1, e2, eqByteS_is b3, eqEstimateS_is b1, decide_true, Bool.not_true, beq_self_eq_true, Bool.or_self,
    markEstimateS_is b1 (show (1 : Int) ≤ 1 by decide) (by decide), markByteS_is b3 (show (1 : Int) ≤ 1 by decide) (by decide), heldByteS_is b3 (show (1 : Int) ≤ 1 by decide) (by decide)]
  have h3 : ¬ (1 + ((5 : Nat) : Int) * (l.length : Int) < 0) := by omega
  have h4 : ¬ (1 + ((1 : Nat) : Int) * (p.length : Int) < 0) := by omega
  simp only [h3, h4, decide_false, Bool.or_self, Bool.false_eq_true, if_false]

end Go.Proofs.Ytgbopjgnggdhkaa
