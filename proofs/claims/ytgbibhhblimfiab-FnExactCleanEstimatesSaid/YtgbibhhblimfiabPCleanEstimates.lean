/- The plain law of CleanEstimates. No condition. -/
import Derived.Test.YtgbibhhblimfiabHClean
namespace Go.Proofs.Ytgbibhhblimfiab
open Go Go.RowKit
set_option linter.unusedSimpArgs false
set_option linter.unusedVariables false

theorem law_CleanEstimates {l : List Estimate} {f : List Fault} (w : l.length ≤ maxLen ∧ ∀ s ∈ l, R64 s.Time ∧ s.Star.length ≤ maxLen ∧ s.Observer.length ≤ maxLen ∧ R64 s.Mag ∧ True) (u : f.length ≤ maxLen ∧ ∀ x ∈ f, R64 x.Index ∧ R64 x.Kind) : laws_FnExactCleanEstimates l f = some true := by
  unfold laws_FnExactCleanEstimates
  obtain ⟨z, hz, hz2⟩ := szEstimateS_is (a := l) (n := 1048576) (by decide) (by decide) w.1 (fun s hs => ⟨(w.2 s hs).2.1, (w.2 s hs).2.2.1⟩)
  simp only [hz, Option.bind_some]
  by_cases h : z < 0
  · simp [h]
  have hz2 := hz2 h
  obtain ⟨y, hy, hy2⟩ := szFaultS_is (a := f) (n := z) (by omega) (by omega) u.1
  simp only [h, decide_false, Bool.false_eq_true, if_false, hy, Option.bind_some]
  by_cases h' : y < 0
  · simp [h']
  have hy2 := hy2 h'
  have hl : l.length ≤ 1048576 := by omega
  have hf : f.length ≤ 1048576 := by omega
  obtain ⟨r, c, hr, e1, e2⟩ := CleanEstimates_same hl hf
  have b1 : l.length ≤ 1099511627776 := by omega
  have b2 : f.length ≤ 1099511627776 := by omega
  have b3 : r.length ≤ 1099511627776 := by omega
  simp only [h', decide_false, Bool.false_eq_true, if_false, toEstimateS_is b1, toFaultS_is b2, Option.bind_some, e1, e2, eqEstimateS_is b3, eqEstimateS_is b1, eqFaultS_is b2, decide_true, Bool.not_true, beq_self_eq_true, Bool.or_self,
    markEstimateS_is b1 (show (1 : Int) ≤ 1 by decide) (by decide), markFaultS_is b2 (show (1 : Int) ≤ 1 + ((5 : Nat) : Int) * (l.length : Int) by omega) (by omega),
    markEstimateS_is b3 (show (1 : Int) ≤ 1 by decide) (by decide), heldEstimateS_is b3 (show (1 : Int) ≤ 1 by decide) (by decide)]
  have h3 : ¬ (1 + ((5 : Nat) : Int) * (l.length : Int) + ((2 : Nat) : Int) * (f.length : Int) < 0) := by omega
  have h4 : ¬ (1 + ((5 : Nat) : Int) * (r.length : Int) < 0) := by omega
  simp only [h3, h4, decide_false, Bool.or_self, Bool.false_eq_true, if_false]

end Go.Proofs.Ytgbibhhblimfiab
