/- The plain law of StampOf. No condition. -/
import Derived.Test.YtgbibhhblimfiaaDoorHStamp
namespace Go.Proofs.YtgbibhhblimfiaaDoor
open Go Go.RowKit
set_option linter.unusedSimpArgs false
set_option linter.unusedVariables false

theorem StampOf_same (n : Int) (e : Entry) : ∃ r c, spec_StampOf n e = some (r, c) ∧ impl_StampOf n e = some (r, c) := by
  unfold spec_StampOf impl_StampOf
  rw [l27Ok_is, ValidEntry_is]
  simp only [Option.bind_some]
  cases h : oneN e
  · exact ⟨0, 1, rfl, rfl⟩
  · rw [spec_l00In_is, impl_in_is]
    simp only [Option.bind_some, Bool.not_true, Bool.false_eq_true, if_false]
    cases h2 : (decide (0 ≤ n) && decide (n ≤ 65520))
    · exact ⟨0, 2, rfl, rfl⟩
    · simp only [Bool.and_eq_true, decide_eq_true_eq] at h2
      obtain ⟨s, e1, e2, _⟩ := stamp_is h h2.1 h2.2
      simp only [Bool.not_true, Bool.false_eq_true, if_false, l27Words_is h, Option.bind_some, e1, e2]
      exact ⟨s, 0, rfl, rfl⟩

theorem law_StampOf {n : Int} {e : Entry} (wn : R64 n) (w : R64 e.Day ∧ e.What.length ≤ maxLen ∧ R64 e.Value) : laws_FnExactStampOf n e = some true := by
  unfold laws_FnExactStampOf
  obtain ⟨z, hz, _⟩ := szEntry_is (x := e) (n := 1048576) (by decide) (by decide) w.2.1
  obtain ⟨r, c, e1, e2⟩ := StampOf_same n e
  simp only [hz, Option.bind_some, toEntry_is, e1, e2, beq_self_eq_true, Bool.not_true, Bool.or_self, Bool.false_eq_true, if_false, ite_self]

end Go.Proofs.YtgbibhhblimfiaaDoor
