/- The plain law of ValidDesk. No condition. -/
import Derived.Test.YtkdojfpjnnceiaaGreatDoorHStarOk
import Derived.Test.YtkdojfpjnnceiaaGreatDoorHDeskL
namespace Go.Proofs.YtkdojfpjnnceiaaGreatDoor
open Go Go.RowKit
set_option linter.unusedSimpArgs false
set_option linter.unusedVariables false

theorem law_ValidDesk {a : Desk} (w : (a.Stars.length ≤ maxLen ∧ ∀ s ∈ a.Stars, s.Name.length ≤ maxLen ∧ R64 s.Ascend ∧ R64 s.Decl ∧ R64 s.Bright ∧ R64 s.Faint) ∧ (a.Estimates.length ≤ maxLen ∧ ∀ s ∈ a.Estimates, R64 s.Time ∧ s.Star.length ≤ maxLen ∧ s.Observer.length ≤ maxLen ∧ R64 s.Mag ∧ True) ∧ a.Log.length ≤ maxLen) :
    laws_FnExactValidDesk a = some true := by
  unfold laws_FnExactValidDesk
  obtain ⟨z, hz, hz2⟩ := szDesk_is (x := a) (n := 1048576) (by decide) (by decide) w.1.1 (fun s hs => (w.1.2 s hs).1) w.2.1.1 (fun s hs => ⟨(w.2.1.2 s hs).2.1, (w.2.1.2 s hs).2.2.1⟩) w.2.2
  simp only [hz, Option.bind_some]
  by_cases h : z < 0
  · simp [h]
  have hz2 := hz2 h
  simp only [h, decide_false, Bool.false_eq_true, if_false, toDesk_is (x := a) (by omega) (by omega), Option.bind_some, spec_ValidDesk, l28Ok_is (d := a) (by omega) (by omega) (by omega), ValidDesk_is (d := a) (by omega) (by omega) (by omega), beq_self_eq_true, Bool.not_true, eqDesk_self (a := a) (by omega) (by omega)]

end Go.Proofs.YtkdojfpjnnceiaaGreatDoor
