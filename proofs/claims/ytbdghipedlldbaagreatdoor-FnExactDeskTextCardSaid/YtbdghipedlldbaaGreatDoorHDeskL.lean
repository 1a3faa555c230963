/- What typed forms say: a desk's size, its copy, its equality. No condition. -/
import Derived.Test.YtbdghipedlldbaaGreatDoorDTL
namespace Go.Proofs.YtbdghipedlldbaaGreatDoor
open Go Go.RowKit
set_option linter.unusedSimpArgs false
set_option linter.unusedVariables false

theorem szDesk_is {x : Desk} {n : Int} (h0 : 0 ≤ n) (h1 : n ≤ 1048576) (w1 : x.Stars.length ≤ maxLen) (w2 : ∀ s ∈ x.Stars, s.Name.length ≤ maxLen) (w3 : x.Estimates.length ≤ maxLen) (w4 : ∀ s ∈ x.Estimates, s.Star.length ≤ maxLen ∧ s.Observer.length ≤ maxLen) (w5 : x.Log.length ≤ maxLen) :
    ∃ z, laws_szDesk x n = some z ∧ (¬ z < 0 → z ≤ n ∧ x.Stars.length ≤ 1048576 ∧ x.Estimates.length ≤ 1048576 ∧ x.Log.length ≤ 1048576) := by
  have hm : maxLen = 9223372036854775807 := by decide
  unfold laws_szDesk
  obtain ⟨a, ea, qa⟩ := szStarS_is (a := x.Stars) h0 h1 w1 w2
  simp only [ea, Option.bind_some]
  by_cases ca : a < 0
  · exact ⟨-1, by simp [ca], fun c => absurd (by decide) c⟩
  have qa := qa ca
  obtain ⟨b, eb, qb⟩ := szEstimateS_is (a := x.Estimates) (n := a) (by omega) (by omega) w3 w4
  simp only [ca, decide_false, Bool.false_eq_true, if_false, eb, Option.bind_some]
  by_cases cb : b < 0
  · exact ⟨-1, by simp [cb], fun c => absurd (by decide) c⟩
  have qb := qb cb
  have e1 : IntKind.i64.wrap (b - (x.Log.length : Int)) = b - x.Log.length := wrap_i64 (by omega) (by omega)
  simp only [cb, decide_false, Bool.false_eq_true, if_false, e1]
  by_cases cc : b - (x.Log.length : Int) < 0
  · exact ⟨-1, by simp [cc], fun c => absurd (by decide) c⟩
  exact ⟨b - x.Log.length, by simp [cc], fun _ => ⟨by omega, by omega, by omega, by omega⟩⟩

theorem toDesk_is {x : Desk} (h1 : x.Stars.length ≤ 1099511627776) (h2 : x.Estimates.length ≤ 1099511627776) : laws_toDesk x = some x := by
  unfold laws_toDesk
  rw [toStarS_is h1, toEstimateS_is h2]; rfl

theorem eqDesk_self {a : Desk} (h1 : a.Stars.length ≤ 1099511627776) (h2 : a.Estimates.length ≤ 1099511627776) : laws_eqDesk a a = some true := by
  unfold laws_eqDesk
  rw [eqStarS_is h1, eqEstimateS_is h2]
  simp

end Go.Proofs.YtbdghipedlldbaaGreatDoor
