/- The plain law of DeskText. No condition. -/
import Derived.Test.YtbdghipedlldbaaGreatDoorHStarOk
import Derived.Test.YtbdghipedlldbaaGreatDoorHDeskL
namespace Go.Proofs.YtbdghipedlldbaaGreatDoor
open Go Go.RowKit
set_option linter.unusedSimpArgs false
set_option linter.unusedVariables false

theorem DeskText_same {d : Desk} (h1 : d.Stars.length ≤ 1048576) (h2 : d.Estimates.length ≤ 1048576) (h3 : d.Log.length ≤ 1048576) : ∃ r, spec_DeskText d = some r ∧ impl_DeskText d = some r := by
  unfold spec_DeskText impl_DeskText
  rw [l28Ok_is h1 h2 h3, ValidDesk_is h1 h2 h3]
  simp only [Option.bind_some]
  cases deskB d
  · exact ⟨_, rfl, rfl⟩
  · have r1 : R64 (d.Stars.length : Int) := ⟨by omega, by omega⟩
    have r2 : R64 (d.Estimates.length : Int) := ⟨by omega, by omega⟩
    have n1 := itoa_len r1
    have n2 := itoa_len r2
    simp only [Bool.not_true, Bool.false_eq_true, if_false, spec_l28Text, impl_Desk_text, impl_count_impl_Star, impl_count_impl_Estimate, Option.bind_some, l01Dec_is r1, l01Dec_is r2, Decimal_is r1, Decimal_is r2]
    rw [catOk_of (by simp; omega), ck_true, catOk_of (by simp; omega), ck_true, catOk_of (by simp; omega), ck_true]
    exact ⟨_, rfl, rfl⟩

theorem law_DeskText {a : Desk} (w : (a.Stars.length ≤ maxLen ∧ ∀ s ∈ a.Stars, s.Name.length ≤ maxLen ∧ R64 s.Ascend ∧ R64 s.Decl ∧ R64 s.Bright ∧ R64 s.Faint) ∧ (a.Estimates.length ≤ maxLen ∧ ∀ s ∈ a.Estimates, R64 s.Time ∧ s.Star.length ≤ maxLen ∧ s.Observer.length ≤ maxLen ∧ R64 s.Mag ∧ True) ∧ a.Log.length ≤ maxLen) :
    laws_FnExactDeskText a = some true := by
  unfold laws_FnExactDeskText
  obtain ⟨z, hz, hz2⟩ := szDesk_is (x := a) (n := 1048576) (by decide) (by decide) w.1.1 (fun s hs => (w.1.2 s hs).1) w.2.1.1 (fun s hs => ⟨(w.2.1.2 s hs).2.1, (w.2.1.2 s hs).2.2.1⟩) w.2.2
  simp only [hz, Option.bind_some]
  by_cases h : z < 0
  · simp [h]
  have hz2 := hz2 h
  obtain ⟨r, e1, e2⟩ := DeskText_same (d := a) (by omega) (by omega) (by omega)
  simp only [h, decide_false, Bool.false_eq_true, if_false, toDesk_is (x := a) (by omega) (by omega), Option.bind_some, e1, e2, beq_self_eq_true, Bool.not_true, eqDesk_self (a := a) (by omega) (by omega)]

end Go.Proofs.YtbdghipedlldbaaGreatDoor
