/- The plain law of SameDesk. No condition. -/
import Derived.Test.YtndkifgpbmaicaaR4L
namespace Go.Proofs.Ytndkifgpbmaicaa
open Go Go.RowKit
set_option linter.unusedSimpArgs false
set_option linter.unusedVariables false

theorem impl_SameStars_is' {a b : List Star} (h : a.length ≤ 1099511627776) : impl_SameStars a b = some (decide (a = b)) := by
  unfold impl_SameStars; rw [slices_Equal_impl_Star_impl_Star_is h]; rfl
theorem impl_SameEstimates_is' {a b : List Estimate} (h : a.length ≤ 1099511627776) : impl_SameEstimates a b = some (decide (a = b)) := by
  unfold impl_SameEstimates; rw [slices_Equal_impl_Estimate_impl_Estimate_is h]; rfl

theorem szDesk_is {x : Desk} {n : Int} (h0 : 0 ≤ n) (h1 : n ≤ 1048576) (w1 : x.Stars.length ≤ maxLen) (w2 : ∀ s ∈ x.Stars, s.Name.length ≤ maxLen) (w3 : x.Estimates.length ≤ maxLen) (w4 : ∀ s ∈ x.Estimates, s.Star.length ≤ maxLen ∧ s.Observer.length ≤ maxLen) (w5 : x.Log.length ≤ maxLen) :
    ∃ z, laws_szDesk x n = some z ∧ (¬ z < 0 → z ≤ n ∧ x.Stars.length ≤ 1048576 ∧ x.Estimates.length ≤ 1048576 ∧ x.Log.length ≤ 1048576) := by
  have hm : maxLen = 9223372036854775807 := by decide
  unfold laws_szDesk
  obtain ⟨a, ea, qa⟩ := szStarS_is (a := x.Stars) h0 h1 w1 w2
  simp only [ea, Option.bind_some]
  by_cases ca : a < 0
  · exact ⟨-1, by simp [ca], fun c => absurd (by decide) c⟩
  have qa := qa ca
  obtain ⟨b, eb, qb⟩ := szEstimateS_is (a := x.Estimates) (n := a) (by omega) (by omega) w3 w4
  simp only [ca, decide_false, Bool.false_eq_true, if_false, eb, Option.bind_some]
  by_cases cb : b < 0
  · exact ⟨-1, by simp [cb], fun c => absurd (by decide) c⟩
  have qb := qb cb
  have e1 : IntKind.i64.wrap (b - (x.Log.length : Int)) = b - x.Log.length := wrap_i64 (by omega) (by omega)
  simp only [cb, decide_false, Bool.false_eq_true, if_false, e1]
  by_cases cc : b - (x.Log.length : Int) < 0
  · exact ⟨-1, by simp [cc], fun c => absurd (by decide) c⟩
  exact ⟨b - x.Log.length, by simp [cc], fun _ => ⟨by omega, by omega, by omega, by omega⟩⟩

theorem toDesk_is {x : Desk} (h1 : x.Stars.length ≤ 1099511627776) (h2 : x.Estimates.length ≤ 1099511627776) : laws_toDesk x = some x := by
  unfold laws_toDesk
  rw [toStarS_is h1, toEstimateS_is h2]; rfl

theorem SameDesk_same {a b : Desk} (h1 : a.Stars.length ≤ 1099511627776) (h2 : a.Estimates.length ≤ 1099511627776) : ∃ r, spec_SameDesk a b = some r ∧ impl_SameDesk a b = some r := by
  unfold spec_SameDesk impl_SameDesk
  rw [spec_SameStars_is h1, impl_SameStars_is' h1, spec_SameEstimates_is h2, impl_SameEstimates_is' h2]
  simp only [Option.bind_some, Option.isSome_some, Bool.or_true, ck_true]
  exact ⟨_, rfl, rfl⟩

theorem eqDesk_self {a : Desk} (h1 : a.Stars.length ≤ 1099511627776) (h2 : a.Estimates.length ≤ 1099511627776) : laws_eqDesk a a = some true := by
  unfold laws_eqDesk
  rw [eqStarS_is h1, eqEstimateS_is h2]
  simp

theorem law_SameDesk {a b : Desk} (w : (a.Stars.length ≤ maxLen ∧ ∀ s ∈ a.Stars, s.Name.length ≤ maxLen ∧ R64 s.Ascend ∧ R64 s.Decl ∧ R64 s.Bright ∧ R64 s.Faint) ∧ (a.Estimates.length ≤ maxLen ∧ ∀ s ∈ a.Estimates, R64 s.Time ∧ s.Star.length ≤ maxLen ∧ s.Observer.length ≤ maxLen ∧ R64 s.Mag ∧ True) ∧ a.Log.length ≤ maxLen)
    (u : (b.Stars.length ≤ maxLen ∧ ∀ s ∈ b.Stars, s.Name.length ≤ maxLen ∧ R64 s.Ascend ∧ R64 s.Decl ∧ R64 s.Bright ∧ R64 s.Faint) ∧ (b.Estimates.length ≤ maxLen ∧ ∀ s ∈ b.Estimates, R64 s.Time ∧ s.Star.length ≤ maxLen ∧ s.Observer.length ≤ maxLen ∧ R64 s.Mag ∧ True) ∧ b.Log.length ≤ maxLen) : laws_FnExactSameDesk a b = some true := by
  unfold laws_FnExactSameDesk
  obtain ⟨z, hz, hz2⟩ := szDesk_is (x := a) (n := 1048576) (by decide) (by decide) w.1.1 (fun s hs => (w.1.2 s hs).1) w.2.1.1 (fun s hs => ⟨(w.2.1.2 s hs).2.1, (w.2.1.2 s hs).2.2.1⟩) w.2.2
  simp only [hz, Option.bind_some]
  by_cases h : z < 0
  · simp [h]
  have hz2 := hz2 h
  obtain ⟨y, hy, hy2⟩ := szDesk_is (x := b) (n := z) (by omega) (by omega) u.1.1 (fun s hs => (u.1.2 s hs).1) u.2.1.1 (fun s hs => ⟨(u.2.1.2 s hs).2.1, (u.2.1.2 s hs).2.2.1⟩) u.2.2
  simp only [h, decide_false, Bool.false_eq_true, if_false, hy, Option.bind_some]
  by_cases h' : y < 0
  · simp [h']
  have hy2 := hy2 h'
  obtain ⟨r, e1, e2⟩ := SameDesk_same (a := a) (b := b) (by omega) (by omega)
  simp only [h', decide_false, Bool.false_eq_true, if_false, toDesk_is (x := a) (by omega) (by omega), toDesk_is (x := b) (by omega) (by omega), Option.bind_some, e1, e2, beq_self_eq_true, Bool.not_true, eqDesk_self (a := a) (by omega) (by omega), eqDesk_self (a := b) (by omega) (by omega)]

end Go.Proofs.Ytndkifgpbmaicaa
