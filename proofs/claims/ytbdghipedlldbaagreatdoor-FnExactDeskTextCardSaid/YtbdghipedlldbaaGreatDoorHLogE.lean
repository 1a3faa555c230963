/- What typed forms say: a text that must be a log, and its code. No condition. -/
import Derived.Test.YtbdghipedlldbaaGreatDoorHLogS
namespace Go.Proofs.YtbdghipedlldbaaGreatDoor
open Go Go.RowKit
set_option linter.unusedSimpArgs false
set_option linter.unusedVariables false

noncomputable def codeP (log : List UInt8) : Int := if 4000 < log.length then 5 else if (logP log).2.1 = log.length then 0 else 8

theorem code_ok {log : List UInt8} (h : codeP log = 0) : log.length ≤ 4000 ∧ (logP log).2.1 = log.length ∧ (logP log).1.length ≤ 4000 := by
  unfold codeP at h
  split at h
  · exact absurd h (by decide)
  · split at h
    · rename_i h1 h2
      have := (logP_inv log).few
      exact ⟨by omega, h2, by omega⟩
    · exact absurd h (by decide)

theorem l27Code_is {log : List UInt8} (hl : log.length ≤ 1048576) : ∃ r, spec_l27Code log = some (r, codeP log) ∧ (codeP log = 0 → r = rOf log (logP log)) := by
  unfold spec_l27Code codeP
  by_cases h : 4000 < log.length
  · have e : decide ((4000 : Int) < (log.length : Int)) = true := decide_eq_true (by omega)
    simp only [e, if_true, if_pos h]
    exact ⟨_, rfl, fun c => absurd c (by decide)⟩
  · have e : decide ((4000 : Int) < (log.length : Int)) = false := decide_eq_false (by omega)
    simp only [e, Bool.false_eq_true, if_false, if_neg h, l27Read_is hl, Option.bind_some]
    by_cases h2 : (logP log).2.1 = log.length
    · have e2 : ((rOf log (logP log)).at_ == (log.length : Int)) = true := by rw [beq_iff_eq]; show (((logP log).2.1 : Nat) : Int) = _; rw [h2]
      simp only [e2, Bool.not_true, Bool.false_eq_true, if_false, if_pos h2]
      exact ⟨_, rfl, fun _ => rfl⟩
    · have e2 : ((rOf log (logP log)).at_ == (log.length : Int)) = false := by rw [beq_eq_false_iff_ne]; show (((logP log).2.1 : Nat) : Int) ≠ _; omega
      simp only [e2, Bool.not_false, if_true, if_neg h2]
      exact ⟨_, rfl, fun c => absurd c (by decide)⟩

theorem wholeLog_is {log : List UInt8} (hl : log.length ≤ 1048576) : ∃ es last, impl_wholeLog log = some (es, last, codeP log) ∧ (codeP log = 0 → es = (logP log).1 ∧ last = (logP log).2.2) ∧ (codeP log ≠ 0 → es = []) := by
  unfold impl_wholeLog codeP
  have hi := (logP_inv log).at_
  by_cases h : 4000 < log.length
  · have e : decide ((4000 : Int) < (log.length : Int)) = true := decide_eq_true (by omega)
    simp only [e, if_true, if_pos h]
    exact ⟨_, _, rfl, fun c => absurd c (by decide), fun _ => rfl⟩
  · have e : decide ((4000 : Int) < (log.length : Int)) = false := decide_eq_false (by omega)
    simp only [e, Bool.false_eq_true, if_false, if_neg h, readLog_is hl, Option.bind_some]
    by_cases h2 : (logP log).2.1 = log.length
    · have e2 : decide (((logP log).2.1 : Int) < (log.length : Int)) = false := decide_eq_false (by omega)
      simp only [e2, Bool.false_eq_true, if_false, if_pos h2]
      exact ⟨_, _, rfl, fun _ => ⟨rfl, rfl⟩, fun c => absurd rfl c⟩
    · have e2 : decide (((logP log).2.1 : Int) < (log.length : Int)) = true := decide_eq_true (by omega)
      simp only [e2, if_true, if_neg h2]
      exact ⟨_, _, rfl, fun c => absurd c (by decide), fun _ => rfl⟩

theorem EntriesOf_is {log : List UInt8} (hl : log.length ≤ 1048576) : ∃ es, impl_EntriesOf log = some (es, codeP log) ∧ (codeP log = 0 → es = (logP log).1) ∧ (codeP log ≠ 0 → es = []) := by
  unfold impl_EntriesOf
  obtain ⟨es, last, h1, h2, h3⟩ := wholeLog_is hl
  rw [h1]
  exact ⟨es, rfl, fun c => (h2 c).1, h3⟩

end Go.Proofs.YtbdghipedlldbaaGreatDoor
