/- The law of CheckLog and that of RecoverLog, without a program in sight. No condition. -/
import Derived.Test.YtgbopjgnggdhkaaDoorHLogS
namespace Go.Proofs.YtgbopjgnggdhkaaDoor
open Go Go.RowKit
set_option linter.unusedSimpArgs false
set_option linter.unusedVariables false

theorem CheckLog_same {log : List UInt8} (hl : log.length ≤ 1048576) : ∃ a c : Int, spec_CheckLog log = some (a, c) ∧ impl_CheckLog log = some (a, c) ∧ (c = 0 → 0 ≤ a ∧ a ≤ log.length) := by
  unfold spec_CheckLog impl_CheckLog
  by_cases h : 4000 < log.length
  · have e : decide ((4000 : Int) < (log.length : Int)) = true := decide_eq_true (by omega)
    simp only [e, if_true]
    exact ⟨0, 5, rfl, rfl, fun h => absurd h (by decide)⟩
  · have e : decide ((4000 : Int) < (log.length : Int)) = false := decide_eq_false (by omega)
    have hi := (logP_inv log).at_
    simp only [e, Bool.false_eq_true, if_false, l27Read_is hl, readLog_is hl, Option.bind_some]
    exact ⟨((logP log).2.1 : Int), 0, rfl, rfl, fun _ => ⟨by omega, by omega⟩⟩

theorem law_CheckLog {aLog : List UInt8} : laws_FnExactCheckLog aLog = some true := by
  unfold laws_FnExactCheckLog
  by_cases h : 1048576 < aLog.length
  · have e : decide ((1048576 : Int) < (aLog.length : Int)) = true := decide_eq_true (by omega)
    simp only [e, if_true]
  · have e : decide ((1048576 : Int) < (aLog.length : Int)) = false := decide_eq_false (by omega)
    obtain ⟨a, c, h1, h2, _⟩ := CheckLog_same (log := aLog) (by omega)
    simp only [e, Bool.false_eq_true, if_false, h1, h2, Option.bind_some, beq_self_eq_true, Bool.not_true, Bool.or_self]

theorem law_RecoverLog {aLog : List UInt8} : laws_FnExactRecoverLog aLog = some true := by
  unfold laws_FnExactRecoverLog
  by_cases h : 1048576 < aLog.length
  · have e : decide ((1048576 : Int) < (aLog.length : Int)) = true := decide_eq_true (by omega)
    simp only [e, if_true]
  · have e : decide ((1048576 : Int) < (aLog.length : Int)) = false := decide_eq_false (by omega)
    have hl : aLog.length ≤ 1048576 := by omega
    simp only [e, Bool.false_eq_true, if_false]
    unfold spec_RecoverLog impl_RecoverLog impl_CheckLog
    by_cases h4 : 4000 < aLog.length
    · have e : decide ((4000 : Int) < (aLog.length : Int)) = true := decide_eq_true (by omega)
      simp [e]
    · have e : decide ((4000 : Int) < (aLog.length : Int)) = false := decide_eq_false (by omega)
      have hi := (logP_inv aLog).at_
      have c := cutOk_of (a := 0) (b := ((logP aLog).2.1 : Int)) (n := aLog.length) (by omega) (by omega) (by omega)
      simp only [e, Bool.false_eq_true, if_false, l27Read_is hl, readLog_is hl, Option.bind_some, rOf, c, ck_true, beq_self_eq_true, Bool.not_true, Bool.or_self]

end Go.Proofs.YtgbopjgnggdhkaaDoor
