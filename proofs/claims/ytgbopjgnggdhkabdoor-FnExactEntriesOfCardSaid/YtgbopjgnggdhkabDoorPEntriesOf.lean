/- The plain law of EntriesOf. No condition. -/
import Derived.Test.YtgbopjgnggdhkabDoorHLogE
namespace Go.Proofs.YtgbopjgnggdhkabDoor
open Go Go.RowKit
set_option linter.unusedSimpArgs false
set_option linter.unusedVariables false

theorem EntriesOf_same {log : List UInt8} (hl : log.length ≤ 1048576) : ∃ (es : List Entry) (c : Int), spec_EntriesOf log = some (es, c) ∧ impl_EntriesOf log = some (es, c) ∧ es.length ≤ 4000 := by
  unfold spec_EntriesOf
  obtain ⟨r, e1, hr⟩ := l27Code_is hl
  obtain ⟨es, e2, h1, h2⟩ := EntriesOf_is hl
  rw [e1, e2]
  simp only [Option.bind_some]
  by_cases h : codeP log = 0
  · rw [h1 h, hr h, h]
    exact ⟨_, _, rfl, rfl, (code_ok h).2.2⟩
  · have e : (codeP log == 0) = false := beq_eq_false_iff_ne.2 h
    rw [h2 h, e]
    exact ⟨_, _, rfl, rfl, by simp⟩

theorem law_EntriesOf {aLog : List UInt8} : laws_FnExactEntriesOf aLog = some true := by
  unfold laws_FnExactEntriesOf
  by_cases h : 1048576 < (aLog.length : Int)
  · simp [h]
  · obtain ⟨es, c, e1, e2, hl⟩ := EntriesOf_same (log := aLog) (by omega)
    have hll : es.length ≤ 1099511627776 := by omega
    simp only [h, decide_false, Bool.false_eq_true, if_false, Option.bind_some, e1, e2, eqEntryS_is hll, decide_true, beq_self_eq_true, Bool.not_true, Bool.or_self,
      markEntryS_is hll (show (1 : Int) ≤ 1 by decide) (by decide), heldEntryS_is hll (show (1 : Int) ≤ 1 by decide) (by decide)]
    have h3 : ¬ (1 + ((3 : Nat) : Int) * (es.length : Int) < 0) := by omega
    simp only [h3, decide_false, Bool.false_eq_true, if_false]

end Go.Proofs.YtgbopjgnggdhkabDoor
