/- The plain law of LogOf. No condition. -/
import Derived.Test.YtaeefegkmachmaaDoorHLogO
import Derived.Test.YtaeefegkmachmaaDoorLOL
namespace Go.Proofs.YtaeefegkmachmaaDoor
open Go Go.RowKit
set_option linter.unusedSimpArgs false
set_option linter.unusedVariables false

theorem law_LogOf {l : List Entry} (w : l.length ≤ maxLen ∧ ∀ e ∈ l, R64 e.Day ∧ e.What.length ≤ maxLen ∧ R64 e.Value) : laws_FnExactLogOf l = some true := by
  unfold laws_FnExactLogOf
  obtain ⟨z, hz, hz2⟩ := szEntryS_is (a := l) (n := 1048576) (by decide) (by decide) w.1 (fun s hs => (w.2 s hs).2.1)
  simp only [hz, Option.bind_some]
  by_cases h : z < 0
  · simp [h]
  have hz2 := hz2 h
  have hl : l.length ≤ 1048576 := by omega
  have b1 : l.length ≤ 1099511627776 := by omega
  simp only [h, decide_false, Bool.false_eq_true, if_false, toEntryS_is b1, Option.bind_some, implLogOf_is hl, specLogOf_is hl, eqEntryS_is b1, decide_true, Bool.not_true, beq_self_eq_true, Bool.or_self]

end Go.Proofs.YtaeefegkmachmaaDoor
