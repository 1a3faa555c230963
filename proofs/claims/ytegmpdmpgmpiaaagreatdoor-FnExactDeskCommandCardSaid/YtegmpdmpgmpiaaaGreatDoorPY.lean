/- Lemmas. No condition. -/
import Derived.Test.YtegmpdmpgmpiaaaGreatDoorP5
import Derived.Stop.Joined
set_option linter.unusedVariables false
set_option maxHeartbeats 64000000
namespace Go.Proofs.YtegmpdmpgmpiaaaGreatDoor.fnExactDeskCommand
open Go Go.Proofs Go.RowKit
theorem and2{a b:Bool}(h:a=true)(k:b=true):(a&&b)=true:=by rw[h,k];rfl
theorem ALf:joinedFacts Tryz.pinned.checked.prog 4 Tryz.f4 Rows.fnExactDeskCommandSpec Rows.fnExactDeskCommandRow=true:=by
 unfold joinedFacts
 repeat (with_reducible refine and2 ?_ ?_)
 all_goals (as_aux_lemma=>kernel_rfl)
end Go.Proofs.YtegmpdmpgmpiaaaGreatDoor.fnExactDeskCommand
