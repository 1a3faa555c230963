/- What the helpers of the laws do. No condition. -/
import Derived.Test.YtambhaccpbhnhaaGreatDoorTBT
import Derived.Test.YtambhaccpbhnhaaGreatDoorEngTD
namespace Go.Proofs.YtambhaccpbhnhaaGreatDoor
open Go Go.RowKit
set_option linter.unusedSimpArgs false
set_option linter.unusedVariables false

theorem spec_l00In_is (n a b : Int) : spec_l00In n a b = some (decide (a ≤ n) && decide (n ≤ b)) := id rfl
theorem impl_in_is (n a b : Int) : impl_in n a b = some (decide (a ≤ n) && decide (n ≤ b)) := id rfl

end Go.Proofs.YtambhaccpbhnhaaGreatDoor
