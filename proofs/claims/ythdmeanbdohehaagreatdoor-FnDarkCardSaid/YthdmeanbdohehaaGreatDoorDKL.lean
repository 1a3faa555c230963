/- What the helpers of the laws do. No condition. -/
import Derived.Test.YthdmeanbdohehaaGreatDoorDKT
import Derived.Test.YthdmeanbdohehaaGreatDoorEngTD
namespace Go.Proofs.YthdmeanbdohehaaGreatDoor
open Go Go.RowKit
set_option linter.unusedSimpArgs false
set_option linter.unusedVariables false
theorem HU (n a b : Int) : CX n a b = some (decide (a ≤ n) && decide (n ≤ b)) := id rfl
theorem KF (n a b : Int) : Ek n a b = some (decide (a ≤ n) && decide (n ≤ b)) := id rfl
end Go.Proofs.YthdmeanbdohehaaGreatDoor
