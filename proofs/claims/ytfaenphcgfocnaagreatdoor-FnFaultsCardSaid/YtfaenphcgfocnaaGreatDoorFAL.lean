/- What the helpers of the laws do. No condition. -/
import Derived.Test.YtfaenphcgfocnaaGreatDoorFAT
import Derived.Test.YtfaenphcgfocnaaGreatDoorEngTD
namespace Go.Proofs.YtfaenphcgfocnaaGreatDoor
open Go Go.RowKit
set_option linter.unusedSimpArgs false
set_option linter.unusedVariables false
theorem EM (n a b:Int):Dv n a b = some (decide (a ≤ n) && decide (n ≤ b)):=id rfl
theorem GC (n a b:Int):Ee n a b = some (decide (a ≤ n) && decide (n ≤ b)):=id rfl
end Go.Proofs.YtfaenphcgfocnaaGreatDoor
