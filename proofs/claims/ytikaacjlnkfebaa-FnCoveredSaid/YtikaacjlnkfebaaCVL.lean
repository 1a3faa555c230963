/- Plain lemmas: numbers within bounds. No condition. -/
import Derived.Test.YtikaacjlnkfebaaCVT
import Derived.Test.YtikaacjlnkfebaaEngTD
namespace Go.Proofs.Ytikaacjlnkfebaa
open Go Go.RowKit
theorem spec_l00In_is (n a b : Int) : spec_l00In n a b = some (decide (a ≤ n) && decide (n ≤ b)) := id rfl
theorem impl_in_is (n a b : Int) : impl_in n a b = some (decide (a ≤ n) && decide (n ≤ b)) := id rfl
end Go.Proofs.Ytikaacjlnkfebaa
