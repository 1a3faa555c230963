/- Plain lemmas for the dates and clocks. No condition. -/
import Derived.Test.YtbcgbmckojlpjaaDoorDCT
import Derived.Test.YtbcgbmckojlpjaaDoorEngTD
namespace Go.Proofs.YtbcgbmckojlpjaaDoor
open Go Go.RowKit
end Go.Proofs.YtbcgbmckojlpjaaDoor
