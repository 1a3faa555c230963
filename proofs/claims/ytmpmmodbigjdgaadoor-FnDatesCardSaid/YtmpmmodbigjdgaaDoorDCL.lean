/- Plain lemmas for the dates and clocks. No condition. -/
import Derived.Test.YtmpmmodbigjdgaaDoorDCT
import Derived.Test.YtmpmmodbigjdgaaDoorEngTD
namespace Go.Proofs.YtmpmmodbigjdgaaDoor
open Go Go.RowKit
end Go.Proofs.YtmpmmodbigjdgaaDoor
