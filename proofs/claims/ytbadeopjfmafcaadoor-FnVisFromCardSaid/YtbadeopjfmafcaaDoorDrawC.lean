/- The draws of a coverage. -/
import Derived.Test.YtbadeopjfmafcaaDoorDraw
import Derived.Test.YtbadeopjfmafcaaDoorA1
namespace Go.Proofs.YtbadeopjfmafcaaDoor
open Go.RowKit

end Go.Proofs.YtbadeopjfmafcaaDoor
