/- spec.l93Quarters: quarters drawn. -/
import Derived.Test.YtbadeopjfmafcaaDoorDraw
namespace Go.Proofs.YtbadeopjfmafcaaDoor
open Go.RowKit

end Go.Proofs.YtbadeopjfmafcaaDoor
