/- spec.l93Numbers: an observation drawn. -/
import Derived.Test.YtbadeopjfmafcaaDoorDrawT
namespace Go.Proofs.YtbadeopjfmafcaaDoor
open Go.RowKit

end Go.Proofs.YtbadeopjfmafcaaDoor
