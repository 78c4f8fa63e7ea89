/- 'slices.Equal' on Gaussian integers. -/
import Derived.Test.YtbadeopjfmafcaaDoorA3
namespace Go.Proofs.YtbadeopjfmafcaaDoor
open Go.RowKit

end Go.Proofs.YtbadeopjfmafcaaDoor
