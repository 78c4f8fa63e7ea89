/- 'slices.Equal' on Gaussian integers. -/
import Derived.Test.YtfandpgjlahnpaaA3
namespace Go.Proofs.Ytfandpgjlahnpaa
open Go.RowKit

end Go.Proofs.Ytfandpgjlahnpaa
