/- spec.l93Quarters: quarters drawn. -/
import Derived.Test.YtfandpgjlahnpaaDraw
namespace Go.Proofs.Ytfandpgjlahnpaa
open Go.RowKit

end Go.Proofs.Ytfandpgjlahnpaa
