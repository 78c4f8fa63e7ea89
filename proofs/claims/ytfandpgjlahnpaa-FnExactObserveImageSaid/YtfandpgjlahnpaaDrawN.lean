/- spec.l93Numbers: an observation drawn. -/
import Derived.Test.YtfandpgjlahnpaaDrawT
namespace Go.Proofs.Ytfandpgjlahnpaa
open Go.RowKit

end Go.Proofs.Ytfandpgjlahnpaa
