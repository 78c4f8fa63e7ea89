/- 'spec.ObserveTurn' at every input. -/
import Derived.Test.YtfandpgjlahnpaaTurnS
namespace Go.Proofs.Ytfandpgjlahnpaa
open Go.RowKit

end Go.Proofs.Ytfandpgjlahnpaa
