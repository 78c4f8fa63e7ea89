/- 'spec.ObserveTurn' at every input. -/
import Derived.Test.YtfandpgjlahnpaaTurnI
namespace Go.Proofs.Ytfandpgjlahnpaa
open Go.RowKit

end Go.Proofs.Ytfandpgjlahnpaa
