/- fresh: the document's Vals of a configuration that is not right. -/
import Derived.Test.YtcicmljnjdhkjaaGreatFreshL
namespace Go.Proofs.YtcicmljnjdhkjaaGreat
open Go.RowKit

end Go.Proofs.YtcicmljnjdhkjaaGreat
