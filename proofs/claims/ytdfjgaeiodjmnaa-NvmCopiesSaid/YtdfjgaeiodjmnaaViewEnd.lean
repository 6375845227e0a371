/- view: Missing, Reads, Writes. -/
import Derived.Test.YtdfjgaeiodjmnaaViewWhole
import Derived.Test.YtdfjgaeiodjmnaaLinkWalk
set_option linter.unusedSimpArgs false
set_option linter.unusedVariables false
namespace Go.Proofs.Ytdfjgaeiodjmnaa
open Go.RowKit

end Go.Proofs.Ytdfjgaeiodjmnaa
