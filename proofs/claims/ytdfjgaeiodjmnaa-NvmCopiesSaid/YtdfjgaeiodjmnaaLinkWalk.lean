/- link: Walk of the program. -/
import Derived.Test.YtdfjgaeiodjmnaaWalkGen
set_option linter.unusedSimpArgs false
set_option linter.unusedVariables false
namespace Go.Proofs.Ytdfjgaeiodjmnaa
open Go.RowKit

end Go.Proofs.Ytdfjgaeiodjmnaa
