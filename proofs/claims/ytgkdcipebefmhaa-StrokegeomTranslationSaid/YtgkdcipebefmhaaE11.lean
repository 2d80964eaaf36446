/- The examples of chapter 11 hold. -/
import Derived.Test.YtgkdcipebefmhaaVl
namespace Go.Proofs.Ytgkdcipebefmhaa
open Go.RowKit
set_option linter.unusedVariables false
end Go.Proofs.Ytgkdcipebefmhaa
