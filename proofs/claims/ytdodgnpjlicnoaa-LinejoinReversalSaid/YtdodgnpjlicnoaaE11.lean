/- The examples of chapter 11 hold. -/
import Derived.Test.YtdodgnpjlicnoaaVl
namespace Go.Proofs.Ytdodgnpjlicnoaa
open Go.RowKit
set_option linter.unusedVariables false
end Go.Proofs.Ytdodgnpjlicnoaa
