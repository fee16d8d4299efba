/- toFleece: DOES NOT BUILD YET (the walk behind the call of toHeap takes over 60 s). -/
import Derived.Test.YtjbaaomodcgdgaaH2
namespace Go.Proofs.Ytjbaaomodcgdgaa
open Go.RowKit
set_option linter.unusedVariables false
set_option linter.unusedSimpArgs false
end Go.Proofs.Ytjbaaomodcgdgaa
