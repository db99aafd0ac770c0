/- The reference of packed trees: nodes above nodes. -/
import Derived.Test.YtahmkinppighkaaTrN
set_option linter.unusedSimpArgs false
set_option linter.unusedVariables false
namespace Go.Proofs.Ytahmkinppighkaa
open Go.RowKit


end Go.Proofs.Ytahmkinppighkaa
