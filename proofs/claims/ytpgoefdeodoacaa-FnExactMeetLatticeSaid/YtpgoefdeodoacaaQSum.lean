/- Contracts and lemmas, put together. -/
import Derived.Test.YtpgoefdeodoacaaPkI
/- Contracts: the sum of two lattices. -/
namespace Go.Proofs.Ytpgoefdeodoacaa
set_option linter.unusedSimpArgs false
set_option linter.unusedVariables false
open Go.RowKit

section
set_option maxHeartbeats 2000000
end
end Go.Proofs.Ytpgoefdeodoacaa
