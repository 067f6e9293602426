/- Contracts and lemmas, put together. -/
import Derived.Test.YtbfkpfdkndnhkaaPkB
/- Contracts: ChangeBasis. -/
namespace Go.Proofs.Ytbfkpfdkndnhkaa
set_option linter.unusedSimpArgs false
set_option linter.unusedVariables false
open Go.RowKit

/-- a form in another basis -/
def cbO (g u : MX) : Option MX := if isGram g.r g.c g.l && u.ok then (mulO u g).bind fun p => mulO p (trM u) else none
theorem cbO_ok {g u m : MX} (h : cbO g u = some m) : m.ok = true := by
  unfold cbO at h
  split at h
  · obtain ⟨p, _, h2⟩ := Option.bind_eq_some_iff.1 h; exact mulO_ok h2
  · cases h

section
set_option maxHeartbeats 1000000

end
end Go.Proofs.Ytbfkpfdkndnhkaa
