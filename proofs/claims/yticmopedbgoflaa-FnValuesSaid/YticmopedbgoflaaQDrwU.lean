/- Contracts and lemmas, put together. -/
import Derived.Test.YticmopedbgoflaaQDrwV
/- The code stays where it is. -/
namespace Go.Proofs.Yticmopedbgoflaa
set_option linter.unusedSimpArgs false
set_option linter.unusedVariables false
open Go.RowKit

theorem CodeR.up {w w1 : World} {A : Option Addr} {n : Nat} (hr : CodeR w w.heap.size A n) (g : Grows w w1) : CodeR w1 w1.heap.size A n := fun i hi => by
  have hs := Below.size g
  obtain ⟨b, off, x, h1, h2, h3⟩ := (hr.keep g) i hi
  exact ⟨b, off, x, h1, by omega, h3⟩
end Go.Proofs.Yticmopedbgoflaa
