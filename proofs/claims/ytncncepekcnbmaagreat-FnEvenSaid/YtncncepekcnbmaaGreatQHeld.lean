/- Contracts and lemmas, put together. -/
import Derived.Deep.RegionHeld3
import Derived.Test.YtncncepekcnbmaaGreatPkB
/- A region that draws, walked by hand: a condition S on the world is shown anew behind each step that turns it. -/
namespace Go.Proofs.YtncncepekcnbmaaGreat
set_option linter.unusedSimpArgs false
set_option linter.unusedVariables false
open Go.RowKit

theorem wp_region_heldL {P : Program} {id : Nat} {Q : Exit → Act → World → Prop} {a : Act} {w : World} {L : List Oper} (S : World → Prop) (hm : P.follows .mixedOrders = true) (hS : S w.drew)
    (h : S w.drew → wpAnyH P .any L.toArray (NoPanic Q) S L.length (Array.replicate L.length false) a w.drew) : (Code.region id L.toArray true).wp P Q a w := by
  refine wp_region_noPanic (wp_region_any hm ?_)
  exact wpAny_of_held _ _ _ _ (by simpa using h hS)
end Go.Proofs.YtncncepekcnbmaaGreat
