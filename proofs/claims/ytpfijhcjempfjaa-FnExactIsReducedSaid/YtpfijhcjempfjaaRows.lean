/-
  No cell of these rows narrows 'for every input' (looked for: loops, veiled, ifaces, maps, wideKeys, modest, calm, conditions, laid).
  DERIVED. THE GIVEN ROWS OF THIS SEAT. 12 by the template 'for every input the law returns true; each argument reads behind the call as it read before'; 0 by the template 'total and deterministic' (their statements: YtpfijhcjempfjaaTotals.lean).
  GIVEN WITH THE SEED: the statements are not yours to turn. If you find one false, say at which input.
  Laid BY PROGRAM, IN A SANDBOX (cutbox-rows.mjs): the forced cells as the released guide's own fill.sh prints them over the translation 896b4838347b8044… (all of the seat's roots in one cut). By AI agents, Wed Nov 11 2026. No macro, syntax, notation, axiom, sorry.
-/
import Derived.Test.YtpfijhcjempfjaaChecked
import GoSem.Claim
import GoSem.ClaimJoined
import GoSem.ClaimMapViews
import Derived.JoinedTies
import Derived.KernelRfl
namespace Go.Proofs.Ytpfijhcjempfjaa
/- THE CELL 'sum', in the pinned program and in every row, IS THE sha256 OF THE DUMP (.gsa) THAT YtpfijhcjempfjaaProg.lean LOADS. Nothing in Lean hashes anything: it is a label: what it is worth is what the hold of that sum in a sandbox is worth. -/
noncomputable def Try.pinned : Pinned := { name := "ytpfijhcjempfjaa", sum := "896b4838347b804411c7a49dcbc82f4809bdf3ac6bb49e8b260bf4e37571ba3d", checked := Try.checked }
namespace Rows
def none {H : Type} : Left H := { results := [], args := [] }

/-- 'laws.FnExactChangeBasis': WHATEVER THE INPUT: true; the input reads as it did. -/
def fnExactChangeBasisSpec : ChangeSpec := { name := "fnExactChangeBasis", fn := fun _ => fun
  | [d1, d2] => { results := [.lit (.bool true)], args := [d1, d2] }
  | _ => none }
def fnExactChangeBasisRow : OpenClaim := { program := "ytpfijhcjempfjaa", sum := "896b4838347b804411c7a49dcbc82f4809bdf3ac6bb49e8b260bf4e37571ba3d", func := "loop.example/g03411/laws.FnExactChangeBasis", spec := "fnExactChangeBasis", apart := false }
def FnExactChangeBasisSaid : Prop := fnExactChangeBasisRow.holds Try.pinned (OpenSpec.ofChange fnExactChangeBasisSpec)

/-- ITS FALSE NEIGHBOUR: 'it returns false'. Refute it at one input. -/
def fnExactChangeBasisWrong : ChangeSpec := { name := "fnExactChangeBasis", fn := fun _ => fun
  | [d1, d2] => { results := [.lit (.bool false)], args := [d1, d2] }
  | _ => none }
def FnExactChangeBasisWrongFalsely : Prop := fnExactChangeBasisRow.holds Try.pinned (OpenSpec.ofChange fnExactChangeBasisWrong)

/-- 'laws.FnExactScaleLattice': WHATEVER THE INPUT: true; the input reads as it did. -/
def fnExactScaleLatticeSpec : ChangeSpec := { name := "fnExactScaleLattice", fn := fun _ => fun
  | [d1, d2] => { results := [.lit (.bool true)], args := [d1, d2] }
  | _ => none }
def fnExactScaleLatticeRow : OpenClaim := { program := "ytpfijhcjempfjaa", sum := "896b4838347b804411c7a49dcbc82f4809bdf3ac6bb49e8b260bf4e37571ba3d", func := "loop.example/g03411/laws.FnExactScaleLattice", spec := "fnExactScaleLattice", unfollowed := true, recurses := true, apart := false }
def FnExactScaleLatticeSaid : Prop := fnExactScaleLatticeRow.holds Try.pinned (OpenSpec.ofChange fnExactScaleLatticeSpec)

/-- ITS FALSE NEIGHBOUR: 'it returns false'. Refute it at one input. -/
def fnExactScaleLatticeWrong : ChangeSpec := { name := "fnExactScaleLattice", fn := fun _ => fun
  | [d1, d2] => { results := [.lit (.bool false)], args := [d1, d2] }
  | _ => none }
def FnExactScaleLatticeWrongFalsely : Prop := fnExactScaleLatticeRow.holds Try.pinned (OpenSpec.ofChange fnExactScaleLatticeWrong)

/-- 'laws.FnExactIsDefinite': WHATEVER THE INPUT: true; the input reads as it did. -/
def fnExactIsDefiniteSpec : ChangeSpec := { name := "fnExactIsDefinite", fn := fun _ => fun
  | [d] => { results := [.lit (.bool true)], args := [d] }
  | _ => none }
def fnExactIsDefiniteRow : OpenClaim := { program := "ytpfijhcjempfjaa", sum := "896b4838347b804411c7a49dcbc82f4809bdf3ac6bb49e8b260bf4e37571ba3d", func := "loop.example/g03411/laws.FnExactIsDefinite", spec := "fnExactIsDefinite", recurses := true, apart := false }
def FnExactIsDefiniteSaid : Prop := fnExactIsDefiniteRow.holds Try.pinned (OpenSpec.ofChange fnExactIsDefiniteSpec)

/-- ITS FALSE NEIGHBOUR: 'it returns false'. Refute it at one input. -/
def fnExactIsDefiniteWrong : ChangeSpec := { name := "fnExactIsDefinite", fn := fun _ => fun
  | [d] => { results := [.lit (.bool false)], args := [d] }
  | _ => none }
def FnExactIsDefiniteWrongFalsely : Prop := fnExactIsDefiniteRow.holds Try.pinned (OpenSpec.ofChange fnExactIsDefiniteWrong)

/-- 'laws.FnExactCoordinateMatrix': WHATEVER THE INPUT: true; the input reads as it did. -/
def fnExactCoordinateMatrixSpec : ChangeSpec := { name := "fnExactCoordinateMatrix", fn := fun _ => fun
  | [d1, d2] => { results := [.lit (.bool true)], args := [d1, d2] }
  | _ => none }
def fnExactCoordinateMatrixRow : OpenClaim := { program := "ytpfijhcjempfjaa", sum := "896b4838347b804411c7a49dcbc82f4809bdf3ac6bb49e8b260bf4e37571ba3d", func := "loop.example/g03411/laws.FnExactCoordinateMatrix", spec := "fnExactCoordinateMatrix", unfollowed := true, recurses := true, apart := false }
def FnExactCoordinateMatrixSaid : Prop := fnExactCoordinateMatrixRow.holds Try.pinned (OpenSpec.ofChange fnExactCoordinateMatrixSpec)

/-- ITS FALSE NEIGHBOUR: 'it returns false'. Refute it at one input. -/
def fnExactCoordinateMatrixWrong : ChangeSpec := { name := "fnExactCoordinateMatrix", fn := fun _ => fun
  | [d1, d2] => { results := [.lit (.bool false)], args := [d1, d2] }
  | _ => none }
def FnExactCoordinateMatrixWrongFalsely : Prop := fnExactCoordinateMatrixRow.holds Try.pinned (OpenSpec.ofChange fnExactCoordinateMatrixWrong)

/-- 'laws.FnExactBoxOf': WHATEVER THE INPUT: true; the input reads as it did. -/
def fnExactBoxOfSpec : ChangeSpec := { name := "fnExactBoxOf", fn := fun _ => fun
  | [d1, d2] => { results := [.lit (.bool true)], args := [d1, d2] }
  | _ => none }
def fnExactBoxOfRow : OpenClaim := { program := "ytpfijhcjempfjaa", sum := "896b4838347b804411c7a49dcbc82f4809bdf3ac6bb49e8b260bf4e37571ba3d", func := "loop.example/g03411/laws.FnExactBoxOf", spec := "fnExactBoxOf", recurses := true, apart := false }
def FnExactBoxOfSaid : Prop := fnExactBoxOfRow.holds Try.pinned (OpenSpec.ofChange fnExactBoxOfSpec)

/-- ITS FALSE NEIGHBOUR: 'it returns false'. Refute it at one input. -/
def fnExactBoxOfWrong : ChangeSpec := { name := "fnExactBoxOf", fn := fun _ => fun
  | [d1, d2] => { results := [.lit (.bool false)], args := [d1, d2] }
  | _ => none }
def FnExactBoxOfWrongFalsely : Prop := fnExactBoxOfRow.holds Try.pinned (OpenSpec.ofChange fnExactBoxOfWrong)

/-- 'laws.FnExactSquaresOf': WHATEVER THE INPUT: true; the input reads as it did. -/
def fnExactSquaresOfSpec : ChangeSpec := { name := "fnExactSquaresOf", fn := fun _ => fun
  | [d] => { results := [.lit (.bool true)], args := [d] }
  | _ => none }
def fnExactSquaresOfRow : OpenClaim := { program := "ytpfijhcjempfjaa", sum := "896b4838347b804411c7a49dcbc82f4809bdf3ac6bb49e8b260bf4e37571ba3d", func := "loop.example/g03411/laws.FnExactSquaresOf", spec := "fnExactSquaresOf", recurses := true, apart := false }
def FnExactSquaresOfSaid : Prop := fnExactSquaresOfRow.holds Try.pinned (OpenSpec.ofChange fnExactSquaresOfSpec)

/-- ITS FALSE NEIGHBOUR: 'it returns false'. Refute it at one input. -/
def fnExactSquaresOfWrong : ChangeSpec := { name := "fnExactSquaresOf", fn := fun _ => fun
  | [d] => { results := [.lit (.bool false)], args := [d] }
  | _ => none }
def FnExactSquaresOfWrongFalsely : Prop := fnExactSquaresOfRow.holds Try.pinned (OpenSpec.ofChange fnExactSquaresOfWrong)

/-- 'laws.FnExactCoefficientOf': WHATEVER THE INPUT: true; the input reads as it did. -/
def fnExactCoefficientOfSpec : ChangeSpec := { name := "fnExactCoefficientOf", fn := fun _ => fun
  | [d1, d2, d3] => { results := [.lit (.bool true)], args := [d1, d2, d3] }
  | _ => none }
def fnExactCoefficientOfRow : OpenClaim := { program := "ytpfijhcjempfjaa", sum := "896b4838347b804411c7a49dcbc82f4809bdf3ac6bb49e8b260bf4e37571ba3d", func := "loop.example/g03411/laws.FnExactCoefficientOf", spec := "fnExactCoefficientOf", recurses := true, apart := false }
def FnExactCoefficientOfSaid : Prop := fnExactCoefficientOfRow.holds Try.pinned (OpenSpec.ofChange fnExactCoefficientOfSpec)

/-- ITS FALSE NEIGHBOUR: 'it returns false'. Refute it at one input. -/
def fnExactCoefficientOfWrong : ChangeSpec := { name := "fnExactCoefficientOf", fn := fun _ => fun
  | [d1, d2, d3] => { results := [.lit (.bool false)], args := [d1, d2, d3] }
  | _ => none }
def FnExactCoefficientOfWrongFalsely : Prop := fnExactCoefficientOfRow.holds Try.pinned (OpenSpec.ofChange fnExactCoefficientOfWrong)

/-- 'laws.FnExactSameLattice': WHATEVER THE INPUT: true; the input reads as it did. -/
def fnExactSameLatticeSpec : ChangeSpec := { name := "fnExactSameLattice", fn := fun _ => fun
  | [d1, d2] => { results := [.lit (.bool true)], args := [d1, d2] }
  | _ => none }
def fnExactSameLatticeRow : OpenClaim := { program := "ytpfijhcjempfjaa", sum := "896b4838347b804411c7a49dcbc82f4809bdf3ac6bb49e8b260bf4e37571ba3d", func := "loop.example/g03411/laws.FnExactSameLattice", spec := "fnExactSameLattice", unfollowed := true, recurses := true, apart := false }
def FnExactSameLatticeSaid : Prop := fnExactSameLatticeRow.holds Try.pinned (OpenSpec.ofChange fnExactSameLatticeSpec)

/-- ITS FALSE NEIGHBOUR: 'it returns false'. Refute it at one input. -/
def fnExactSameLatticeWrong : ChangeSpec := { name := "fnExactSameLattice", fn := fun _ => fun
  | [d1, d2] => { results := [.lit (.bool false)], args := [d1, d2] }
  | _ => none }
def FnExactSameLatticeWrongFalsely : Prop := fnExactSameLatticeRow.holds Try.pinned (OpenSpec.ofChange fnExactSameLatticeWrong)

/-- 'laws.FnExactCongruenceLattice': WHATEVER THE INPUT: true; the input reads as it did. -/
def fnExactCongruenceLatticeSpec : ChangeSpec := { name := "fnExactCongruenceLattice", fn := fun _ => fun
  | [d1, d2] => { results := [.lit (.bool true)], args := [d1, d2] }
  | _ => none }
def fnExactCongruenceLatticeRow : OpenClaim := { program := "ytpfijhcjempfjaa", sum := "896b4838347b804411c7a49dcbc82f4809bdf3ac6bb49e8b260bf4e37571ba3d", func := "loop.example/g03411/laws.FnExactCongruenceLattice", spec := "fnExactCongruenceLattice", unfollowed := true, recurses := true, apart := false }
def FnExactCongruenceLatticeSaid : Prop := fnExactCongruenceLatticeRow.holds Try.pinned (OpenSpec.ofChange fnExactCongruenceLatticeSpec)

/-- ITS FALSE NEIGHBOUR: 'it returns false'. Refute it at one input. -/
def fnExactCongruenceLatticeWrong : ChangeSpec := { name := "fnExactCongruenceLattice", fn := fun _ => fun
  | [d1, d2] => { results := [.lit (.bool false)], args := [d1, d2] }
  | _ => none }
def FnExactCongruenceLatticeWrongFalsely : Prop := fnExactCongruenceLatticeRow.holds Try.pinned (OpenSpec.ofChange fnExactCongruenceLatticeWrong)

/-- 'laws.FnExactIsReduced': WHATEVER THE INPUT: true; the input reads as it did. -/
def fnExactIsReducedSpec : ChangeSpec := { name := "fnExactIsReduced", fn := fun _ => fun
  | [d] => { results := [.lit (.bool true)], args := [d] }
  | _ => none }
def fnExactIsReducedRow : OpenClaim := { program := "ytpfijhcjempfjaa", sum := "896b4838347b804411c7a49dcbc82f4809bdf3ac6bb49e8b260bf4e37571ba3d", func := "loop.example/g03411/laws.FnExactIsReduced", spec := "fnExactIsReduced", recurses := true, apart := false }
def FnExactIsReducedSaid : Prop := fnExactIsReducedRow.holds Try.pinned (OpenSpec.ofChange fnExactIsReducedSpec)

/-- ITS FALSE NEIGHBOUR: 'it returns false'. Refute it at one input. -/
def fnExactIsReducedWrong : ChangeSpec := { name := "fnExactIsReduced", fn := fun _ => fun
  | [d] => { results := [.lit (.bool false)], args := [d] }
  | _ => none }
def FnExactIsReducedWrongFalsely : Prop := fnExactIsReducedRow.holds Try.pinned (OpenSpec.ofChange fnExactIsReducedWrong)

/-- 'laws.FnExactSumLattice': WHATEVER THE INPUT: true; the input reads as it did. -/
def fnExactSumLatticeSpec : ChangeSpec := { name := "fnExactSumLattice", fn := fun _ => fun
  | [d1, d2] => { results := [.lit (.bool true)], args := [d1, d2] }
  | _ => none }
def fnExactSumLatticeRow : OpenClaim := { program := "ytpfijhcjempfjaa", sum := "896b4838347b804411c7a49dcbc82f4809bdf3ac6bb49e8b260bf4e37571ba3d", func := "loop.example/g03411/laws.FnExactSumLattice", spec := "fnExactSumLattice", unfollowed := true, recurses := true, apart := false }
def FnExactSumLatticeSaid : Prop := fnExactSumLatticeRow.holds Try.pinned (OpenSpec.ofChange fnExactSumLatticeSpec)

/-- ITS FALSE NEIGHBOUR: 'it returns false'. Refute it at one input. -/
def fnExactSumLatticeWrong : ChangeSpec := { name := "fnExactSumLattice", fn := fun _ => fun
  | [d1, d2] => { results := [.lit (.bool false)], args := [d1, d2] }
  | _ => none }
def FnExactSumLatticeWrongFalsely : Prop := fnExactSumLatticeRow.holds Try.pinned (OpenSpec.ofChange fnExactSumLatticeWrong)

/-- 'laws.FnExactProjectionOf': WHATEVER THE INPUT: true; the input reads as it did. -/
def fnExactProjectionOfSpec : ChangeSpec := { name := "fnExactProjectionOf", fn := fun _ => fun
  | [d1, d2] => { results := [.lit (.bool true)], args := [d1, d2] }
  | _ => none }
def fnExactProjectionOfRow : OpenClaim := { program := "ytpfijhcjempfjaa", sum := "896b4838347b804411c7a49dcbc82f4809bdf3ac6bb49e8b260bf4e37571ba3d", func := "loop.example/g03411/laws.FnExactProjectionOf", spec := "fnExactProjectionOf", recurses := true, apart := false }
def FnExactProjectionOfSaid : Prop := fnExactProjectionOfRow.holds Try.pinned (OpenSpec.ofChange fnExactProjectionOfSpec)

/-- ITS FALSE NEIGHBOUR: 'it returns false'. Refute it at one input. -/
def fnExactProjectionOfWrong : ChangeSpec := { name := "fnExactProjectionOf", fn := fun _ => fun
  | [d1, d2] => { results := [.lit (.bool false)], args := [d1, d2] }
  | _ => none }
def FnExactProjectionOfWrongFalsely : Prop := fnExactProjectionOfRow.holds Try.pinned (OpenSpec.ofChange fnExactProjectionOfWrong)

/- THE SECOND FORM. 'bulk': how many values and letters a reading holds, each counted each time it is reached (what is shared counts as often as it is met; a slice's spare places count too). A statement '..UptoSaid' is the law's where the arguments, and the package variables that the reading takes, are together of bulk at most 1048576: NARROWER than '..Said'. Prove '..Said' where nothing that the law and all that it calls make is longer than what came in: it says more and counts as full. Else prove '..UptoSaid'. A law counts once. -/
mutual
def uptoBulk {H : Type} : DataW H → Nat
  | .lit (.string bytes) => bytes.length + 1
  | .lit _ => 1
  | .nil => 1
  | .ptr d => uptoBulk d + 1
  | .slice elems spare => uptoBulkAll elems + uptoBulkAll spare + 1
  | .agg parts => uptoBulkAll parts + 1
  | .iface _ d => uptoBulk d + 1
  | .map entries => uptoBulkEntries entries + 1
  | .held _ => 1
def uptoBulkAll {H : Type} : List (DataW H) → Nat
  | [] => 0
  | d :: r => uptoBulk d + uptoBulkAll r
def uptoBulkEntries {H : Type} : List (Lit × DataW H) → Nat
  | [] => 0
  | x :: r => uptoBulkEntry x + uptoBulkEntries r
def uptoBulkEntry {H : Type} : Lit × DataW H → Nat
  | (.string bytes, d) => bytes.length + uptoBulk d + 1
  | (_, d) => uptoBulk d + 1
 end
def uptoSmall : (H : Type) → List (DataW H) → Bool := fun _ ds => decide (uptoBulkAll ds ≤ 1048576)
def OpenSpec.upto (s : _root_.Go.ChangeSpec) : _root_.Go.OpenSpec := { _root_.Go.OpenSpec.ofChange s with cond := some uptoSmall }

/-- 'laws.FnExactChangeBasis', WHERE WHAT IT READS IS OF BULK AT MOST 1048576: true; the input reads as it did. -/
def fnExactChangeBasisUptoRow : OpenClaim := { program := "ytpfijhcjempfjaa", sum := "896b4838347b804411c7a49dcbc82f4809bdf3ac6bb49e8b260bf4e37571ba3d", func := "loop.example/g03411/laws.FnExactChangeBasis", spec := "fnExactChangeBasis", apart := false, narrowed := true }
def FnExactChangeBasisUptoSaid : Prop := fnExactChangeBasisUptoRow.holds Try.pinned (OpenSpec.upto fnExactChangeBasisSpec)

/-- 'laws.FnExactScaleLattice', WHERE WHAT IT READS IS OF BULK AT MOST 1048576: true; the input reads as it did. -/
def fnExactScaleLatticeUptoRow : OpenClaim := { program := "ytpfijhcjempfjaa", sum := "896b4838347b804411c7a49dcbc82f4809bdf3ac6bb49e8b260bf4e37571ba3d", func := "loop.example/g03411/laws.FnExactScaleLattice", spec := "fnExactScaleLattice", unfollowed := true, recurses := true, apart := false, narrowed := true }
def FnExactScaleLatticeUptoSaid : Prop := fnExactScaleLatticeUptoRow.holds Try.pinned (OpenSpec.upto fnExactScaleLatticeSpec)

/-- 'laws.FnExactIsDefinite', WHERE WHAT IT READS IS OF BULK AT MOST 1048576: true; the input reads as it did. -/
def fnExactIsDefiniteUptoRow : OpenClaim := { program := "ytpfijhcjempfjaa", sum := "896b4838347b804411c7a49dcbc82f4809bdf3ac6bb49e8b260bf4e37571ba3d", func := "loop.example/g03411/laws.FnExactIsDefinite", spec := "fnExactIsDefinite", recurses := true, apart := false, narrowed := true }
def FnExactIsDefiniteUptoSaid : Prop := fnExactIsDefiniteUptoRow.holds Try.pinned (OpenSpec.upto fnExactIsDefiniteSpec)

/-- 'laws.FnExactCoordinateMatrix', WHERE WHAT IT READS IS OF BULK AT MOST 1048576: true; the input reads as it did. -/
def fnExactCoordinateMatrixUptoRow : OpenClaim := { program := "ytpfijhcjempfjaa", sum := "896b4838347b804411c7a49dcbc82f4809bdf3ac6bb49e8b260bf4e37571ba3d", func := "loop.example/g03411/laws.FnExactCoordinateMatrix", spec := "fnExactCoordinateMatrix", unfollowed := true, recurses := true, apart := false, narrowed := true }
def FnExactCoordinateMatrixUptoSaid : Prop := fnExactCoordinateMatrixUptoRow.holds Try.pinned (OpenSpec.upto fnExactCoordinateMatrixSpec)

/-- 'laws.FnExactBoxOf', WHERE WHAT IT READS IS OF BULK AT MOST 1048576: true; the input reads as it did. -/
def fnExactBoxOfUptoRow : OpenClaim := { program := "ytpfijhcjempfjaa", sum := "896b4838347b804411c7a49dcbc82f4809bdf3ac6bb49e8b260bf4e37571ba3d", func := "loop.example/g03411/laws.FnExactBoxOf", spec := "fnExactBoxOf", recurses := true, apart := false, narrowed := true }
def FnExactBoxOfUptoSaid : Prop := fnExactBoxOfUptoRow.holds Try.pinned (OpenSpec.upto fnExactBoxOfSpec)

/-- 'laws.FnExactSquaresOf', WHERE WHAT IT READS IS OF BULK AT MOST 1048576: true; the input reads as it did. -/
def fnExactSquaresOfUptoRow : OpenClaim := { program := "ytpfijhcjempfjaa", sum := "896b4838347b804411c7a49dcbc82f4809bdf3ac6bb49e8b260bf4e37571ba3d", func := "loop.example/g03411/laws.FnExactSquaresOf", spec := "fnExactSquaresOf", recurses := true, apart := false, narrowed := true }
def FnExactSquaresOfUptoSaid : Prop := fnExactSquaresOfUptoRow.holds Try.pinned (OpenSpec.upto fnExactSquaresOfSpec)

/-- 'laws.FnExactCoefficientOf', WHERE WHAT IT READS IS OF BULK AT MOST 1048576: true; the input reads as it did. -/
def fnExactCoefficientOfUptoRow : OpenClaim := { program := "ytpfijhcjempfjaa", sum := "896b4838347b804411c7a49dcbc82f4809bdf3ac6bb49e8b260bf4e37571ba3d", func := "loop.example/g03411/laws.FnExactCoefficientOf", spec := "fnExactCoefficientOf", recurses := true, apart := false, narrowed := true }
def FnExactCoefficientOfUptoSaid : Prop := fnExactCoefficientOfUptoRow.holds Try.pinned (OpenSpec.upto fnExactCoefficientOfSpec)

/-- 'laws.FnExactSameLattice', WHERE WHAT IT READS IS OF BULK AT MOST 1048576: true; the input reads as it did. -/
def fnExactSameLatticeUptoRow : OpenClaim := { program := "ytpfijhcjempfjaa", sum := "896b4838347b804411c7a49dcbc82f4809bdf3ac6bb49e8b260bf4e37571ba3d", func := "loop.example/g03411/laws.FnExactSameLattice", spec := "fnExactSameLattice", unfollowed := true, recurses := true, apart := false, narrowed := true }
def FnExactSameLatticeUptoSaid : Prop := fnExactSameLatticeUptoRow.holds Try.pinned (OpenSpec.upto fnExactSameLatticeSpec)

/-- 'laws.FnExactCongruenceLattice', WHERE WHAT IT READS IS OF BULK AT MOST 1048576: true; the input reads as it did. -/
def fnExactCongruenceLatticeUptoRow : OpenClaim := { program := "ytpfijhcjempfjaa", sum := "896b4838347b804411c7a49dcbc82f4809bdf3ac6bb49e8b260bf4e37571ba3d", func := "loop.example/g03411/laws.FnExactCongruenceLattice", spec := "fnExactCongruenceLattice", unfollowed := true, recurses := true, apart := false, narrowed := true }
def FnExactCongruenceLatticeUptoSaid : Prop := fnExactCongruenceLatticeUptoRow.holds Try.pinned (OpenSpec.upto fnExactCongruenceLatticeSpec)

/-- 'laws.FnExactIsReduced', WHERE WHAT IT READS IS OF BULK AT MOST 1048576: true; the input reads as it did. -/
def fnExactIsReducedUptoRow : OpenClaim := { program := "ytpfijhcjempfjaa", sum := "896b4838347b804411c7a49dcbc82f4809bdf3ac6bb49e8b260bf4e37571ba3d", func := "loop.example/g03411/laws.FnExactIsReduced", spec := "fnExactIsReduced", recurses := true, apart := false, narrowed := true }
def FnExactIsReducedUptoSaid : Prop := fnExactIsReducedUptoRow.holds Try.pinned (OpenSpec.upto fnExactIsReducedSpec)

/-- 'laws.FnExactSumLattice', WHERE WHAT IT READS IS OF BULK AT MOST 1048576: true; the input reads as it did. -/
def fnExactSumLatticeUptoRow : OpenClaim := { program := "ytpfijhcjempfjaa", sum := "896b4838347b804411c7a49dcbc82f4809bdf3ac6bb49e8b260bf4e37571ba3d", func := "loop.example/g03411/laws.FnExactSumLattice", spec := "fnExactSumLattice", unfollowed := true, recurses := true, apart := false, narrowed := true }
def FnExactSumLatticeUptoSaid : Prop := fnExactSumLatticeUptoRow.holds Try.pinned (OpenSpec.upto fnExactSumLatticeSpec)

/-- 'laws.FnExactProjectionOf', WHERE WHAT IT READS IS OF BULK AT MOST 1048576: true; the input reads as it did. -/
def fnExactProjectionOfUptoRow : OpenClaim := { program := "ytpfijhcjempfjaa", sum := "896b4838347b804411c7a49dcbc82f4809bdf3ac6bb49e8b260bf4e37571ba3d", func := "loop.example/g03411/laws.FnExactProjectionOf", spec := "fnExactProjectionOf", recurses := true, apart := false, narrowed := true }
def FnExactProjectionOfUptoSaid : Prop := fnExactProjectionOfUptoRow.holds Try.pinned (OpenSpec.upto fnExactProjectionOfSpec)

end Rows
end Go.Proofs.Ytpfijhcjempfjaa
