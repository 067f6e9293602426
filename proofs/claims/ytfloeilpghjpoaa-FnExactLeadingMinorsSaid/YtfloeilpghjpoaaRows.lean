/-
  No cell of these rows narrows 'for every input' (looked for: loops, veiled, ifaces, maps, wideKeys, modest, calm, conditions, laid).
  DERIVED. THE GIVEN ROWS OF THIS SEAT. 12 by the template 'for every input the law returns true; each argument reads behind the call as it read before'; 0 by the template 'total and deterministic' (their statements: YtfloeilpghjpoaaTotals.lean).
  GIVEN WITH THE SEED: the statements are not yours to turn. If you find one false, say at which input.
  Laid BY PROGRAM, IN A SANDBOX (cutbox-rows.mjs): the forced cells as the released guide's own fill.sh prints them over the translation 2e2fdf442a6df073… (all of the seat's roots in one cut). By AI agents, Wed Nov 11 2026. No macro, syntax, notation, axiom, sorry.
-/
import Derived.Test.YtfloeilpghjpoaaChecked
import GoSem.Claim
import GoSem.ClaimJoined
import GoSem.ClaimMapViews
import Derived.JoinedTies
import Derived.KernelRfl
namespace Go.Proofs.Ytfloeilpghjpoaa
/- THE CELL 'sum', in the pinned program and in every row, IS THE sha256 OF THE DUMP (.gsa) THAT YtfloeilpghjpoaaProg.lean LOADS. Nothing in Lean hashes anything: it is a label: what it is worth is what the hold of that sum in a sandbox is worth. -/
noncomputable def Try.pinned : Pinned := { name := "ytfloeilpghjpoaa", sum := "2e2fdf442a6df073ab2630b32f1755f95ef05ed77e0b0daaf0ecc5e8ae563e7c", checked := Try.checked }
namespace Rows
def none {H : Type} : Left H := { results := [], args := [] }

/-- 'laws.FnExactIsDiscriminant': WHATEVER THE INPUT: true; the input reads as it did. -/
def fnExactIsDiscriminantSpec : ChangeSpec := { name := "fnExactIsDiscriminant", fn := fun _ => fun
  | [d] => { results := [.lit (.bool true)], args := [d] }
  | _ => none }
def fnExactIsDiscriminantRow : OpenClaim := { program := "ytfloeilpghjpoaa", sum := "2e2fdf442a6df073ab2630b32f1755f95ef05ed77e0b0daaf0ecc5e8ae563e7c", func := "loop.example/g03411/laws.FnExactIsDiscriminant", spec := "fnExactIsDiscriminant", apart := false }
def FnExactIsDiscriminantSaid : Prop := fnExactIsDiscriminantRow.holds Try.pinned (OpenSpec.ofChange fnExactIsDiscriminantSpec)

/-- ITS FALSE NEIGHBOUR: 'it returns false'. Refute it at one input. -/
def fnExactIsDiscriminantWrong : ChangeSpec := { name := "fnExactIsDiscriminant", fn := fun _ => fun
  | [d] => { results := [.lit (.bool false)], args := [d] }
  | _ => none }
def FnExactIsDiscriminantWrongFalsely : Prop := fnExactIsDiscriminantRow.holds Try.pinned (OpenSpec.ofChange fnExactIsDiscriminantWrong)

/-- 'laws.FnExactIsForm': WHATEVER THE INPUT: true; the input reads as it did. -/
def fnExactIsFormSpec : ChangeSpec := { name := "fnExactIsForm", fn := fun _ => fun
  | [d] => { results := [.lit (.bool true)], args := [d] }
  | _ => none }
def fnExactIsFormRow : OpenClaim := { program := "ytfloeilpghjpoaa", sum := "2e2fdf442a6df073ab2630b32f1755f95ef05ed77e0b0daaf0ecc5e8ae563e7c", func := "loop.example/g03411/laws.FnExactIsForm", spec := "fnExactIsForm", apart := false }
def FnExactIsFormSaid : Prop := fnExactIsFormRow.holds Try.pinned (OpenSpec.ofChange fnExactIsFormSpec)

/-- ITS FALSE NEIGHBOUR: 'it returns false'. Refute it at one input. -/
def fnExactIsFormWrong : ChangeSpec := { name := "fnExactIsForm", fn := fun _ => fun
  | [d] => { results := [.lit (.bool false)], args := [d] }
  | _ => none }
def FnExactIsFormWrongFalsely : Prop := fnExactIsFormRow.holds Try.pinned (OpenSpec.ofChange fnExactIsFormWrong)

/-- 'laws.FnExactDiscriminantOf': WHATEVER THE INPUT: true; the input reads as it did. -/
def fnExactDiscriminantOfSpec : ChangeSpec := { name := "fnExactDiscriminantOf", fn := fun _ => fun
  | [d] => { results := [.lit (.bool true)], args := [d] }
  | _ => none }
def fnExactDiscriminantOfRow : OpenClaim := { program := "ytfloeilpghjpoaa", sum := "2e2fdf442a6df073ab2630b32f1755f95ef05ed77e0b0daaf0ecc5e8ae563e7c", func := "loop.example/g03411/laws.FnExactDiscriminantOf", spec := "fnExactDiscriminantOf", apart := false }
def FnExactDiscriminantOfSaid : Prop := fnExactDiscriminantOfRow.holds Try.pinned (OpenSpec.ofChange fnExactDiscriminantOfSpec)

/-- ITS FALSE NEIGHBOUR: 'it returns false'. Refute it at one input. -/
def fnExactDiscriminantOfWrong : ChangeSpec := { name := "fnExactDiscriminantOf", fn := fun _ => fun
  | [d] => { results := [.lit (.bool false)], args := [d] }
  | _ => none }
def FnExactDiscriminantOfWrongFalsely : Prop := fnExactDiscriminantOfRow.holds Try.pinned (OpenSpec.ofChange fnExactDiscriminantOfWrong)

/-- 'laws.FnExactIsReducedForm': WHATEVER THE INPUT: true; the input reads as it did. -/
def fnExactIsReducedFormSpec : ChangeSpec := { name := "fnExactIsReducedForm", fn := fun _ => fun
  | [d] => { results := [.lit (.bool true)], args := [d] }
  | _ => none }
def fnExactIsReducedFormRow : OpenClaim := { program := "ytfloeilpghjpoaa", sum := "2e2fdf442a6df073ab2630b32f1755f95ef05ed77e0b0daaf0ecc5e8ae563e7c", func := "loop.example/g03411/laws.FnExactIsReducedForm", spec := "fnExactIsReducedForm", apart := false }
def FnExactIsReducedFormSaid : Prop := fnExactIsReducedFormRow.holds Try.pinned (OpenSpec.ofChange fnExactIsReducedFormSpec)

/-- ITS FALSE NEIGHBOUR: 'it returns false'. Refute it at one input. -/
def fnExactIsReducedFormWrong : ChangeSpec := { name := "fnExactIsReducedForm", fn := fun _ => fun
  | [d] => { results := [.lit (.bool false)], args := [d] }
  | _ => none }
def FnExactIsReducedFormWrongFalsely : Prop := fnExactIsReducedFormRow.holds Try.pinned (OpenSpec.ofChange fnExactIsReducedFormWrong)

/-- 'laws.FnExactJoinTheta': WHATEVER THE INPUT: true; the input reads as it did. -/
def fnExactJoinThetaSpec : ChangeSpec := { name := "fnExactJoinTheta", fn := fun _ => fun
  | [d1, d2] => { results := [.lit (.bool true)], args := [d1, d2] }
  | _ => none }
def fnExactJoinThetaRow : OpenClaim := { program := "ytfloeilpghjpoaa", sum := "2e2fdf442a6df073ab2630b32f1755f95ef05ed77e0b0daaf0ecc5e8ae563e7c", func := "loop.example/g03411/laws.FnExactJoinTheta", spec := "fnExactJoinTheta", apart := false }
def FnExactJoinThetaSaid : Prop := fnExactJoinThetaRow.holds Try.pinned (OpenSpec.ofChange fnExactJoinThetaSpec)

/-- ITS FALSE NEIGHBOUR: 'it returns false'. Refute it at one input. -/
def fnExactJoinThetaWrong : ChangeSpec := { name := "fnExactJoinTheta", fn := fun _ => fun
  | [d1, d2] => { results := [.lit (.bool false)], args := [d1, d2] }
  | _ => none }
def FnExactJoinThetaWrongFalsely : Prop := fnExactJoinThetaRow.holds Try.pinned (OpenSpec.ofChange fnExactJoinThetaWrong)

/-- 'laws.FnExactIsGram': WHATEVER THE INPUT: true; the input reads as it did. -/
def fnExactIsGramSpec : ChangeSpec := { name := "fnExactIsGram", fn := fun _ => fun
  | [d] => { results := [.lit (.bool true)], args := [d] }
  | _ => none }
def fnExactIsGramRow : OpenClaim := { program := "ytfloeilpghjpoaa", sum := "2e2fdf442a6df073ab2630b32f1755f95ef05ed77e0b0daaf0ecc5e8ae563e7c", func := "loop.example/g03411/laws.FnExactIsGram", spec := "fnExactIsGram", apart := false }
def FnExactIsGramSaid : Prop := fnExactIsGramRow.holds Try.pinned (OpenSpec.ofChange fnExactIsGramSpec)

/-- ITS FALSE NEIGHBOUR: 'it returns false'. Refute it at one input. -/
def fnExactIsGramWrong : ChangeSpec := { name := "fnExactIsGram", fn := fun _ => fun
  | [d] => { results := [.lit (.bool false)], args := [d] }
  | _ => none }
def FnExactIsGramWrongFalsely : Prop := fnExactIsGramRow.holds Try.pinned (OpenSpec.ofChange fnExactIsGramWrong)

/-- 'laws.FnExactIsEven': WHATEVER THE INPUT: true; the input reads as it did. -/
def fnExactIsEvenSpec : ChangeSpec := { name := "fnExactIsEven", fn := fun _ => fun
  | [d] => { results := [.lit (.bool true)], args := [d] }
  | _ => none }
def fnExactIsEvenRow : OpenClaim := { program := "ytfloeilpghjpoaa", sum := "2e2fdf442a6df073ab2630b32f1755f95ef05ed77e0b0daaf0ecc5e8ae563e7c", func := "loop.example/g03411/laws.FnExactIsEven", spec := "fnExactIsEven", apart := false }
def FnExactIsEvenSaid : Prop := fnExactIsEvenRow.holds Try.pinned (OpenSpec.ofChange fnExactIsEvenSpec)

/-- ITS FALSE NEIGHBOUR: 'it returns false'. Refute it at one input. -/
def fnExactIsEvenWrong : ChangeSpec := { name := "fnExactIsEven", fn := fun _ => fun
  | [d] => { results := [.lit (.bool false)], args := [d] }
  | _ => none }
def FnExactIsEvenWrongFalsely : Prop := fnExactIsEvenRow.holds Try.pinned (OpenSpec.ofChange fnExactIsEvenWrong)

/-- 'laws.FnExactDistanceOf': WHATEVER THE INPUT: true; the input reads as it did. -/
def fnExactDistanceOfSpec : ChangeSpec := { name := "fnExactDistanceOf", fn := fun _ => fun
  | [d1, d2, d3] => { results := [.lit (.bool true)], args := [d1, d2, d3] }
  | _ => none }
def fnExactDistanceOfRow : OpenClaim := { program := "ytfloeilpghjpoaa", sum := "2e2fdf442a6df073ab2630b32f1755f95ef05ed77e0b0daaf0ecc5e8ae563e7c", func := "loop.example/g03411/laws.FnExactDistanceOf", spec := "fnExactDistanceOf", apart := false }
def FnExactDistanceOfSaid : Prop := fnExactDistanceOfRow.holds Try.pinned (OpenSpec.ofChange fnExactDistanceOfSpec)

/-- ITS FALSE NEIGHBOUR: 'it returns false'. Refute it at one input. -/
def fnExactDistanceOfWrong : ChangeSpec := { name := "fnExactDistanceOf", fn := fun _ => fun
  | [d1, d2, d3] => { results := [.lit (.bool false)], args := [d1, d2, d3] }
  | _ => none }
def FnExactDistanceOfWrongFalsely : Prop := fnExactDistanceOfRow.holds Try.pinned (OpenSpec.ofChange fnExactDistanceOfWrong)

/-- 'laws.FnExactGramOf': WHATEVER THE INPUT: true; the input reads as it did. -/
def fnExactGramOfSpec : ChangeSpec := { name := "fnExactGramOf", fn := fun _ => fun
  | [d] => { results := [.lit (.bool true)], args := [d] }
  | _ => none }
def fnExactGramOfRow : OpenClaim := { program := "ytfloeilpghjpoaa", sum := "2e2fdf442a6df073ab2630b32f1755f95ef05ed77e0b0daaf0ecc5e8ae563e7c", func := "loop.example/g03411/laws.FnExactGramOf", spec := "fnExactGramOf", apart := false }
def FnExactGramOfSaid : Prop := fnExactGramOfRow.holds Try.pinned (OpenSpec.ofChange fnExactGramOfSpec)

/-- ITS FALSE NEIGHBOUR: 'it returns false'. Refute it at one input. -/
def fnExactGramOfWrong : ChangeSpec := { name := "fnExactGramOf", fn := fun _ => fun
  | [d] => { results := [.lit (.bool false)], args := [d] }
  | _ => none }
def FnExactGramOfWrongFalsely : Prop := fnExactGramOfRow.holds Try.pinned (OpenSpec.ofChange fnExactGramOfWrong)

/-- 'laws.FnExactDirectSum': WHATEVER THE INPUT: true; the input reads as it did. -/
def fnExactDirectSumSpec : ChangeSpec := { name := "fnExactDirectSum", fn := fun _ => fun
  | [d1, d2] => { results := [.lit (.bool true)], args := [d1, d2] }
  | _ => none }
def fnExactDirectSumRow : OpenClaim := { program := "ytfloeilpghjpoaa", sum := "2e2fdf442a6df073ab2630b32f1755f95ef05ed77e0b0daaf0ecc5e8ae563e7c", func := "loop.example/g03411/laws.FnExactDirectSum", spec := "fnExactDirectSum", apart := false }
def FnExactDirectSumSaid : Prop := fnExactDirectSumRow.holds Try.pinned (OpenSpec.ofChange fnExactDirectSumSpec)

/-- ITS FALSE NEIGHBOUR: 'it returns false'. Refute it at one input. -/
def fnExactDirectSumWrong : ChangeSpec := { name := "fnExactDirectSum", fn := fun _ => fun
  | [d1, d2] => { results := [.lit (.bool false)], args := [d1, d2] }
  | _ => none }
def FnExactDirectSumWrongFalsely : Prop := fnExactDirectSumRow.holds Try.pinned (OpenSpec.ofChange fnExactDirectSumWrong)

/-- 'laws.FnExactValueAt': WHATEVER THE INPUT: true; the input reads as it did. -/
def fnExactValueAtSpec : ChangeSpec := { name := "fnExactValueAt", fn := fun _ => fun
  | [d1, d2] => { results := [.lit (.bool true)], args := [d1, d2] }
  | _ => none }
def fnExactValueAtRow : OpenClaim := { program := "ytfloeilpghjpoaa", sum := "2e2fdf442a6df073ab2630b32f1755f95ef05ed77e0b0daaf0ecc5e8ae563e7c", func := "loop.example/g03411/laws.FnExactValueAt", spec := "fnExactValueAt", apart := false }
def FnExactValueAtSaid : Prop := fnExactValueAtRow.holds Try.pinned (OpenSpec.ofChange fnExactValueAtSpec)

/-- ITS FALSE NEIGHBOUR: 'it returns false'. Refute it at one input. -/
def fnExactValueAtWrong : ChangeSpec := { name := "fnExactValueAt", fn := fun _ => fun
  | [d1, d2] => { results := [.lit (.bool false)], args := [d1, d2] }
  | _ => none }
def FnExactValueAtWrongFalsely : Prop := fnExactValueAtRow.holds Try.pinned (OpenSpec.ofChange fnExactValueAtWrong)

/-- 'laws.FnExactLeadingMinors': WHATEVER THE INPUT: true; the input reads as it did. -/
def fnExactLeadingMinorsSpec : ChangeSpec := { name := "fnExactLeadingMinors", fn := fun _ => fun
  | [d] => { results := [.lit (.bool true)], args := [d] }
  | _ => none }
def fnExactLeadingMinorsRow : OpenClaim := { program := "ytfloeilpghjpoaa", sum := "2e2fdf442a6df073ab2630b32f1755f95ef05ed77e0b0daaf0ecc5e8ae563e7c", func := "loop.example/g03411/laws.FnExactLeadingMinors", spec := "fnExactLeadingMinors", recurses := true, apart := false }
def FnExactLeadingMinorsSaid : Prop := fnExactLeadingMinorsRow.holds Try.pinned (OpenSpec.ofChange fnExactLeadingMinorsSpec)

/-- ITS FALSE NEIGHBOUR: 'it returns false'. Refute it at one input. -/
def fnExactLeadingMinorsWrong : ChangeSpec := { name := "fnExactLeadingMinors", fn := fun _ => fun
  | [d] => { results := [.lit (.bool false)], args := [d] }
  | _ => none }
def FnExactLeadingMinorsWrongFalsely : Prop := fnExactLeadingMinorsRow.holds Try.pinned (OpenSpec.ofChange fnExactLeadingMinorsWrong)

/- THE SECOND FORM. 'bulk': how many values and letters a reading holds, each counted each time it is reached (what is shared counts as often as it is met; a slice's spare places count too). A statement '..UptoSaid' is the law's where the arguments, and the package variables that the reading takes, are together of bulk at most 1048576: NARROWER than '..Said'. Prove '..Said' where nothing that the law and all that it calls make is longer than what came in: it says more and counts as full. Else prove '..UptoSaid'. A law counts once. -/
mutual
def uptoBulk {H : Type} : DataW H → Nat
  | .lit (.string bytes) => bytes.length + 1
  | .lit _ => 1
  | .nil => 1
  | .ptr d => uptoBulk d + 1
  | .slice elems spare => uptoBulkAll elems + uptoBulkAll spare + 1
  | .agg parts => uptoBulkAll parts + 1
  | .iface _ d => uptoBulk d + 1
  | .map entries => uptoBulkEntries entries + 1
  | .held _ => 1
def uptoBulkAll {H : Type} : List (DataW H) → Nat
  | [] => 0
  | d :: r => uptoBulk d + uptoBulkAll r
def uptoBulkEntries {H : Type} : List (Lit × DataW H) → Nat
  | [] => 0
  | x :: r => uptoBulkEntry x + uptoBulkEntries r
def uptoBulkEntry {H : Type} : Lit × DataW H → Nat
  | (.string bytes, d) => bytes.length + uptoBulk d + 1
  | (_, d) => uptoBulk d + 1
 end
def uptoSmall : (H : Type) → List (DataW H) → Bool := fun _ ds => decide (uptoBulkAll ds ≤ 1048576)
def OpenSpec.upto (s : _root_.Go.ChangeSpec) : _root_.Go.OpenSpec := { _root_.Go.OpenSpec.ofChange s with cond := some uptoSmall }

/-- 'laws.FnExactIsDiscriminant', WHERE WHAT IT READS IS OF BULK AT MOST 1048576: true; the input reads as it did. -/
def fnExactIsDiscriminantUptoRow : OpenClaim := { program := "ytfloeilpghjpoaa", sum := "2e2fdf442a6df073ab2630b32f1755f95ef05ed77e0b0daaf0ecc5e8ae563e7c", func := "loop.example/g03411/laws.FnExactIsDiscriminant", spec := "fnExactIsDiscriminant", apart := false, narrowed := true }
def FnExactIsDiscriminantUptoSaid : Prop := fnExactIsDiscriminantUptoRow.holds Try.pinned (OpenSpec.upto fnExactIsDiscriminantSpec)

/-- 'laws.FnExactIsForm', WHERE WHAT IT READS IS OF BULK AT MOST 1048576: true; the input reads as it did. -/
def fnExactIsFormUptoRow : OpenClaim := { program := "ytfloeilpghjpoaa", sum := "2e2fdf442a6df073ab2630b32f1755f95ef05ed77e0b0daaf0ecc5e8ae563e7c", func := "loop.example/g03411/laws.FnExactIsForm", spec := "fnExactIsForm", apart := false, narrowed := true }
def FnExactIsFormUptoSaid : Prop := fnExactIsFormUptoRow.holds Try.pinned (OpenSpec.upto fnExactIsFormSpec)

/-- 'laws.FnExactDiscriminantOf', WHERE WHAT IT READS IS OF BULK AT MOST 1048576: true; the input reads as it did. -/
def fnExactDiscriminantOfUptoRow : OpenClaim := { program := "ytfloeilpghjpoaa", sum := "2e2fdf442a6df073ab2630b32f1755f95ef05ed77e0b0daaf0ecc5e8ae563e7c", func := "loop.example/g03411/laws.FnExactDiscriminantOf", spec := "fnExactDiscriminantOf", apart := false, narrowed := true }
def FnExactDiscriminantOfUptoSaid : Prop := fnExactDiscriminantOfUptoRow.holds Try.pinned (OpenSpec.upto fnExactDiscriminantOfSpec)

/-- 'laws.FnExactIsReducedForm', WHERE WHAT IT READS IS OF BULK AT MOST 1048576: true; the input reads as it did. -/
def fnExactIsReducedFormUptoRow : OpenClaim := { program := "ytfloeilpghjpoaa", sum := "2e2fdf442a6df073ab2630b32f1755f95ef05ed77e0b0daaf0ecc5e8ae563e7c", func := "loop.example/g03411/laws.FnExactIsReducedForm", spec := "fnExactIsReducedForm", apart := false, narrowed := true }
def FnExactIsReducedFormUptoSaid : Prop := fnExactIsReducedFormUptoRow.holds Try.pinned (OpenSpec.upto fnExactIsReducedFormSpec)

/-- 'laws.FnExactJoinTheta', WHERE WHAT IT READS IS OF BULK AT MOST 1048576: true; the input reads as it did. -/
def fnExactJoinThetaUptoRow : OpenClaim := { program := "ytfloeilpghjpoaa", sum := "2e2fdf442a6df073ab2630b32f1755f95ef05ed77e0b0daaf0ecc5e8ae563e7c", func := "loop.example/g03411/laws.FnExactJoinTheta", spec := "fnExactJoinTheta", apart := false, narrowed := true }
def FnExactJoinThetaUptoSaid : Prop := fnExactJoinThetaUptoRow.holds Try.pinned (OpenSpec.upto fnExactJoinThetaSpec)

/-- 'laws.FnExactIsGram', WHERE WHAT IT READS IS OF BULK AT MOST 1048576: true; the input reads as it did. -/
def fnExactIsGramUptoRow : OpenClaim := { program := "ytfloeilpghjpoaa", sum := "2e2fdf442a6df073ab2630b32f1755f95ef05ed77e0b0daaf0ecc5e8ae563e7c", func := "loop.example/g03411/laws.FnExactIsGram", spec := "fnExactIsGram", apart := false, narrowed := true }
def FnExactIsGramUptoSaid : Prop := fnExactIsGramUptoRow.holds Try.pinned (OpenSpec.upto fnExactIsGramSpec)

/-- 'laws.FnExactIsEven', WHERE WHAT IT READS IS OF BULK AT MOST 1048576: true; the input reads as it did. -/
def fnExactIsEvenUptoRow : OpenClaim := { program := "ytfloeilpghjpoaa", sum := "2e2fdf442a6df073ab2630b32f1755f95ef05ed77e0b0daaf0ecc5e8ae563e7c", func := "loop.example/g03411/laws.FnExactIsEven", spec := "fnExactIsEven", apart := false, narrowed := true }
def FnExactIsEvenUptoSaid : Prop := fnExactIsEvenUptoRow.holds Try.pinned (OpenSpec.upto fnExactIsEvenSpec)

/-- 'laws.FnExactDistanceOf', WHERE WHAT IT READS IS OF BULK AT MOST 1048576: true; the input reads as it did. -/
def fnExactDistanceOfUptoRow : OpenClaim := { program := "ytfloeilpghjpoaa", sum := "2e2fdf442a6df073ab2630b32f1755f95ef05ed77e0b0daaf0ecc5e8ae563e7c", func := "loop.example/g03411/laws.FnExactDistanceOf", spec := "fnExactDistanceOf", apart := false, narrowed := true }
def FnExactDistanceOfUptoSaid : Prop := fnExactDistanceOfUptoRow.holds Try.pinned (OpenSpec.upto fnExactDistanceOfSpec)

/-- 'laws.FnExactGramOf', WHERE WHAT IT READS IS OF BULK AT MOST 1048576: true; the input reads as it did. -/
def fnExactGramOfUptoRow : OpenClaim := { program := "ytfloeilpghjpoaa", sum := "2e2fdf442a6df073ab2630b32f1755f95ef05ed77e0b0daaf0ecc5e8ae563e7c", func := "loop.example/g03411/laws.FnExactGramOf", spec := "fnExactGramOf", apart := false, narrowed := true }
def FnExactGramOfUptoSaid : Prop := fnExactGramOfUptoRow.holds Try.pinned (OpenSpec.upto fnExactGramOfSpec)

/-- 'laws.FnExactDirectSum', WHERE WHAT IT READS IS OF BULK AT MOST 1048576: true; the input reads as it did. -/
def fnExactDirectSumUptoRow : OpenClaim := { program := "ytfloeilpghjpoaa", sum := "2e2fdf442a6df073ab2630b32f1755f95ef05ed77e0b0daaf0ecc5e8ae563e7c", func := "loop.example/g03411/laws.FnExactDirectSum", spec := "fnExactDirectSum", apart := false, narrowed := true }
def FnExactDirectSumUptoSaid : Prop := fnExactDirectSumUptoRow.holds Try.pinned (OpenSpec.upto fnExactDirectSumSpec)

/-- 'laws.FnExactValueAt', WHERE WHAT IT READS IS OF BULK AT MOST 1048576: true; the input reads as it did. -/
def fnExactValueAtUptoRow : OpenClaim := { program := "ytfloeilpghjpoaa", sum := "2e2fdf442a6df073ab2630b32f1755f95ef05ed77e0b0daaf0ecc5e8ae563e7c", func := "loop.example/g03411/laws.FnExactValueAt", spec := "fnExactValueAt", apart := false, narrowed := true }
def FnExactValueAtUptoSaid : Prop := fnExactValueAtUptoRow.holds Try.pinned (OpenSpec.upto fnExactValueAtSpec)

/-- 'laws.FnExactLeadingMinors', WHERE WHAT IT READS IS OF BULK AT MOST 1048576: true; the input reads as it did. -/
def fnExactLeadingMinorsUptoRow : OpenClaim := { program := "ytfloeilpghjpoaa", sum := "2e2fdf442a6df073ab2630b32f1755f95ef05ed77e0b0daaf0ecc5e8ae563e7c", func := "loop.example/g03411/laws.FnExactLeadingMinors", spec := "fnExactLeadingMinors", recurses := true, apart := false, narrowed := true }
def FnExactLeadingMinorsUptoSaid : Prop := fnExactLeadingMinorsUptoRow.holds Try.pinned (OpenSpec.upto fnExactLeadingMinorsSpec)

end Rows
end Go.Proofs.Ytfloeilpghjpoaa
