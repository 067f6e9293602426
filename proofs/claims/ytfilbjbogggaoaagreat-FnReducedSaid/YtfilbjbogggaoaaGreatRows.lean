/-
  No cell of these rows narrows 'for every input' (looked for: loops, veiled, ifaces, maps, wideKeys, modest, calm, conditions, laid).
  DERIVED. THE GIVEN ROWS OF THIS SEAT. 6 by the template 'for every input the law returns true; each argument reads behind the call as it read before'; 0 by the template 'total and deterministic' (their statements: YtfilbjbogggaoaaGreatTotals.lean).
  GIVEN WITH THE SEED: the statements are not yours to turn. If you find one false, say at which input.
  Laid BY PROGRAM, IN A SANDBOX (cutbox-rows.mjs): the forced cells as the released guide's own fill.sh prints them over the translation 1331698cd037d090… (all of the seat's roots in one cut). By AI agents, Wed Nov 11 2026. No macro, syntax, notation, axiom, sorry.
-/
import Derived.Test.YtfilbjbogggaoaaGreatChecked
import GoSem.Claim
import GoSem.ClaimJoined
import GoSem.ClaimMapViews
import Derived.JoinedTies
import Derived.KernelRfl
namespace Go.Proofs.YtfilbjbogggaoaaGreat
/- THE CELL 'sum', in the pinned program and in every row, IS THE sha256 OF THE DUMP (.gsa) THAT YtfilbjbogggaoaaGreatProg.lean LOADS. Nothing in Lean hashes anything: it is a label: what it is worth is what the hold of that sum in a sandbox is worth. -/
noncomputable def Tryz.pinned : Pinned := { name := "ytfilbjbogggaoaagreat", sum := "1331698cd037d09041898f1f69012d36dfd311ef9d919061c570f6a0af751bbc", checked := Tryz.checked }
namespace Rows
def none {H : Type} : Left H := { results := [], args := [] }

/-- 'laws.FnShort': WHATEVER THE INPUT: true; the input reads as it did. -/
def fnShortSpec : ChangeSpec := { name := "fnShort", fn := fun _ => fun
  | [d] => { results := [.lit (.bool true)], args := [d] }
  | _ => none }
def fnShortRow : OpenClaim := { program := "ytfilbjbogggaoaagreat", sum := "1331698cd037d09041898f1f69012d36dfd311ef9d919061c570f6a0af751bbc", func := "loop.example/g03411/laws.FnShort", spec := "fnShort", unfollowed := true, recurses := true, apart := false }
def FnShortSaid : Prop := fnShortRow.holds Tryz.pinned (OpenSpec.ofChange fnShortSpec)

/-- ITS FALSE NEIGHBOUR: 'it returns false'. Refute it at one input. -/
def fnShortWrong : ChangeSpec := { name := "fnShort", fn := fun _ => fun
  | [d] => { results := [.lit (.bool false)], args := [d] }
  | _ => none }
def FnShortWrongFalsely : Prop := fnShortRow.holds Tryz.pinned (OpenSpec.ofChange fnShortWrong)

/-- 'laws.FnReduced': WHATEVER THE INPUT: true; the input reads as it did. -/
def fnReducedSpec : ChangeSpec := { name := "fnReduced", fn := fun _ => fun
  | [d] => { results := [.lit (.bool true)], args := [d] }
  | _ => none }
def fnReducedRow : OpenClaim := { program := "ytfilbjbogggaoaagreat", sum := "1331698cd037d09041898f1f69012d36dfd311ef9d919061c570f6a0af751bbc", func := "loop.example/g03411/laws.FnReduced", spec := "fnReduced", unfollowed := true, recurses := true, apart := false }
def FnReducedSaid : Prop := fnReducedRow.holds Tryz.pinned (OpenSpec.ofChange fnReducedSpec)

/-- ITS FALSE NEIGHBOUR: 'it returns false'. Refute it at one input. -/
def fnReducedWrong : ChangeSpec := { name := "fnReduced", fn := fun _ => fun
  | [d] => { results := [.lit (.bool false)], args := [d] }
  | _ => none }
def FnReducedWrongFalsely : Prop := fnReducedRow.holds Tryz.pinned (OpenSpec.ofChange fnReducedWrong)

/-- 'laws.FnReducedBasis': WHATEVER THE INPUT: true; the input reads as it did. -/
def fnReducedBasisSpec : ChangeSpec := { name := "fnReducedBasis", fn := fun _ => fun
  | [d] => { results := [.lit (.bool true)], args := [d] }
  | _ => none }
def fnReducedBasisRow : OpenClaim := { program := "ytfilbjbogggaoaagreat", sum := "1331698cd037d09041898f1f69012d36dfd311ef9d919061c570f6a0af751bbc", func := "loop.example/g03411/laws.FnReducedBasis", spec := "fnReducedBasis", unfollowed := true, recurses := true, apart := false }
def FnReducedBasisSaid : Prop := fnReducedBasisRow.holds Tryz.pinned (OpenSpec.ofChange fnReducedBasisSpec)

/-- ITS FALSE NEIGHBOUR: 'it returns false'. Refute it at one input. -/
def fnReducedBasisWrong : ChangeSpec := { name := "fnReducedBasis", fn := fun _ => fun
  | [d] => { results := [.lit (.bool false)], args := [d] }
  | _ => none }
def FnReducedBasisWrongFalsely : Prop := fnReducedBasisRow.holds Tryz.pinned (OpenSpec.ofChange fnReducedBasisWrong)

/-- 'laws.FnExactShortByTree': WHATEVER THE INPUT: true; the input reads as it did. -/
def fnExactShortByTreeSpec : ChangeSpec := { name := "fnExactShortByTree", fn := fun _ => fun
  | [d1, d2] => { results := [.lit (.bool true)], args := [d1, d2] }
  | _ => none }
def fnExactShortByTreeRow : OpenClaim := { program := "ytfilbjbogggaoaagreat", sum := "1331698cd037d09041898f1f69012d36dfd311ef9d919061c570f6a0af751bbc", func := "loop.example/g03411/laws.FnExactShortByTree", spec := "fnExactShortByTree", unfollowed := true, recurses := true, apart := false }
def FnExactShortByTreeSaid : Prop := fnExactShortByTreeRow.holds Tryz.pinned (OpenSpec.ofChange fnExactShortByTreeSpec)

/-- ITS FALSE NEIGHBOUR: 'it returns false'. Refute it at one input. -/
def fnExactShortByTreeWrong : ChangeSpec := { name := "fnExactShortByTree", fn := fun _ => fun
  | [d1, d2] => { results := [.lit (.bool false)], args := [d1, d2] }
  | _ => none }
def FnExactShortByTreeWrongFalsely : Prop := fnExactShortByTreeRow.holds Tryz.pinned (OpenSpec.ofChange fnExactShortByTreeWrong)

/-- 'laws.FnMinimum': WHATEVER THE INPUT: true; the input reads as it did. -/
def fnMinimumSpec : ChangeSpec := { name := "fnMinimum", fn := fun _ => fun
  | [d] => { results := [.lit (.bool true)], args := [d] }
  | _ => none }
def fnMinimumRow : OpenClaim := { program := "ytfilbjbogggaoaagreat", sum := "1331698cd037d09041898f1f69012d36dfd311ef9d919061c570f6a0af751bbc", func := "loop.example/g03411/laws.FnMinimum", spec := "fnMinimum", unfollowed := true, recurses := true, apart := false }
def FnMinimumSaid : Prop := fnMinimumRow.holds Tryz.pinned (OpenSpec.ofChange fnMinimumSpec)

/-- ITS FALSE NEIGHBOUR: 'it returns false'. Refute it at one input. -/
def fnMinimumWrong : ChangeSpec := { name := "fnMinimum", fn := fun _ => fun
  | [d] => { results := [.lit (.bool false)], args := [d] }
  | _ => none }
def FnMinimumWrongFalsely : Prop := fnMinimumRow.holds Tryz.pinned (OpenSpec.ofChange fnMinimumWrong)

/-- 'laws.FnTheta': WHATEVER THE INPUT: true; the input reads as it did. -/
def fnThetaSpec : ChangeSpec := { name := "fnTheta", fn := fun _ => fun
  | [d] => { results := [.lit (.bool true)], args := [d] }
  | _ => none }
def fnThetaRow : OpenClaim := { program := "ytfilbjbogggaoaagreat", sum := "1331698cd037d09041898f1f69012d36dfd311ef9d919061c570f6a0af751bbc", func := "loop.example/g03411/laws.FnTheta", spec := "fnTheta", unfollowed := true, recurses := true, apart := false }
def FnThetaSaid : Prop := fnThetaRow.holds Tryz.pinned (OpenSpec.ofChange fnThetaSpec)

/-- ITS FALSE NEIGHBOUR: 'it returns false'. Refute it at one input. -/
def fnThetaWrong : ChangeSpec := { name := "fnTheta", fn := fun _ => fun
  | [d] => { results := [.lit (.bool false)], args := [d] }
  | _ => none }
def FnThetaWrongFalsely : Prop := fnThetaRow.holds Tryz.pinned (OpenSpec.ofChange fnThetaWrong)

/- THE SECOND FORM. 'bulk': how many values and letters a reading holds, each counted each time it is reached (what is shared counts as often as it is met; a slice's spare places count too). A statement '..UptoSaid' is the law's where the arguments, and the package variables that the reading takes, are together of bulk at most 1048576: NARROWER than '..Said'. Prove '..Said' where nothing that the law and all that it calls make is longer than what came in: it says more and counts as full. Else prove '..UptoSaid'. A law counts once. -/
mutual
def uptoBulk {H : Type} : DataW H → Nat
  | .lit (.string bytes) => bytes.length + 1
  | .lit _ => 1
  | .nil => 1
  | .ptr d => uptoBulk d + 1
  | .slice elems spare => uptoBulkAll elems + uptoBulkAll spare + 1
  | .agg parts => uptoBulkAll parts + 1
  | .iface _ d => uptoBulk d + 1
  | .map entries => uptoBulkEntries entries + 1
  | .held _ => 1
def uptoBulkAll {H : Type} : List (DataW H) → Nat
  | [] => 0
  | d :: r => uptoBulk d + uptoBulkAll r
def uptoBulkEntries {H : Type} : List (Lit × DataW H) → Nat
  | [] => 0
  | x :: r => uptoBulkEntry x + uptoBulkEntries r
def uptoBulkEntry {H : Type} : Lit × DataW H → Nat
  | (.string bytes, d) => bytes.length + uptoBulk d + 1
  | (_, d) => uptoBulk d + 1
 end
def uptoSmall : (H : Type) → List (DataW H) → Bool := fun _ ds => decide (uptoBulkAll ds ≤ 1048576)
def OpenSpec.upto (s : _root_.Go.ChangeSpec) : _root_.Go.OpenSpec := { _root_.Go.OpenSpec.ofChange s with cond := some uptoSmall }

/-- 'laws.FnShort', WHERE WHAT IT READS IS OF BULK AT MOST 1048576: true; the input reads as it did. -/
def fnShortUptoRow : OpenClaim := { program := "ytfilbjbogggaoaagreat", sum := "1331698cd037d09041898f1f69012d36dfd311ef9d919061c570f6a0af751bbc", func := "loop.example/g03411/laws.FnShort", spec := "fnShort", unfollowed := true, recurses := true, apart := false, narrowed := true }
def FnShortUptoSaid : Prop := fnShortUptoRow.holds Tryz.pinned (OpenSpec.upto fnShortSpec)

/-- 'laws.FnReduced', WHERE WHAT IT READS IS OF BULK AT MOST 1048576: true; the input reads as it did. -/
def fnReducedUptoRow : OpenClaim := { program := "ytfilbjbogggaoaagreat", sum := "1331698cd037d09041898f1f69012d36dfd311ef9d919061c570f6a0af751bbc", func := "loop.example/g03411/laws.FnReduced", spec := "fnReduced", unfollowed := true, recurses := true, apart := false, narrowed := true }
def FnReducedUptoSaid : Prop := fnReducedUptoRow.holds Tryz.pinned (OpenSpec.upto fnReducedSpec)

/-- 'laws.FnReducedBasis', WHERE WHAT IT READS IS OF BULK AT MOST 1048576: true; the input reads as it did. -/
def fnReducedBasisUptoRow : OpenClaim := { program := "ytfilbjbogggaoaagreat", sum := "1331698cd037d09041898f1f69012d36dfd311ef9d919061c570f6a0af751bbc", func := "loop.example/g03411/laws.FnReducedBasis", spec := "fnReducedBasis", unfollowed := true, recurses := true, apart := false, narrowed := true }
def FnReducedBasisUptoSaid : Prop := fnReducedBasisUptoRow.holds Tryz.pinned (OpenSpec.upto fnReducedBasisSpec)

/-- 'laws.FnExactShortByTree', WHERE WHAT IT READS IS OF BULK AT MOST 1048576: true; the input reads as it did. -/
def fnExactShortByTreeUptoRow : OpenClaim := { program := "ytfilbjbogggaoaagreat", sum := "1331698cd037d09041898f1f69012d36dfd311ef9d919061c570f6a0af751bbc", func := "loop.example/g03411/laws.FnExactShortByTree", spec := "fnExactShortByTree", unfollowed := true, recurses := true, apart := false, narrowed := true }
def FnExactShortByTreeUptoSaid : Prop := fnExactShortByTreeUptoRow.holds Tryz.pinned (OpenSpec.upto fnExactShortByTreeSpec)

/-- 'laws.FnMinimum', WHERE WHAT IT READS IS OF BULK AT MOST 1048576: true; the input reads as it did. -/
def fnMinimumUptoRow : OpenClaim := { program := "ytfilbjbogggaoaagreat", sum := "1331698cd037d09041898f1f69012d36dfd311ef9d919061c570f6a0af751bbc", func := "loop.example/g03411/laws.FnMinimum", spec := "fnMinimum", unfollowed := true, recurses := true, apart := false, narrowed := true }
def FnMinimumUptoSaid : Prop := fnMinimumUptoRow.holds Tryz.pinned (OpenSpec.upto fnMinimumSpec)

/-- 'laws.FnTheta', WHERE WHAT IT READS IS OF BULK AT MOST 1048576: true; the input reads as it did. -/
def fnThetaUptoRow : OpenClaim := { program := "ytfilbjbogggaoaagreat", sum := "1331698cd037d09041898f1f69012d36dfd311ef9d919061c570f6a0af751bbc", func := "loop.example/g03411/laws.FnTheta", spec := "fnTheta", unfollowed := true, recurses := true, apart := false, narrowed := true }
def FnThetaUptoSaid : Prop := fnThetaUptoRow.holds Tryz.pinned (OpenSpec.upto fnThetaSpec)

end Rows
end Go.Proofs.YtfilbjbogggaoaaGreat
