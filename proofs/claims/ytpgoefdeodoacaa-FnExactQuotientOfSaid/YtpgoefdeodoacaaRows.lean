/-
  No cell of these rows narrows 'for every input' (looked for: loops, veiled, ifaces, maps, wideKeys, modest, calm, conditions, laid).
  DERIVED. THE GIVEN ROWS OF THIS SEAT. 12 by the template 'for every input the law returns true; each argument reads behind the call as it read before'; 0 by the template 'total and deterministic' (their statements: YtpgoefdeodoacaaTotals.lean).
  GIVEN WITH THE SEED: the statements are not yours to turn. If you find one false, say at which input.
  Laid BY PROGRAM, IN A SANDBOX (cutbox-rows.mjs): the forced cells as the released guide's own fill.sh prints them over the translation 7d975be2f0048130… (all of the seat's roots in one cut). By AI agents, Wed Nov 11 2026. No macro, syntax, notation, axiom, sorry.
-/
import Derived.Test.YtpgoefdeodoacaaChecked
import GoSem.Claim
import GoSem.ClaimJoined
import GoSem.ClaimMapViews
import Derived.JoinedTies
import Derived.KernelRfl
namespace Go.Proofs.Ytpgoefdeodoacaa
/- THE CELL 'sum', in the pinned program and in every row, IS THE sha256 OF THE DUMP (.gsa) THAT YtpgoefdeodoacaaProg.lean LOADS. Nothing in Lean hashes anything: it is a label: what it is worth is what the hold of that sum in a sandbox is worth. -/
noncomputable def Try.pinned : Pinned := { name := "ytpgoefdeodoacaa", sum := "7d975be2f0048130f3a6064d03a740bd5b2da0f379985b64eacc3f6a7da7c5ea", checked := Try.checked }
namespace Rows
def none {H : Type} : Left H := { results := [], args := [] }

/-- 'laws.FnExactRoundedTo': WHATEVER THE INPUT: true; the input reads as it did. -/
def fnExactRoundedToSpec : ChangeSpec := { name := "fnExactRoundedTo", fn := fun _ => fun
  | [d1, d2] => { results := [.lit (.bool true)], args := [d1, d2] }
  | _ => none }
def fnExactRoundedToRow : OpenClaim := { program := "ytpgoefdeodoacaa", sum := "7d975be2f0048130f3a6064d03a740bd5b2da0f379985b64eacc3f6a7da7c5ea", func := "loop.example/g03411/laws.FnExactRoundedTo", spec := "fnExactRoundedTo", recurses := true, apart := false }
def FnExactRoundedToSaid : Prop := fnExactRoundedToRow.holds Try.pinned (OpenSpec.ofChange fnExactRoundedToSpec)

/-- ITS FALSE NEIGHBOUR: 'it returns false'. Refute it at one input. -/
def fnExactRoundedToWrong : ChangeSpec := { name := "fnExactRoundedTo", fn := fun _ => fun
  | [d1, d2] => { results := [.lit (.bool false)], args := [d1, d2] }
  | _ => none }
def FnExactRoundedToWrongFalsely : Prop := fnExactRoundedToRow.holds Try.pinned (OpenSpec.ofChange fnExactRoundedToWrong)

/-- 'laws.FnExactIndexOf': WHATEVER THE INPUT: true; the input reads as it did. -/
def fnExactIndexOfSpec : ChangeSpec := { name := "fnExactIndexOf", fn := fun _ => fun
  | [d1, d2] => { results := [.lit (.bool true)], args := [d1, d2] }
  | _ => none }
def fnExactIndexOfRow : OpenClaim := { program := "ytpgoefdeodoacaa", sum := "7d975be2f0048130f3a6064d03a740bd5b2da0f379985b64eacc3f6a7da7c5ea", func := "loop.example/g03411/laws.FnExactIndexOf", spec := "fnExactIndexOf", unfollowed := true, recurses := true, apart := false }
def FnExactIndexOfSaid : Prop := fnExactIndexOfRow.holds Try.pinned (OpenSpec.ofChange fnExactIndexOfSpec)

/-- ITS FALSE NEIGHBOUR: 'it returns false'. Refute it at one input. -/
def fnExactIndexOfWrong : ChangeSpec := { name := "fnExactIndexOf", fn := fun _ => fun
  | [d1, d2] => { results := [.lit (.bool false)], args := [d1, d2] }
  | _ => none }
def FnExactIndexOfWrongFalsely : Prop := fnExactIndexOfRow.holds Try.pinned (OpenSpec.ofChange fnExactIndexOfWrong)

/-- 'laws.FnExactMeetLattice': WHATEVER THE INPUT: true; the input reads as it did. -/
def fnExactMeetLatticeSpec : ChangeSpec := { name := "fnExactMeetLattice", fn := fun _ => fun
  | [d1, d2] => { results := [.lit (.bool true)], args := [d1, d2] }
  | _ => none }
def fnExactMeetLatticeRow : OpenClaim := { program := "ytpgoefdeodoacaa", sum := "7d975be2f0048130f3a6064d03a740bd5b2da0f379985b64eacc3f6a7da7c5ea", func := "loop.example/g03411/laws.FnExactMeetLattice", spec := "fnExactMeetLattice", unfollowed := true, recurses := true, apart := false }
def FnExactMeetLatticeSaid : Prop := fnExactMeetLatticeRow.holds Try.pinned (OpenSpec.ofChange fnExactMeetLatticeSpec)

/-- ITS FALSE NEIGHBOUR: 'it returns false'. Refute it at one input. -/
def fnExactMeetLatticeWrong : ChangeSpec := { name := "fnExactMeetLattice", fn := fun _ => fun
  | [d1, d2] => { results := [.lit (.bool false)], args := [d1, d2] }
  | _ => none }
def FnExactMeetLatticeWrongFalsely : Prop := fnExactMeetLatticeRow.holds Try.pinned (OpenSpec.ofChange fnExactMeetLatticeWrong)

/-- 'laws.FnExactQuotientOf': WHATEVER THE INPUT: true; the input reads as it did. -/
def fnExactQuotientOfSpec : ChangeSpec := { name := "fnExactQuotientOf", fn := fun _ => fun
  | [d1, d2] => { results := [.lit (.bool true)], args := [d1, d2] }
  | _ => none }
def fnExactQuotientOfRow : OpenClaim := { program := "ytpgoefdeodoacaa", sum := "7d975be2f0048130f3a6064d03a740bd5b2da0f379985b64eacc3f6a7da7c5ea", func := "loop.example/g03411/laws.FnExactQuotientOf", spec := "fnExactQuotientOf", unfollowed := true, recurses := true, apart := false }
def FnExactQuotientOfSaid : Prop := fnExactQuotientOfRow.holds Try.pinned (OpenSpec.ofChange fnExactQuotientOfSpec)

/-- ITS FALSE NEIGHBOUR: 'it returns false'. Refute it at one input. -/
def fnExactQuotientOfWrong : ChangeSpec := { name := "fnExactQuotientOf", fn := fun _ => fun
  | [d1, d2] => { results := [.lit (.bool false)], args := [d1, d2] }
  | _ => none }
def FnExactQuotientOfWrongFalsely : Prop := fnExactQuotientOfRow.holds Try.pinned (OpenSpec.ofChange fnExactQuotientOfWrong)

/-- 'laws.FnExactReduceGram': WHATEVER THE INPUT: true; the input reads as it did. -/
def fnExactReduceGramSpec : ChangeSpec := { name := "fnExactReduceGram", fn := fun _ => fun
  | [d] => { results := [.lit (.bool true)], args := [d] }
  | _ => none }
def fnExactReduceGramRow : OpenClaim := { program := "ytpgoefdeodoacaa", sum := "7d975be2f0048130f3a6064d03a740bd5b2da0f379985b64eacc3f6a7da7c5ea", func := "loop.example/g03411/laws.FnExactReduceGram", spec := "fnExactReduceGram", recurses := true, apart := false }
def FnExactReduceGramSaid : Prop := fnExactReduceGramRow.holds Try.pinned (OpenSpec.ofChange fnExactReduceGramSpec)

/-- ITS FALSE NEIGHBOUR: 'it returns false'. Refute it at one input. -/
def fnExactReduceGramWrong : ChangeSpec := { name := "fnExactReduceGram", fn := fun _ => fun
  | [d] => { results := [.lit (.bool false)], args := [d] }
  | _ => none }
def FnExactReduceGramWrongFalsely : Prop := fnExactReduceGramRow.holds Try.pinned (OpenSpec.ofChange fnExactReduceGramWrong)

/-- 'laws.FnExactClosestTo': WHATEVER THE INPUT: true; the input reads as it did. -/
def fnExactClosestToSpec : ChangeSpec := { name := "fnExactClosestTo", fn := fun _ => fun
  | [d1, d2] => { results := [.lit (.bool true)], args := [d1, d2] }
  | _ => none }
def fnExactClosestToRow : OpenClaim := { program := "ytpgoefdeodoacaa", sum := "7d975be2f0048130f3a6064d03a740bd5b2da0f379985b64eacc3f6a7da7c5ea", func := "loop.example/g03411/laws.FnExactClosestTo", spec := "fnExactClosestTo", recurses := true, apart := false }
def FnExactClosestToSaid : Prop := fnExactClosestToRow.holds Try.pinned (OpenSpec.ofChange fnExactClosestToSpec)

/-- ITS FALSE NEIGHBOUR: 'it returns false'. Refute it at one input. -/
def fnExactClosestToWrong : ChangeSpec := { name := "fnExactClosestTo", fn := fun _ => fun
  | [d1, d2] => { results := [.lit (.bool false)], args := [d1, d2] }
  | _ => none }
def FnExactClosestToWrongFalsely : Prop := fnExactClosestToRow.holds Try.pinned (OpenSpec.ofChange fnExactClosestToWrong)

/-- 'laws.FnExactReduceBasis': WHATEVER THE INPUT: true; the input reads as it did. -/
def fnExactReduceBasisSpec : ChangeSpec := { name := "fnExactReduceBasis", fn := fun _ => fun
  | [d] => { results := [.lit (.bool true)], args := [d] }
  | _ => none }
def fnExactReduceBasisRow : OpenClaim := { program := "ytpgoefdeodoacaa", sum := "7d975be2f0048130f3a6064d03a740bd5b2da0f379985b64eacc3f6a7da7c5ea", func := "loop.example/g03411/laws.FnExactReduceBasis", spec := "fnExactReduceBasis", recurses := true, apart := false }
def FnExactReduceBasisSaid : Prop := fnExactReduceBasisRow.holds Try.pinned (OpenSpec.ofChange fnExactReduceBasisSpec)

/-- ITS FALSE NEIGHBOUR: 'it returns false'. Refute it at one input. -/
def fnExactReduceBasisWrong : ChangeSpec := { name := "fnExactReduceBasis", fn := fun _ => fun
  | [d] => { results := [.lit (.bool false)], args := [d] }
  | _ => none }
def FnExactReduceBasisWrongFalsely : Prop := fnExactReduceBasisRow.holds Try.pinned (OpenSpec.ofChange fnExactReduceBasisWrong)

/-- 'laws.FnExactMinimumOf': WHATEVER THE INPUT: true; the input reads as it did. -/
def fnExactMinimumOfSpec : ChangeSpec := { name := "fnExactMinimumOf", fn := fun _ => fun
  | [d] => { results := [.lit (.bool true)], args := [d] }
  | _ => none }
def fnExactMinimumOfRow : OpenClaim := { program := "ytpgoefdeodoacaa", sum := "7d975be2f0048130f3a6064d03a740bd5b2da0f379985b64eacc3f6a7da7c5ea", func := "loop.example/g03411/laws.FnExactMinimumOf", spec := "fnExactMinimumOf", unfollowed := true, recurses := true, apart := false }
def FnExactMinimumOfSaid : Prop := fnExactMinimumOfRow.holds Try.pinned (OpenSpec.ofChange fnExactMinimumOfSpec)

/-- ITS FALSE NEIGHBOUR: 'it returns false'. Refute it at one input. -/
def fnExactMinimumOfWrong : ChangeSpec := { name := "fnExactMinimumOf", fn := fun _ => fun
  | [d] => { results := [.lit (.bool false)], args := [d] }
  | _ => none }
def FnExactMinimumOfWrongFalsely : Prop := fnExactMinimumOfRow.holds Try.pinned (OpenSpec.ofChange fnExactMinimumOfWrong)

/-- 'laws.FnExactThetaOf': WHATEVER THE INPUT: true; the input reads as it did. -/
def fnExactThetaOfSpec : ChangeSpec := { name := "fnExactThetaOf", fn := fun _ => fun
  | [d1, d2] => { results := [.lit (.bool true)], args := [d1, d2] }
  | _ => none }
def fnExactThetaOfRow : OpenClaim := { program := "ytpgoefdeodoacaa", sum := "7d975be2f0048130f3a6064d03a740bd5b2da0f379985b64eacc3f6a7da7c5ea", func := "loop.example/g03411/laws.FnExactThetaOf", spec := "fnExactThetaOf", unfollowed := true, recurses := true, apart := false }
def FnExactThetaOfSaid : Prop := fnExactThetaOfRow.holds Try.pinned (OpenSpec.ofChange fnExactThetaOfSpec)

/-- ITS FALSE NEIGHBOUR: 'it returns false'. Refute it at one input. -/
def fnExactThetaOfWrong : ChangeSpec := { name := "fnExactThetaOf", fn := fun _ => fun
  | [d1, d2] => { results := [.lit (.bool false)], args := [d1, d2] }
  | _ => none }
def FnExactThetaOfWrongFalsely : Prop := fnExactThetaOfRow.holds Try.pinned (OpenSpec.ofChange fnExactThetaOfWrong)

/-- 'laws.FnExactShortVectors': WHATEVER THE INPUT: true; the input reads as it did. -/
def fnExactShortVectorsSpec : ChangeSpec := { name := "fnExactShortVectors", fn := fun _ => fun
  | [d1, d2] => { results := [.lit (.bool true)], args := [d1, d2] }
  | _ => none }
def fnExactShortVectorsRow : OpenClaim := { program := "ytpgoefdeodoacaa", sum := "7d975be2f0048130f3a6064d03a740bd5b2da0f379985b64eacc3f6a7da7c5ea", func := "loop.example/g03411/laws.FnExactShortVectors", spec := "fnExactShortVectors", unfollowed := true, recurses := true, apart := false }
def FnExactShortVectorsSaid : Prop := fnExactShortVectorsRow.holds Try.pinned (OpenSpec.ofChange fnExactShortVectorsSpec)

/-- ITS FALSE NEIGHBOUR: 'it returns false'. Refute it at one input. -/
def fnExactShortVectorsWrong : ChangeSpec := { name := "fnExactShortVectors", fn := fun _ => fun
  | [d1, d2] => { results := [.lit (.bool false)], args := [d1, d2] }
  | _ => none }
def FnExactShortVectorsWrongFalsely : Prop := fnExactShortVectorsRow.holds Try.pinned (OpenSpec.ofChange fnExactShortVectorsWrong)

/-- 'laws.FnExactKissingOf': WHATEVER THE INPUT: true; the input reads as it did. -/
def fnExactKissingOfSpec : ChangeSpec := { name := "fnExactKissingOf", fn := fun _ => fun
  | [d] => { results := [.lit (.bool true)], args := [d] }
  | _ => none }
def fnExactKissingOfRow : OpenClaim := { program := "ytpgoefdeodoacaa", sum := "7d975be2f0048130f3a6064d03a740bd5b2da0f379985b64eacc3f6a7da7c5ea", func := "loop.example/g03411/laws.FnExactKissingOf", spec := "fnExactKissingOf", unfollowed := true, recurses := true, apart := false }
def FnExactKissingOfSaid : Prop := fnExactKissingOfRow.holds Try.pinned (OpenSpec.ofChange fnExactKissingOfSpec)

/-- ITS FALSE NEIGHBOUR: 'it returns false'. Refute it at one input. -/
def fnExactKissingOfWrong : ChangeSpec := { name := "fnExactKissingOf", fn := fun _ => fun
  | [d] => { results := [.lit (.bool false)], args := [d] }
  | _ => none }
def FnExactKissingOfWrongFalsely : Prop := fnExactKissingOfRow.holds Try.pinned (OpenSpec.ofChange fnExactKissingOfWrong)

/-- 'laws.FnExactShortestOf': WHATEVER THE INPUT: true; the input reads as it did. -/
def fnExactShortestOfSpec : ChangeSpec := { name := "fnExactShortestOf", fn := fun _ => fun
  | [d] => { results := [.lit (.bool true)], args := [d] }
  | _ => none }
def fnExactShortestOfRow : OpenClaim := { program := "ytpgoefdeodoacaa", sum := "7d975be2f0048130f3a6064d03a740bd5b2da0f379985b64eacc3f6a7da7c5ea", func := "loop.example/g03411/laws.FnExactShortestOf", spec := "fnExactShortestOf", unfollowed := true, recurses := true, apart := false }
def FnExactShortestOfSaid : Prop := fnExactShortestOfRow.holds Try.pinned (OpenSpec.ofChange fnExactShortestOfSpec)

/-- ITS FALSE NEIGHBOUR: 'it returns false'. Refute it at one input. -/
def fnExactShortestOfWrong : ChangeSpec := { name := "fnExactShortestOf", fn := fun _ => fun
  | [d] => { results := [.lit (.bool false)], args := [d] }
  | _ => none }
def FnExactShortestOfWrongFalsely : Prop := fnExactShortestOfRow.holds Try.pinned (OpenSpec.ofChange fnExactShortestOfWrong)

/- THE SECOND FORM. 'bulk': how many values and letters a reading holds, each counted each time it is reached (what is shared counts as often as it is met; a slice's spare places count too). A statement '..UptoSaid' is the law's where the arguments, and the package variables that the reading takes, are together of bulk at most 1048576: NARROWER than '..Said'. Prove '..Said' where nothing that the law and all that it calls make is longer than what came in: it says more and counts as full. Else prove '..UptoSaid'. A law counts once. -/
mutual
def uptoBulk {H : Type} : DataW H → Nat
  | .lit (.string bytes) => bytes.length + 1
  | .lit _ => 1
  | .nil => 1
  | .ptr d => uptoBulk d + 1
  | .slice elems spare => uptoBulkAll elems + uptoBulkAll spare + 1
  | .agg parts => uptoBulkAll parts + 1
  | .iface _ d => uptoBulk d + 1
  | .map entries => uptoBulkEntries entries + 1
  | .held _ => 1
def uptoBulkAll {H : Type} : List (DataW H) → Nat
  | [] => 0
  | d :: r => uptoBulk d + uptoBulkAll r
def uptoBulkEntries {H : Type} : List (Lit × DataW H) → Nat
  | [] => 0
  | x :: r => uptoBulkEntry x + uptoBulkEntries r
def uptoBulkEntry {H : Type} : Lit × DataW H → Nat
  | (.string bytes, d) => bytes.length + uptoBulk d + 1
  | (_, d) => uptoBulk d + 1
 end
def uptoSmall : (H : Type) → List (DataW H) → Bool := fun _ ds => decide (uptoBulkAll ds ≤ 1048576)
def OpenSpec.upto (s : _root_.Go.ChangeSpec) : _root_.Go.OpenSpec := { _root_.Go.OpenSpec.ofChange s with cond := some uptoSmall }

/-- 'laws.FnExactRoundedTo', WHERE WHAT IT READS IS OF BULK AT MOST 1048576: true; the input reads as it did. -/
def fnExactRoundedToUptoRow : OpenClaim := { program := "ytpgoefdeodoacaa", sum := "7d975be2f0048130f3a6064d03a740bd5b2da0f379985b64eacc3f6a7da7c5ea", func := "loop.example/g03411/laws.FnExactRoundedTo", spec := "fnExactRoundedTo", recurses := true, apart := false, narrowed := true }
def FnExactRoundedToUptoSaid : Prop := fnExactRoundedToUptoRow.holds Try.pinned (OpenSpec.upto fnExactRoundedToSpec)

/-- 'laws.FnExactIndexOf', WHERE WHAT IT READS IS OF BULK AT MOST 1048576: true; the input reads as it did. -/
def fnExactIndexOfUptoRow : OpenClaim := { program := "ytpgoefdeodoacaa", sum := "7d975be2f0048130f3a6064d03a740bd5b2da0f379985b64eacc3f6a7da7c5ea", func := "loop.example/g03411/laws.FnExactIndexOf", spec := "fnExactIndexOf", unfollowed := true, recurses := true, apart := false, narrowed := true }
def FnExactIndexOfUptoSaid : Prop := fnExactIndexOfUptoRow.holds Try.pinned (OpenSpec.upto fnExactIndexOfSpec)

/-- 'laws.FnExactMeetLattice', WHERE WHAT IT READS IS OF BULK AT MOST 1048576: true; the input reads as it did. -/
def fnExactMeetLatticeUptoRow : OpenClaim := { program := "ytpgoefdeodoacaa", sum := "7d975be2f0048130f3a6064d03a740bd5b2da0f379985b64eacc3f6a7da7c5ea", func := "loop.example/g03411/laws.FnExactMeetLattice", spec := "fnExactMeetLattice", unfollowed := true, recurses := true, apart := false, narrowed := true }
def FnExactMeetLatticeUptoSaid : Prop := fnExactMeetLatticeUptoRow.holds Try.pinned (OpenSpec.upto fnExactMeetLatticeSpec)

/-- 'laws.FnExactQuotientOf', WHERE WHAT IT READS IS OF BULK AT MOST 1048576: true; the input reads as it did. -/
def fnExactQuotientOfUptoRow : OpenClaim := { program := "ytpgoefdeodoacaa", sum := "7d975be2f0048130f3a6064d03a740bd5b2da0f379985b64eacc3f6a7da7c5ea", func := "loop.example/g03411/laws.FnExactQuotientOf", spec := "fnExactQuotientOf", unfollowed := true, recurses := true, apart := false, narrowed := true }
def FnExactQuotientOfUptoSaid : Prop := fnExactQuotientOfUptoRow.holds Try.pinned (OpenSpec.upto fnExactQuotientOfSpec)

/-- 'laws.FnExactReduceGram', WHERE WHAT IT READS IS OF BULK AT MOST 1048576: true; the input reads as it did. -/
def fnExactReduceGramUptoRow : OpenClaim := { program := "ytpgoefdeodoacaa", sum := "7d975be2f0048130f3a6064d03a740bd5b2da0f379985b64eacc3f6a7da7c5ea", func := "loop.example/g03411/laws.FnExactReduceGram", spec := "fnExactReduceGram", recurses := true, apart := false, narrowed := true }
def FnExactReduceGramUptoSaid : Prop := fnExactReduceGramUptoRow.holds Try.pinned (OpenSpec.upto fnExactReduceGramSpec)

/-- 'laws.FnExactClosestTo', WHERE WHAT IT READS IS OF BULK AT MOST 1048576: true; the input reads as it did. -/
def fnExactClosestToUptoRow : OpenClaim := { program := "ytpgoefdeodoacaa", sum := "7d975be2f0048130f3a6064d03a740bd5b2da0f379985b64eacc3f6a7da7c5ea", func := "loop.example/g03411/laws.FnExactClosestTo", spec := "fnExactClosestTo", recurses := true, apart := false, narrowed := true }
def FnExactClosestToUptoSaid : Prop := fnExactClosestToUptoRow.holds Try.pinned (OpenSpec.upto fnExactClosestToSpec)

/-- 'laws.FnExactReduceBasis', WHERE WHAT IT READS IS OF BULK AT MOST 1048576: true; the input reads as it did. -/
def fnExactReduceBasisUptoRow : OpenClaim := { program := "ytpgoefdeodoacaa", sum := "7d975be2f0048130f3a6064d03a740bd5b2da0f379985b64eacc3f6a7da7c5ea", func := "loop.example/g03411/laws.FnExactReduceBasis", spec := "fnExactReduceBasis", recurses := true, apart := false, narrowed := true }
def FnExactReduceBasisUptoSaid : Prop := fnExactReduceBasisUptoRow.holds Try.pinned (OpenSpec.upto fnExactReduceBasisSpec)

/-- 'laws.FnExactMinimumOf', WHERE WHAT IT READS IS OF BULK AT MOST 1048576: true; the input reads as it did. -/
def fnExactMinimumOfUptoRow : OpenClaim := { program := "ytpgoefdeodoacaa", sum := "7d975be2f0048130f3a6064d03a740bd5b2da0f379985b64eacc3f6a7da7c5ea", func := "loop.example/g03411/laws.FnExactMinimumOf", spec := "fnExactMinimumOf", unfollowed := true, recurses := true, apart := false, narrowed := true }
def FnExactMinimumOfUptoSaid : Prop := fnExactMinimumOfUptoRow.holds Try.pinned (OpenSpec.upto fnExactMinimumOfSpec)

/-- 'laws.FnExactThetaOf', WHERE WHAT IT READS IS OF BULK AT MOST 1048576: true; the input reads as it did. -/
def fnExactThetaOfUptoRow : OpenClaim := { program := "ytpgoefdeodoacaa", sum := "7d975be2f0048130f3a6064d03a740bd5b2da0f379985b64eacc3f6a7da7c5ea", func := "loop.example/g03411/laws.FnExactThetaOf", spec := "fnExactThetaOf", unfollowed := true, recurses := true, apart := false, narrowed := true }
def FnExactThetaOfUptoSaid : Prop := fnExactThetaOfUptoRow.holds Try.pinned (OpenSpec.upto fnExactThetaOfSpec)

/-- 'laws.FnExactShortVectors', WHERE WHAT IT READS IS OF BULK AT MOST 1048576: true; the input reads as it did. -/
def fnExactShortVectorsUptoRow : OpenClaim := { program := "ytpgoefdeodoacaa", sum := "7d975be2f0048130f3a6064d03a740bd5b2da0f379985b64eacc3f6a7da7c5ea", func := "loop.example/g03411/laws.FnExactShortVectors", spec := "fnExactShortVectors", unfollowed := true, recurses := true, apart := false, narrowed := true }
def FnExactShortVectorsUptoSaid : Prop := fnExactShortVectorsUptoRow.holds Try.pinned (OpenSpec.upto fnExactShortVectorsSpec)

/-- 'laws.FnExactKissingOf', WHERE WHAT IT READS IS OF BULK AT MOST 1048576: true; the input reads as it did. -/
def fnExactKissingOfUptoRow : OpenClaim := { program := "ytpgoefdeodoacaa", sum := "7d975be2f0048130f3a6064d03a740bd5b2da0f379985b64eacc3f6a7da7c5ea", func := "loop.example/g03411/laws.FnExactKissingOf", spec := "fnExactKissingOf", unfollowed := true, recurses := true, apart := false, narrowed := true }
def FnExactKissingOfUptoSaid : Prop := fnExactKissingOfUptoRow.holds Try.pinned (OpenSpec.upto fnExactKissingOfSpec)

/-- 'laws.FnExactShortestOf', WHERE WHAT IT READS IS OF BULK AT MOST 1048576: true; the input reads as it did. -/
def fnExactShortestOfUptoRow : OpenClaim := { program := "ytpgoefdeodoacaa", sum := "7d975be2f0048130f3a6064d03a740bd5b2da0f379985b64eacc3f6a7da7c5ea", func := "loop.example/g03411/laws.FnExactShortestOf", spec := "fnExactShortestOf", unfollowed := true, recurses := true, apart := false, narrowed := true }
def FnExactShortestOfUptoSaid : Prop := fnExactShortestOfUptoRow.holds Try.pinned (OpenSpec.upto fnExactShortestOfSpec)

end Rows
end Go.Proofs.Ytpgoefdeodoacaa
