/-
  No cell of these rows narrows 'for every input' (looked for: loops, veiled, ifaces, maps, wideKeys, modest, calm, conditions, laid).
  DERIVED. THE GIVEN ROWS OF THIS SEAT. 9 by the template 'for every input the law returns true; each argument reads behind the call as it read before'; 0 by the template 'total and deterministic' (their statements: YtaianhhmmacblaaTotals.lean).
  GIVEN WITH THE SEED: the statements are not yours to turn. If you find one false, say at which input.
  Laid BY PROGRAM, IN A SANDBOX (cutbox-rows.mjs): the forced cells as the released guide's own fill.sh prints them over the translation b77992fde7dffa35… (all of the seat's roots in one cut). By AI agents, Wed Nov 11 2026. No macro, syntax, notation, axiom, sorry.
-/
import Derived.Test.YtaianhhmmacblaaChecked
import GoSem.Claim
import GoSem.ClaimJoined
import GoSem.ClaimMapViews
import Derived.JoinedTies
import Derived.KernelRfl
namespace Go.Proofs.Ytaianhhmmacblaa
/- THE CELL 'sum', in the pinned program and in every row, IS THE sha256 OF THE DUMP (.gsa) THAT YtaianhhmmacblaaProg.lean LOADS. Nothing in Lean hashes anything: it is a label: what it is worth is what the hold of that sum in a sandbox is worth. -/
noncomputable def Try.pinned : Pinned := { name := "ytaianhhmmacblaa", sum := "b77992fde7dffa355411fe21f068c447e4467b7bebad8395404e504a2901d8e0", checked := Try.checked }
namespace Rows
def none {H : Type} : Left H := { results := [], args := [] }

/-- 'configlanglaw08.NumsetBounds': WHATEVER THE INPUT: true; the input reads as it did. -/
def numsetBoundsSpec : ChangeSpec := { name := "numsetBounds", fn := fun _ => fun
  | [d1, d2, d3] => { results := [.lit (.bool true)], args := [d1, d2, d3] }
  | _ => none }
def numsetBoundsRow : OpenClaim := { program := "ytaianhhmmacblaa", sum := "b77992fde7dffa355411fe21f068c447e4467b7bebad8395404e504a2901d8e0", func := "configlang/configlanglaw08.NumsetBounds", spec := "numsetBounds", unfollowed := true, recurses := true, apart := false }
def NumsetBoundsSaid : Prop := numsetBoundsRow.holds Try.pinned (OpenSpec.ofChange numsetBoundsSpec)

/-- ITS FALSE NEIGHBOUR: 'it returns false'. Refute it at one input. -/
def numsetBoundsWrong : ChangeSpec := { name := "numsetBounds", fn := fun _ => fun
  | [d1, d2, d3] => { results := [.lit (.bool false)], args := [d1, d2, d3] }
  | _ => none }
def NumsetBoundsWrongFalsely : Prop := numsetBoundsRow.holds Try.pinned (OpenSpec.ofChange numsetBoundsWrong)

/-- 'configlanglaw08.NumsetMeasures': WHATEVER THE INPUT: true; the input reads as it did. -/
def numsetMeasuresSpec : ChangeSpec := { name := "numsetMeasures", fn := fun _ => fun
  | [d1, d2] => { results := [.lit (.bool true)], args := [d1, d2] }
  | _ => none }
def numsetMeasuresRow : OpenClaim := { program := "ytaianhhmmacblaa", sum := "b77992fde7dffa355411fe21f068c447e4467b7bebad8395404e504a2901d8e0", func := "configlang/configlanglaw08.NumsetMeasures", spec := "numsetMeasures", unfollowed := true, recurses := true, apart := false }
def NumsetMeasuresSaid : Prop := numsetMeasuresRow.holds Try.pinned (OpenSpec.ofChange numsetMeasuresSpec)

/-- ITS FALSE NEIGHBOUR: 'it returns false'. Refute it at one input. -/
def numsetMeasuresWrong : ChangeSpec := { name := "numsetMeasures", fn := fun _ => fun
  | [d1, d2] => { results := [.lit (.bool false)], args := [d1, d2] }
  | _ => none }
def NumsetMeasuresWrongFalsely : Prop := numsetMeasuresRow.holds Try.pinned (OpenSpec.ofChange numsetMeasuresWrong)

/-- 'configlanglaw08.NumsetCounts': WHATEVER THE INPUT: true; the input reads as it did. -/
def numsetCountsSpec : ChangeSpec := { name := "numsetCounts", fn := fun _ => fun
  | [d1, d2, d3] => { results := [.lit (.bool true)], args := [d1, d2, d3] }
  | _ => none }
def numsetCountsRow : OpenClaim := { program := "ytaianhhmmacblaa", sum := "b77992fde7dffa355411fe21f068c447e4467b7bebad8395404e504a2901d8e0", func := "configlang/configlanglaw08.NumsetCounts", spec := "numsetCounts", unfollowed := true, recurses := true, apart := false }
def NumsetCountsSaid : Prop := numsetCountsRow.holds Try.pinned (OpenSpec.ofChange numsetCountsSpec)

/-- ITS FALSE NEIGHBOUR: 'it returns false'. Refute it at one input. -/
def numsetCountsWrong : ChangeSpec := { name := "numsetCounts", fn := fun _ => fun
  | [d1, d2, d3] => { results := [.lit (.bool false)], args := [d1, d2, d3] }
  | _ => none }
def NumsetCountsWrongFalsely : Prop := numsetCountsRow.holds Try.pinned (OpenSpec.ofChange numsetCountsWrong)

/-- 'configlanglaw08.NumsetMake': WHATEVER THE INPUT: true; the input reads as it did. -/
def numsetMakeSpec : ChangeSpec := { name := "numsetMake", fn := fun _ => fun
  | [d1, d2] => { results := [.lit (.bool true)], args := [d1, d2] }
  | _ => none }
def numsetMakeRow : OpenClaim := { program := "ytaianhhmmacblaa", sum := "b77992fde7dffa355411fe21f068c447e4467b7bebad8395404e504a2901d8e0", func := "configlang/configlanglaw08.NumsetMake", spec := "numsetMake", unfollowed := true, recurses := true, apart := false }
def NumsetMakeSaid : Prop := numsetMakeRow.holds Try.pinned (OpenSpec.ofChange numsetMakeSpec)

/-- ITS FALSE NEIGHBOUR: 'it returns false'. Refute it at one input. -/
def numsetMakeWrong : ChangeSpec := { name := "numsetMake", fn := fun _ => fun
  | [d1, d2] => { results := [.lit (.bool false)], args := [d1, d2] }
  | _ => none }
def NumsetMakeWrongFalsely : Prop := numsetMakeRow.holds Try.pinned (OpenSpec.ofChange numsetMakeWrong)

/-- 'configlanglaw08.NumsetCanonical': WHATEVER THE INPUT: true; the input reads as it did. -/
def numsetCanonicalSpec : ChangeSpec := { name := "numsetCanonical", fn := fun _ => fun
  | [d] => { results := [.lit (.bool true)], args := [d] }
  | _ => none }
def numsetCanonicalRow : OpenClaim := { program := "ytaianhhmmacblaa", sum := "b77992fde7dffa355411fe21f068c447e4467b7bebad8395404e504a2901d8e0", func := "configlang/configlanglaw08.NumsetCanonical", spec := "numsetCanonical", unfollowed := true, recurses := true, apart := false }
def NumsetCanonicalSaid : Prop := numsetCanonicalRow.holds Try.pinned (OpenSpec.ofChange numsetCanonicalSpec)

/-- ITS FALSE NEIGHBOUR: 'it returns false'. Refute it at one input. -/
def numsetCanonicalWrong : ChangeSpec := { name := "numsetCanonical", fn := fun _ => fun
  | [d] => { results := [.lit (.bool false)], args := [d] }
  | _ => none }
def NumsetCanonicalWrongFalsely : Prop := numsetCanonicalRow.holds Try.pinned (OpenSpec.ofChange numsetCanonicalWrong)

/-- 'configlanglaw08.NumsetAlgebra': WHATEVER THE INPUT: true; the input reads as it did. -/
def numsetAlgebraSpec : ChangeSpec := { name := "numsetAlgebra", fn := fun _ => fun
  | [d1, d2] => { results := [.lit (.bool true)], args := [d1, d2] }
  | _ => none }
def numsetAlgebraRow : OpenClaim := { program := "ytaianhhmmacblaa", sum := "b77992fde7dffa355411fe21f068c447e4467b7bebad8395404e504a2901d8e0", func := "configlang/configlanglaw08.NumsetAlgebra", spec := "numsetAlgebra", unfollowed := true, recurses := true, apart := false }
def NumsetAlgebraSaid : Prop := numsetAlgebraRow.holds Try.pinned (OpenSpec.ofChange numsetAlgebraSpec)

/-- ITS FALSE NEIGHBOUR: 'it returns false'. Refute it at one input. -/
def numsetAlgebraWrong : ChangeSpec := { name := "numsetAlgebra", fn := fun _ => fun
  | [d1, d2] => { results := [.lit (.bool false)], args := [d1, d2] }
  | _ => none }
def NumsetAlgebraWrongFalsely : Prop := numsetAlgebraRow.holds Try.pinned (OpenSpec.ofChange numsetAlgebraWrong)

/-- 'configlanglaw08.NumsetLaws': WHATEVER THE INPUT: true; the input reads as it did. -/
def numsetLawsSpec : ChangeSpec := { name := "numsetLaws", fn := fun _ => fun
  | [d1, d2, d3] => { results := [.lit (.bool true)], args := [d1, d2, d3] }
  | _ => none }
def numsetLawsRow : OpenClaim := { program := "ytaianhhmmacblaa", sum := "b77992fde7dffa355411fe21f068c447e4467b7bebad8395404e504a2901d8e0", func := "configlang/configlanglaw08.NumsetLaws", spec := "numsetLaws", unfollowed := true, recurses := true, apart := false }
def NumsetLawsSaid : Prop := numsetLawsRow.holds Try.pinned (OpenSpec.ofChange numsetLawsSpec)

/-- ITS FALSE NEIGHBOUR: 'it returns false'. Refute it at one input. -/
def numsetLawsWrong : ChangeSpec := { name := "numsetLaws", fn := fun _ => fun
  | [d1, d2, d3] => { results := [.lit (.bool false)], args := [d1, d2, d3] }
  | _ => none }
def NumsetLawsWrongFalsely : Prop := numsetLawsRow.holds Try.pinned (OpenSpec.ofChange numsetLawsWrong)

/-- 'configlanglaw08.NumsetCompare': WHATEVER THE INPUT: true; the input reads as it did. -/
def numsetCompareSpec : ChangeSpec := { name := "numsetCompare", fn := fun _ => fun
  | [d1, d2, d3] => { results := [.lit (.bool true)], args := [d1, d2, d3] }
  | _ => none }
def numsetCompareRow : OpenClaim := { program := "ytaianhhmmacblaa", sum := "b77992fde7dffa355411fe21f068c447e4467b7bebad8395404e504a2901d8e0", func := "configlang/configlanglaw08.NumsetCompare", spec := "numsetCompare", unfollowed := true, recurses := true, apart := false }
def NumsetCompareSaid : Prop := numsetCompareRow.holds Try.pinned (OpenSpec.ofChange numsetCompareSpec)

/-- ITS FALSE NEIGHBOUR: 'it returns false'. Refute it at one input. -/
def numsetCompareWrong : ChangeSpec := { name := "numsetCompare", fn := fun _ => fun
  | [d1, d2, d3] => { results := [.lit (.bool false)], args := [d1, d2, d3] }
  | _ => none }
def NumsetCompareWrongFalsely : Prop := numsetCompareRow.holds Try.pinned (OpenSpec.ofChange numsetCompareWrong)

/-- 'configlanglaw08.NumsetMembers': WHATEVER THE INPUT: true; the input reads as it did. -/
def numsetMembersSpec : ChangeSpec := { name := "numsetMembers", fn := fun _ => fun
  | [d1, d2, d3] => { results := [.lit (.bool true)], args := [d1, d2, d3] }
  | _ => none }
def numsetMembersRow : OpenClaim := { program := "ytaianhhmmacblaa", sum := "b77992fde7dffa355411fe21f068c447e4467b7bebad8395404e504a2901d8e0", func := "configlang/configlanglaw08.NumsetMembers", spec := "numsetMembers", unfollowed := true, recurses := true, apart := false }
def NumsetMembersSaid : Prop := numsetMembersRow.holds Try.pinned (OpenSpec.ofChange numsetMembersSpec)

/-- ITS FALSE NEIGHBOUR: 'it returns false'. Refute it at one input. -/
def numsetMembersWrong : ChangeSpec := { name := "numsetMembers", fn := fun _ => fun
  | [d1, d2, d3] => { results := [.lit (.bool false)], args := [d1, d2, d3] }
  | _ => none }
def NumsetMembersWrongFalsely : Prop := numsetMembersRow.holds Try.pinned (OpenSpec.ofChange numsetMembersWrong)

/- THE SECOND FORM. 'bulk': how many values and letters a reading holds, each counted each time it is reached (what is shared counts as often as it is met; a slice's spare places count too). A statement '..UptoSaid' is the law's where the arguments, and the package variables that the reading takes, are together of bulk at most 1048576: NARROWER than '..Said'. Prove '..Said' where nothing that the law and all that it calls make is longer than what came in: it says more and counts as full. Else prove '..UptoSaid'. A law counts once. -/
mutual
def uptoBulk {H : Type} : DataW H → Nat
  | .lit (.string bytes) => bytes.length + 1
  | .lit _ => 1
  | .nil => 1
  | .ptr d => uptoBulk d + 1
  | .slice elems spare => uptoBulkAll elems + uptoBulkAll spare + 1
  | .agg parts => uptoBulkAll parts + 1
  | .iface _ d => uptoBulk d + 1
  | .map entries => uptoBulkEntries entries + 1
  | .held _ => 1
def uptoBulkAll {H : Type} : List (DataW H) → Nat
  | [] => 0
  | d :: r => uptoBulk d + uptoBulkAll r
def uptoBulkEntries {H : Type} : List (Lit × DataW H) → Nat
  | [] => 0
  | x :: r => uptoBulkEntry x + uptoBulkEntries r
def uptoBulkEntry {H : Type} : Lit × DataW H → Nat
  | (.string bytes, d) => bytes.length + uptoBulk d + 1
  | (_, d) => uptoBulk d + 1
 end
def uptoSmall : (H : Type) → List (DataW H) → Bool := fun _ ds => decide (uptoBulkAll ds ≤ 1048576)
def OpenSpec.upto (s : _root_.Go.ChangeSpec) : _root_.Go.OpenSpec := { _root_.Go.OpenSpec.ofChange s with cond := some uptoSmall }

/-- 'configlanglaw08.NumsetBounds', WHERE WHAT IT READS IS OF BULK AT MOST 1048576: true; the input reads as it did. -/
def numsetBoundsUptoRow : OpenClaim := { program := "ytaianhhmmacblaa", sum := "b77992fde7dffa355411fe21f068c447e4467b7bebad8395404e504a2901d8e0", func := "configlang/configlanglaw08.NumsetBounds", spec := "numsetBounds", unfollowed := true, recurses := true, apart := false, narrowed := true }
def NumsetBoundsUptoSaid : Prop := numsetBoundsUptoRow.holds Try.pinned (OpenSpec.upto numsetBoundsSpec)

/-- 'configlanglaw08.NumsetMeasures', WHERE WHAT IT READS IS OF BULK AT MOST 1048576: true; the input reads as it did. -/
def numsetMeasuresUptoRow : OpenClaim := { program := "ytaianhhmmacblaa", sum := "b77992fde7dffa355411fe21f068c447e4467b7bebad8395404e504a2901d8e0", func := "configlang/configlanglaw08.NumsetMeasures", spec := "numsetMeasures", unfollowed := true, recurses := true, apart := false, narrowed := true }
def NumsetMeasuresUptoSaid : Prop := numsetMeasuresUptoRow.holds Try.pinned (OpenSpec.upto numsetMeasuresSpec)

/-- 'configlanglaw08.NumsetCounts', WHERE WHAT IT READS IS OF BULK AT MOST 1048576: true; the input reads as it did. -/
def numsetCountsUptoRow : OpenClaim := { program := "ytaianhhmmacblaa", sum := "b77992fde7dffa355411fe21f068c447e4467b7bebad8395404e504a2901d8e0", func := "configlang/configlanglaw08.NumsetCounts", spec := "numsetCounts", unfollowed := true, recurses := true, apart := false, narrowed := true }
def NumsetCountsUptoSaid : Prop := numsetCountsUptoRow.holds Try.pinned (OpenSpec.upto numsetCountsSpec)

/-- 'configlanglaw08.NumsetMake', WHERE WHAT IT READS IS OF BULK AT MOST 1048576: true; the input reads as it did. -/
def numsetMakeUptoRow : OpenClaim := { program := "ytaianhhmmacblaa", sum := "b77992fde7dffa355411fe21f068c447e4467b7bebad8395404e504a2901d8e0", func := "configlang/configlanglaw08.NumsetMake", spec := "numsetMake", unfollowed := true, recurses := true, apart := false, narrowed := true }
def NumsetMakeUptoSaid : Prop := numsetMakeUptoRow.holds Try.pinned (OpenSpec.upto numsetMakeSpec)

/-- 'configlanglaw08.NumsetCanonical', WHERE WHAT IT READS IS OF BULK AT MOST 1048576: true; the input reads as it did. -/
def numsetCanonicalUptoRow : OpenClaim := { program := "ytaianhhmmacblaa", sum := "b77992fde7dffa355411fe21f068c447e4467b7bebad8395404e504a2901d8e0", func := "configlang/configlanglaw08.NumsetCanonical", spec := "numsetCanonical", unfollowed := true, recurses := true, apart := false, narrowed := true }
def NumsetCanonicalUptoSaid : Prop := numsetCanonicalUptoRow.holds Try.pinned (OpenSpec.upto numsetCanonicalSpec)

/-- 'configlanglaw08.NumsetAlgebra', WHERE WHAT IT READS IS OF BULK AT MOST 1048576: true; the input reads as it did. -/
def numsetAlgebraUptoRow : OpenClaim := { program := "ytaianhhmmacblaa", sum := "b77992fde7dffa355411fe21f068c447e4467b7bebad8395404e504a2901d8e0", func := "configlang/configlanglaw08.NumsetAlgebra", spec := "numsetAlgebra", unfollowed := true, recurses := true, apart := false, narrowed := true }
def NumsetAlgebraUptoSaid : Prop := numsetAlgebraUptoRow.holds Try.pinned (OpenSpec.upto numsetAlgebraSpec)

/-- 'configlanglaw08.NumsetLaws', WHERE WHAT IT READS IS OF BULK AT MOST 1048576: true; the input reads as it did. -/
def numsetLawsUptoRow : OpenClaim := { program := "ytaianhhmmacblaa", sum := "b77992fde7dffa355411fe21f068c447e4467b7bebad8395404e504a2901d8e0", func := "configlang/configlanglaw08.NumsetLaws", spec := "numsetLaws", unfollowed := true, recurses := true, apart := false, narrowed := true }
def NumsetLawsUptoSaid : Prop := numsetLawsUptoRow.holds Try.pinned (OpenSpec.upto numsetLawsSpec)

/-- 'configlanglaw08.NumsetCompare', WHERE WHAT IT READS IS OF BULK AT MOST 1048576: true; the input reads as it did. -/
def numsetCompareUptoRow : OpenClaim := { program := "ytaianhhmmacblaa", sum := "b77992fde7dffa355411fe21f068c447e4467b7bebad8395404e504a2901d8e0", func := "configlang/configlanglaw08.NumsetCompare", spec := "numsetCompare", unfollowed := true, recurses := true, apart := false, narrowed := true }
def NumsetCompareUptoSaid : Prop := numsetCompareUptoRow.holds Try.pinned (OpenSpec.upto numsetCompareSpec)

/-- 'configlanglaw08.NumsetMembers', WHERE WHAT IT READS IS OF BULK AT MOST 1048576: true; the input reads as it did. -/
def numsetMembersUptoRow : OpenClaim := { program := "ytaianhhmmacblaa", sum := "b77992fde7dffa355411fe21f068c447e4467b7bebad8395404e504a2901d8e0", func := "configlang/configlanglaw08.NumsetMembers", spec := "numsetMembers", unfollowed := true, recurses := true, apart := false, narrowed := true }
def NumsetMembersUptoSaid : Prop := numsetMembersUptoRow.holds Try.pinned (OpenSpec.upto numsetMembersSpec)

end Rows
end Go.Proofs.Ytaianhhmmacblaa
