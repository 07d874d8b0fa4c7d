/-
  No cell of these rows narrows 'for every input' (looked for: loops, veiled, ifaces, maps, wideKeys, modest, calm, conditions, laid).
  DERIVED. THE GIVEN ROWS OF THIS SEAT. 10 by the template 'for every input the law returns true; each argument reads behind the call as it read before'; 0 by the template 'total and deterministic' (their statements: YtbceekcfokgmpaaTotals.lean).
  GIVEN WITH THE SEED: the statements are not yours to turn. If you find one false, say at which input.
  Laid BY PROGRAM, IN A SANDBOX (cutbox-rows.mjs): the forced cells as the released guide's own fill.sh prints them over the translation e5f20f9eb912ebea… (all of the seat's roots in one cut). By AI agents, Wed Nov 11 2026. No macro, syntax, notation, axiom, sorry.
-/
import Derived.Test.YtbceekcfokgmpaaChecked
import GoSem.Claim
import GoSem.ClaimJoined
import GoSem.ClaimMapViews
import Derived.JoinedTies
import Derived.KernelRfl
namespace Go.Proofs.Ytbceekcfokgmpaa
/- THE CELL 'sum', in the pinned program and in every row, IS THE sha256 OF THE DUMP (.gsa) THAT YtbceekcfokgmpaaProg.lean LOADS. Nothing in Lean hashes anything: it is a label: what it is worth is what the hold of that sum in a sandbox is worth. -/
noncomputable def Try.pinned : Pinned := { name := "ytbceekcfokgmpaa", sum := "e5f20f9eb912ebeaedabb6c767c6c2873cb7603c04e5dc859b1775a22d4d3a13", checked := Try.checked }
namespace Rows
def none {H : Type} : Left H := { results := [], args := [] }

/-- 'laws.FnExactRenameRequests': WHATEVER THE INPUT: true; the input reads as it did. -/
def fnExactRenameRequestsSpec : ChangeSpec := { name := "fnExactRenameRequests", fn := fun _ => fun
  | [d1, d2, d3] => { results := [.lit (.bool true)], args := [d1, d2, d3] }
  | _ => none }
def fnExactRenameRequestsRow : OpenClaim := { program := "ytbceekcfokgmpaa", sum := "e5f20f9eb912ebeaedabb6c767c6c2873cb7603c04e5dc859b1775a22d4d3a13", func := "loop.example/g01087/laws.FnExactRenameRequests", spec := "fnExactRenameRequests", unfollowed := true, recurses := true, apart := false }
def FnExactRenameRequestsSaid : Prop := fnExactRenameRequestsRow.holds Try.pinned (OpenSpec.ofChange fnExactRenameRequestsSpec)

/-- ITS FALSE NEIGHBOUR: 'it returns false'. Refute it at one input. -/
def fnExactRenameRequestsWrong : ChangeSpec := { name := "fnExactRenameRequests", fn := fun _ => fun
  | [d1, d2, d3] => { results := [.lit (.bool false)], args := [d1, d2, d3] }
  | _ => none }
def FnExactRenameRequestsWrongFalsely : Prop := fnExactRenameRequestsRow.holds Try.pinned (OpenSpec.ofChange fnExactRenameRequestsWrong)

/-- 'laws.FnExactWindowSizes': WHATEVER THE INPUT: true; the input reads as it did. -/
def fnExactWindowSizesSpec : ChangeSpec := { name := "fnExactWindowSizes", fn := fun _ => fun
  | [d1, d2, d3] => { results := [.lit (.bool true)], args := [d1, d2, d3] }
  | _ => none }
def fnExactWindowSizesRow : OpenClaim := { program := "ytbceekcfokgmpaa", sum := "e5f20f9eb912ebeaedabb6c767c6c2873cb7603c04e5dc859b1775a22d4d3a13", func := "loop.example/g01087/laws.FnExactWindowSizes", spec := "fnExactWindowSizes", unfollowed := true, recurses := true, apart := false }
def FnExactWindowSizesSaid : Prop := fnExactWindowSizesRow.holds Try.pinned (OpenSpec.ofChange fnExactWindowSizesSpec)

/-- ITS FALSE NEIGHBOUR: 'it returns false'. Refute it at one input. -/
def fnExactWindowSizesWrong : ChangeSpec := { name := "fnExactWindowSizes", fn := fun _ => fun
  | [d1, d2, d3] => { results := [.lit (.bool false)], args := [d1, d2, d3] }
  | _ => none }
def FnExactWindowSizesWrongFalsely : Prop := fnExactWindowSizesRow.holds Try.pinned (OpenSpec.ofChange fnExactWindowSizesWrong)

/-- 'laws.FnExactPhasesOf': WHATEVER THE INPUT: true; the input reads as it did. -/
def fnExactPhasesOfSpec : ChangeSpec := { name := "fnExactPhasesOf", fn := fun _ => fun
  | [d1, d2, d3] => { results := [.lit (.bool true)], args := [d1, d2, d3] }
  | _ => none }
def fnExactPhasesOfRow : OpenClaim := { program := "ytbceekcfokgmpaa", sum := "e5f20f9eb912ebeaedabb6c767c6c2873cb7603c04e5dc859b1775a22d4d3a13", func := "loop.example/g01087/laws.FnExactPhasesOf", spec := "fnExactPhasesOf", unfollowed := true, recurses := true, apart := false }
def FnExactPhasesOfSaid : Prop := fnExactPhasesOfRow.holds Try.pinned (OpenSpec.ofChange fnExactPhasesOfSpec)

/-- ITS FALSE NEIGHBOUR: 'it returns false'. Refute it at one input. -/
def fnExactPhasesOfWrong : ChangeSpec := { name := "fnExactPhasesOf", fn := fun _ => fun
  | [d1, d2, d3] => { results := [.lit (.bool false)], args := [d1, d2, d3] }
  | _ => none }
def FnExactPhasesOfWrongFalsely : Prop := fnExactPhasesOfRow.holds Try.pinned (OpenSpec.ofChange fnExactPhasesOfWrong)

/-- 'laws.FnExactStackDistances': WHATEVER THE INPUT: true; the input reads as it did. -/
def fnExactStackDistancesSpec : ChangeSpec := { name := "fnExactStackDistances", fn := fun _ => fun
  | [d1, d2] => { results := [.lit (.bool true)], args := [d1, d2] }
  | _ => none }
def fnExactStackDistancesRow : OpenClaim := { program := "ytbceekcfokgmpaa", sum := "e5f20f9eb912ebeaedabb6c767c6c2873cb7603c04e5dc859b1775a22d4d3a13", func := "loop.example/g01087/laws.FnExactStackDistances", spec := "fnExactStackDistances", unfollowed := true, recurses := true, apart := false }
def FnExactStackDistancesSaid : Prop := fnExactStackDistancesRow.holds Try.pinned (OpenSpec.ofChange fnExactStackDistancesSpec)

/-- ITS FALSE NEIGHBOUR: 'it returns false'. Refute it at one input. -/
def fnExactStackDistancesWrong : ChangeSpec := { name := "fnExactStackDistances", fn := fun _ => fun
  | [d1, d2] => { results := [.lit (.bool false)], args := [d1, d2] }
  | _ => none }
def FnExactStackDistancesWrongFalsely : Prop := fnExactStackDistancesRow.holds Try.pinned (OpenSpec.ofChange fnExactStackDistancesWrong)

/-- 'laws.FnExactProjectRequests': WHATEVER THE INPUT: true; the input reads as it did. -/
def fnExactProjectRequestsSpec : ChangeSpec := { name := "fnExactProjectRequests", fn := fun _ => fun
  | [d1, d2, d3] => { results := [.lit (.bool true)], args := [d1, d2, d3] }
  | _ => none }
def fnExactProjectRequestsRow : OpenClaim := { program := "ytbceekcfokgmpaa", sum := "e5f20f9eb912ebeaedabb6c767c6c2873cb7603c04e5dc859b1775a22d4d3a13", func := "loop.example/g01087/laws.FnExactProjectRequests", spec := "fnExactProjectRequests", unfollowed := true, recurses := true, apart := false }
def FnExactProjectRequestsSaid : Prop := fnExactProjectRequestsRow.holds Try.pinned (OpenSpec.ofChange fnExactProjectRequestsSpec)

/-- ITS FALSE NEIGHBOUR: 'it returns false'. Refute it at one input. -/
def fnExactProjectRequestsWrong : ChangeSpec := { name := "fnExactProjectRequests", fn := fun _ => fun
  | [d1, d2, d3] => { results := [.lit (.bool false)], args := [d1, d2, d3] }
  | _ => none }
def FnExactProjectRequestsWrongFalsely : Prop := fnExactProjectRequestsRow.holds Try.pinned (OpenSpec.ofChange fnExactProjectRequestsWrong)

/-- 'laws.FnExactDistanceCounts': WHATEVER THE INPUT: true; the input reads as it did. -/
def fnExactDistanceCountsSpec : ChangeSpec := { name := "fnExactDistanceCounts", fn := fun _ => fun
  | [d1, d2] => { results := [.lit (.bool true)], args := [d1, d2] }
  | _ => none }
def fnExactDistanceCountsRow : OpenClaim := { program := "ytbceekcfokgmpaa", sum := "e5f20f9eb912ebeaedabb6c767c6c2873cb7603c04e5dc859b1775a22d4d3a13", func := "loop.example/g01087/laws.FnExactDistanceCounts", spec := "fnExactDistanceCounts", unfollowed := true, recurses := true, apart := false }
def FnExactDistanceCountsSaid : Prop := fnExactDistanceCountsRow.holds Try.pinned (OpenSpec.ofChange fnExactDistanceCountsSpec)

/-- ITS FALSE NEIGHBOUR: 'it returns false'. Refute it at one input. -/
def fnExactDistanceCountsWrong : ChangeSpec := { name := "fnExactDistanceCounts", fn := fun _ => fun
  | [d1, d2] => { results := [.lit (.bool false)], args := [d1, d2] }
  | _ => none }
def FnExactDistanceCountsWrongFalsely : Prop := fnExactDistanceCountsRow.holds Try.pinned (OpenSpec.ofChange fnExactDistanceCountsWrong)

/-- 'laws.FnExactIsCache': WHATEVER THE INPUT: true; the input reads as it did. -/
def fnExactIsCacheSpec : ChangeSpec := { name := "fnExactIsCache", fn := fun _ => fun
  | [d1, d2] => { results := [.lit (.bool true)], args := [d1, d2] }
  | _ => none }
def fnExactIsCacheRow : OpenClaim := { program := "ytbceekcfokgmpaa", sum := "e5f20f9eb912ebeaedabb6c767c6c2873cb7603c04e5dc859b1775a22d4d3a13", func := "loop.example/g01087/laws.FnExactIsCache", spec := "fnExactIsCache", unfollowed := true, recurses := true, apart := false }
def FnExactIsCacheSaid : Prop := fnExactIsCacheRow.holds Try.pinned (OpenSpec.ofChange fnExactIsCacheSpec)

/-- ITS FALSE NEIGHBOUR: 'it returns false'. Refute it at one input. -/
def fnExactIsCacheWrong : ChangeSpec := { name := "fnExactIsCache", fn := fun _ => fun
  | [d1, d2] => { results := [.lit (.bool false)], args := [d1, d2] }
  | _ => none }
def FnExactIsCacheWrongFalsely : Prop := fnExactIsCacheRow.holds Try.pinned (OpenSpec.ofChange fnExactIsCacheWrong)

/-- 'laws.FnExactCurveOf': WHATEVER THE INPUT: true; the input reads as it did. -/
def fnExactCurveOfSpec : ChangeSpec := { name := "fnExactCurveOf", fn := fun _ => fun
  | [d1, d2] => { results := [.lit (.bool true)], args := [d1, d2] }
  | _ => none }
def fnExactCurveOfRow : OpenClaim := { program := "ytbceekcfokgmpaa", sum := "e5f20f9eb912ebeaedabb6c767c6c2873cb7603c04e5dc859b1775a22d4d3a13", func := "loop.example/g01087/laws.FnExactCurveOf", spec := "fnExactCurveOf", unfollowed := true, recurses := true, apart := false }
def FnExactCurveOfSaid : Prop := fnExactCurveOfRow.holds Try.pinned (OpenSpec.ofChange fnExactCurveOfSpec)

/-- ITS FALSE NEIGHBOUR: 'it returns false'. Refute it at one input. -/
def fnExactCurveOfWrong : ChangeSpec := { name := "fnExactCurveOf", fn := fun _ => fun
  | [d1, d2] => { results := [.lit (.bool false)], args := [d1, d2] }
  | _ => none }
def FnExactCurveOfWrongFalsely : Prop := fnExactCurveOfRow.holds Try.pinned (OpenSpec.ofChange fnExactCurveOfWrong)

/-- 'laws.FnExactIsPlan': WHATEVER THE INPUT: true; the input reads as it did. -/
def fnExactIsPlanSpec : ChangeSpec := { name := "fnExactIsPlan", fn := fun _ => fun
  | [d1, d2, d3, d4] => { results := [.lit (.bool true)], args := [d1, d2, d3, d4] }
  | _ => none }
def fnExactIsPlanRow : OpenClaim := { program := "ytbceekcfokgmpaa", sum := "e5f20f9eb912ebeaedabb6c767c6c2873cb7603c04e5dc859b1775a22d4d3a13", func := "loop.example/g01087/laws.FnExactIsPlan", spec := "fnExactIsPlan", unfollowed := true, recurses := true, apart := false }
def FnExactIsPlanSaid : Prop := fnExactIsPlanRow.holds Try.pinned (OpenSpec.ofChange fnExactIsPlanSpec)

/-- ITS FALSE NEIGHBOUR: 'it returns false'. Refute it at one input. -/
def fnExactIsPlanWrong : ChangeSpec := { name := "fnExactIsPlan", fn := fun _ => fun
  | [d1, d2, d3, d4] => { results := [.lit (.bool false)], args := [d1, d2, d3, d4] }
  | _ => none }
def FnExactIsPlanWrongFalsely : Prop := fnExactIsPlanRow.holds Try.pinned (OpenSpec.ofChange fnExactIsPlanWrong)

/-- 'laws.FnExactIsHit': WHATEVER THE INPUT: true; the input reads as it did. -/
def fnExactIsHitSpec : ChangeSpec := { name := "fnExactIsHit", fn := fun _ => fun
  | [d1, d2, d3] => { results := [.lit (.bool true)], args := [d1, d2, d3] }
  | _ => none }
def fnExactIsHitRow : OpenClaim := { program := "ytbceekcfokgmpaa", sum := "e5f20f9eb912ebeaedabb6c767c6c2873cb7603c04e5dc859b1775a22d4d3a13", func := "loop.example/g01087/laws.FnExactIsHit", spec := "fnExactIsHit", unfollowed := true, recurses := true, apart := false }
def FnExactIsHitSaid : Prop := fnExactIsHitRow.holds Try.pinned (OpenSpec.ofChange fnExactIsHitSpec)

/-- ITS FALSE NEIGHBOUR: 'it returns false'. Refute it at one input. -/
def fnExactIsHitWrong : ChangeSpec := { name := "fnExactIsHit", fn := fun _ => fun
  | [d1, d2, d3] => { results := [.lit (.bool false)], args := [d1, d2, d3] }
  | _ => none }
def FnExactIsHitWrongFalsely : Prop := fnExactIsHitRow.holds Try.pinned (OpenSpec.ofChange fnExactIsHitWrong)

/- THE SECOND FORM. 'bulk': how many values and letters a reading holds, each counted each time it is reached (what is shared counts as often as it is met; a slice's spare places count too). A statement '..UptoSaid' is the law's where the arguments, and the package variables that the reading takes, are together of bulk at most 1048576: NARROWER than '..Said'. Prove '..Said' where nothing that the law and all that it calls make is longer than what came in: it says more and counts as full. Else prove '..UptoSaid'. A law counts once. -/
mutual
def uptoBulk {H : Type} : DataW H → Nat
  | .lit (.string bytes) => bytes.length + 1
  | .lit _ => 1
  | .nil => 1
  | .ptr d => uptoBulk d + 1
  | .slice elems spare => uptoBulkAll elems + uptoBulkAll spare + 1
  | .agg parts => uptoBulkAll parts + 1
  | .iface _ d => uptoBulk d + 1
  | .map entries => uptoBulkEntries entries + 1
  | .held _ => 1
def uptoBulkAll {H : Type} : List (DataW H) → Nat
  | [] => 0
  | d :: r => uptoBulk d + uptoBulkAll r
def uptoBulkEntries {H : Type} : List (Lit × DataW H) → Nat
  | [] => 0
  | x :: r => uptoBulkEntry x + uptoBulkEntries r
def uptoBulkEntry {H : Type} : Lit × DataW H → Nat
  | (.string bytes, d) => bytes.length + uptoBulk d + 1
  | (_, d) => uptoBulk d + 1
 end
def uptoSmall : (H : Type) → List (DataW H) → Bool := fun _ ds => decide (uptoBulkAll ds ≤ 1048576)
def OpenSpec.upto (s : _root_.Go.ChangeSpec) : _root_.Go.OpenSpec := { _root_.Go.OpenSpec.ofChange s with cond := some uptoSmall }

/-- 'laws.FnExactRenameRequests', WHERE WHAT IT READS IS OF BULK AT MOST 1048576: true; the input reads as it did. -/
def fnExactRenameRequestsUptoRow : OpenClaim := { program := "ytbceekcfokgmpaa", sum := "e5f20f9eb912ebeaedabb6c767c6c2873cb7603c04e5dc859b1775a22d4d3a13", func := "loop.example/g01087/laws.FnExactRenameRequests", spec := "fnExactRenameRequests", unfollowed := true, recurses := true, apart := false, narrowed := true }
def FnExactRenameRequestsUptoSaid : Prop := fnExactRenameRequestsUptoRow.holds Try.pinned (OpenSpec.upto fnExactRenameRequestsSpec)

/-- 'laws.FnExactWindowSizes', WHERE WHAT IT READS IS OF BULK AT MOST 1048576: true; the input reads as it did. -/
def fnExactWindowSizesUptoRow : OpenClaim := { program := "ytbceekcfokgmpaa", sum := "e5f20f9eb912ebeaedabb6c767c6c2873cb7603c04e5dc859b1775a22d4d3a13", func := "loop.example/g01087/laws.FnExactWindowSizes", spec := "fnExactWindowSizes", unfollowed := true, recurses := true, apart := false, narrowed := true }
def FnExactWindowSizesUptoSaid : Prop := fnExactWindowSizesUptoRow.holds Try.pinned (OpenSpec.upto fnExactWindowSizesSpec)

/-- 'laws.FnExactPhasesOf', WHERE WHAT IT READS IS OF BULK AT MOST 1048576: true; the input reads as it did. -/
def fnExactPhasesOfUptoRow : OpenClaim := { program := "ytbceekcfokgmpaa", sum := "e5f20f9eb912ebeaedabb6c767c6c2873cb7603c04e5dc859b1775a22d4d3a13", func := "loop.example/g01087/laws.FnExactPhasesOf", spec := "fnExactPhasesOf", unfollowed := true, recurses := true, apart := false, narrowed := true }
def FnExactPhasesOfUptoSaid : Prop := fnExactPhasesOfUptoRow.holds Try.pinned (OpenSpec.upto fnExactPhasesOfSpec)

/-- 'laws.FnExactStackDistances', WHERE WHAT IT READS IS OF BULK AT MOST 1048576: true; the input reads as it did. -/
def fnExactStackDistancesUptoRow : OpenClaim := { program := "ytbceekcfokgmpaa", sum := "e5f20f9eb912ebeaedabb6c767c6c2873cb7603c04e5dc859b1775a22d4d3a13", func := "loop.example/g01087/laws.FnExactStackDistances", spec := "fnExactStackDistances", unfollowed := true, recurses := true, apart := false, narrowed := true }
def FnExactStackDistancesUptoSaid : Prop := fnExactStackDistancesUptoRow.holds Try.pinned (OpenSpec.upto fnExactStackDistancesSpec)

/-- 'laws.FnExactProjectRequests', WHERE WHAT IT READS IS OF BULK AT MOST 1048576: true; the input reads as it did. -/
def fnExactProjectRequestsUptoRow : OpenClaim := { program := "ytbceekcfokgmpaa", sum := "e5f20f9eb912ebeaedabb6c767c6c2873cb7603c04e5dc859b1775a22d4d3a13", func := "loop.example/g01087/laws.FnExactProjectRequests", spec := "fnExactProjectRequests", unfollowed := true, recurses := true, apart := false, narrowed := true }
def FnExactProjectRequestsUptoSaid : Prop := fnExactProjectRequestsUptoRow.holds Try.pinned (OpenSpec.upto fnExactProjectRequestsSpec)

/-- 'laws.FnExactDistanceCounts', WHERE WHAT IT READS IS OF BULK AT MOST 1048576: true; the input reads as it did. -/
def fnExactDistanceCountsUptoRow : OpenClaim := { program := "ytbceekcfokgmpaa", sum := "e5f20f9eb912ebeaedabb6c767c6c2873cb7603c04e5dc859b1775a22d4d3a13", func := "loop.example/g01087/laws.FnExactDistanceCounts", spec := "fnExactDistanceCounts", unfollowed := true, recurses := true, apart := false, narrowed := true }
def FnExactDistanceCountsUptoSaid : Prop := fnExactDistanceCountsUptoRow.holds Try.pinned (OpenSpec.upto fnExactDistanceCountsSpec)

/-- 'laws.FnExactIsCache', WHERE WHAT IT READS IS OF BULK AT MOST 1048576: true; the input reads as it did. -/
def fnExactIsCacheUptoRow : OpenClaim := { program := "ytbceekcfokgmpaa", sum := "e5f20f9eb912ebeaedabb6c767c6c2873cb7603c04e5dc859b1775a22d4d3a13", func := "loop.example/g01087/laws.FnExactIsCache", spec := "fnExactIsCache", unfollowed := true, recurses := true, apart := false, narrowed := true }
def FnExactIsCacheUptoSaid : Prop := fnExactIsCacheUptoRow.holds Try.pinned (OpenSpec.upto fnExactIsCacheSpec)

/-- 'laws.FnExactCurveOf', WHERE WHAT IT READS IS OF BULK AT MOST 1048576: true; the input reads as it did. -/
def fnExactCurveOfUptoRow : OpenClaim := { program := "ytbceekcfokgmpaa", sum := "e5f20f9eb912ebeaedabb6c767c6c2873cb7603c04e5dc859b1775a22d4d3a13", func := "loop.example/g01087/laws.FnExactCurveOf", spec := "fnExactCurveOf", unfollowed := true, recurses := true, apart := false, narrowed := true }
def FnExactCurveOfUptoSaid : Prop := fnExactCurveOfUptoRow.holds Try.pinned (OpenSpec.upto fnExactCurveOfSpec)

/-- 'laws.FnExactIsPlan', WHERE WHAT IT READS IS OF BULK AT MOST 1048576: true; the input reads as it did. -/
def fnExactIsPlanUptoRow : OpenClaim := { program := "ytbceekcfokgmpaa", sum := "e5f20f9eb912ebeaedabb6c767c6c2873cb7603c04e5dc859b1775a22d4d3a13", func := "loop.example/g01087/laws.FnExactIsPlan", spec := "fnExactIsPlan", unfollowed := true, recurses := true, apart := false, narrowed := true }
def FnExactIsPlanUptoSaid : Prop := fnExactIsPlanUptoRow.holds Try.pinned (OpenSpec.upto fnExactIsPlanSpec)

/-- 'laws.FnExactIsHit', WHERE WHAT IT READS IS OF BULK AT MOST 1048576: true; the input reads as it did. -/
def fnExactIsHitUptoRow : OpenClaim := { program := "ytbceekcfokgmpaa", sum := "e5f20f9eb912ebeaedabb6c767c6c2873cb7603c04e5dc859b1775a22d4d3a13", func := "loop.example/g01087/laws.FnExactIsHit", spec := "fnExactIsHit", unfollowed := true, recurses := true, apart := false, narrowed := true }
def FnExactIsHitUptoSaid : Prop := fnExactIsHitUptoRow.holds Try.pinned (OpenSpec.upto fnExactIsHitSpec)

end Rows
end Go.Proofs.Ytbceekcfokgmpaa
