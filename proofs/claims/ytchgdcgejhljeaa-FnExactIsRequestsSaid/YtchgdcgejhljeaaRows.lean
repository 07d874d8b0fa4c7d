/-
  No cell of these rows narrows 'for every input' (looked for: loops, veiled, ifaces, maps, wideKeys, modest, calm, conditions, laid).
  DERIVED. THE GIVEN ROWS OF THIS SEAT. 6 by the template 'for every input the law returns true; each argument reads behind the call as it read before'; 0 by the template 'total and deterministic' (their statements: YtchgdcgejhljeaaTotals.lean).
  GIVEN WITH THE SEED: the statements are not yours to turn. If you find one false, say at which input.
  Laid BY PROGRAM, IN A SANDBOX (cutbox-rows.mjs): the forced cells as the released guide's own fill.sh prints them over the translation 99cd5749f2cc6b95… (all of the seat's roots in one cut). By AI agents, Wed Nov 11 2026. No macro, syntax, notation, axiom, sorry.
-/
import Derived.Test.YtchgdcgejhljeaaChecked
import GoSem.Claim
import GoSem.ClaimJoined
import GoSem.ClaimMapViews
import Derived.JoinedTies
import Derived.KernelRfl
namespace Go.Proofs.Ytchgdcgejhljeaa
/- THE CELL 'sum', in the pinned program and in every row, IS THE sha256 OF THE DUMP (.gsa) THAT YtchgdcgejhljeaaProg.lean LOADS. Nothing in Lean hashes anything: it is a label: what it is worth is what the hold of that sum in a sandbox is worth. -/
noncomputable def Try.pinned : Pinned := { name := "ytchgdcgejhljeaa", sum := "99cd5749f2cc6b95e5240ceb078be36df762e7c7e7eb004408fabd1dc31a1655", checked := Try.checked }
namespace Rows
def none {H : Type} : Left H := { results := [], args := [] }

/-- 'laws.FnExactConstants': WHATEVER THE INPUT: true; the input reads as it did. -/
def fnExactConstantsSpec : ChangeSpec := { name := "fnExactConstants", fn := fun _ => fun
  | [] => { results := [.lit (.bool true)], args := [] }
  | _ => none }
def fnExactConstantsRow : OpenClaim := { program := "ytchgdcgejhljeaa", sum := "99cd5749f2cc6b95e5240ceb078be36df762e7c7e7eb004408fabd1dc31a1655", func := "loop.example/g01087/laws.FnExactConstants", spec := "fnExactConstants", apart := false }
def FnExactConstantsSaid : Prop := fnExactConstantsRow.holds Try.pinned (OpenSpec.ofChange fnExactConstantsSpec)

/-- ITS FALSE NEIGHBOUR: 'it returns false'. Refute it at one input. -/
def fnExactConstantsWrong : ChangeSpec := { name := "fnExactConstants", fn := fun _ => fun
  | [] => { results := [.lit (.bool false)], args := [] }
  | _ => none }
def FnExactConstantsWrongFalsely : Prop := fnExactConstantsRow.holds Try.pinned (OpenSpec.ofChange fnExactConstantsWrong)

/-- 'laws.FnExactLessString': WHATEVER THE INPUT: true; the input reads as it did. -/
def fnExactLessStringSpec : ChangeSpec := { name := "fnExactLessString", fn := fun _ => fun
  | [d1, d2] => { results := [.lit (.bool true)], args := [d1, d2] }
  | _ => none }
def fnExactLessStringRow : OpenClaim := { program := "ytchgdcgejhljeaa", sum := "99cd5749f2cc6b95e5240ceb078be36df762e7c7e7eb004408fabd1dc31a1655", func := "loop.example/g01087/laws.FnExactLessString", spec := "fnExactLessString", apart := false }
def FnExactLessStringSaid : Prop := fnExactLessStringRow.holds Try.pinned (OpenSpec.ofChange fnExactLessStringSpec)

/-- ITS FALSE NEIGHBOUR: 'it returns false'. Refute it at one input. -/
def fnExactLessStringWrong : ChangeSpec := { name := "fnExactLessString", fn := fun _ => fun
  | [d1, d2] => { results := [.lit (.bool false)], args := [d1, d2] }
  | _ => none }
def FnExactLessStringWrongFalsely : Prop := fnExactLessStringRow.holds Try.pinned (OpenSpec.ofChange fnExactLessStringWrong)

/-- 'laws.FnExactChecksum': WHATEVER THE INPUT: true; the input reads as it did. -/
def fnExactChecksumSpec : ChangeSpec := { name := "fnExactChecksum", fn := fun _ => fun
  | [d] => { results := [.lit (.bool true)], args := [d] }
  | _ => none }
def fnExactChecksumRow : OpenClaim := { program := "ytchgdcgejhljeaa", sum := "99cd5749f2cc6b95e5240ceb078be36df762e7c7e7eb004408fabd1dc31a1655", func := "loop.example/g01087/laws.FnExactChecksum", spec := "fnExactChecksum", apart := false }
def FnExactChecksumSaid : Prop := fnExactChecksumRow.holds Try.pinned (OpenSpec.ofChange fnExactChecksumSpec)

/-- ITS FALSE NEIGHBOUR: 'it returns false'. Refute it at one input. -/
def fnExactChecksumWrong : ChangeSpec := { name := "fnExactChecksum", fn := fun _ => fun
  | [d] => { results := [.lit (.bool false)], args := [d] }
  | _ => none }
def FnExactChecksumWrongFalsely : Prop := fnExactChecksumRow.holds Try.pinned (OpenSpec.ofChange fnExactChecksumWrong)

/-- 'laws.FnExactIsFrac': WHATEVER THE INPUT: true; the input reads as it did. -/
def fnExactIsFracSpec : ChangeSpec := { name := "fnExactIsFrac", fn := fun _ => fun
  | [d] => { results := [.lit (.bool true)], args := [d] }
  | _ => none }
def fnExactIsFracRow : OpenClaim := { program := "ytchgdcgejhljeaa", sum := "99cd5749f2cc6b95e5240ceb078be36df762e7c7e7eb004408fabd1dc31a1655", func := "loop.example/g01087/laws.FnExactIsFrac", spec := "fnExactIsFrac", apart := false }
def FnExactIsFracSaid : Prop := fnExactIsFracRow.holds Try.pinned (OpenSpec.ofChange fnExactIsFracSpec)

/-- ITS FALSE NEIGHBOUR: 'it returns false'. Refute it at one input. -/
def fnExactIsFracWrong : ChangeSpec := { name := "fnExactIsFrac", fn := fun _ => fun
  | [d] => { results := [.lit (.bool false)], args := [d] }
  | _ => none }
def FnExactIsFracWrongFalsely : Prop := fnExactIsFracRow.holds Try.pinned (OpenSpec.ofChange fnExactIsFracWrong)

/-- 'laws.FnExactIsRequests': WHATEVER THE INPUT: true; the input reads as it did. -/
def fnExactIsRequestsSpec : ChangeSpec := { name := "fnExactIsRequests", fn := fun _ => fun
  | [d1, d2] => { results := [.lit (.bool true)], args := [d1, d2] }
  | _ => none }
def fnExactIsRequestsRow : OpenClaim := { program := "ytchgdcgejhljeaa", sum := "99cd5749f2cc6b95e5240ceb078be36df762e7c7e7eb004408fabd1dc31a1655", func := "loop.example/g01087/laws.FnExactIsRequests", spec := "fnExactIsRequests", unfollowed := true, recurses := true, apart := false }
def FnExactIsRequestsSaid : Prop := fnExactIsRequestsRow.holds Try.pinned (OpenSpec.ofChange fnExactIsRequestsSpec)

/-- ITS FALSE NEIGHBOUR: 'it returns false'. Refute it at one input. -/
def fnExactIsRequestsWrong : ChangeSpec := { name := "fnExactIsRequests", fn := fun _ => fun
  | [d1, d2] => { results := [.lit (.bool false)], args := [d1, d2] }
  | _ => none }
def FnExactIsRequestsWrongFalsely : Prop := fnExactIsRequestsRow.holds Try.pinned (OpenSpec.ofChange fnExactIsRequestsWrong)

/-- 'laws.FnExactLoopRequests': WHATEVER THE INPUT: true; the input reads as it did. -/
def fnExactLoopRequestsSpec : ChangeSpec := { name := "fnExactLoopRequests", fn := fun _ => fun
  | [d1, d2, d3] => { results := [.lit (.bool true)], args := [d1, d2, d3] }
  | _ => none }
def fnExactLoopRequestsRow : OpenClaim := { program := "ytchgdcgejhljeaa", sum := "99cd5749f2cc6b95e5240ceb078be36df762e7c7e7eb004408fabd1dc31a1655", func := "loop.example/g01087/laws.FnExactLoopRequests", spec := "fnExactLoopRequests", apart := false }
def FnExactLoopRequestsSaid : Prop := fnExactLoopRequestsRow.holds Try.pinned (OpenSpec.ofChange fnExactLoopRequestsSpec)

/-- ITS FALSE NEIGHBOUR: 'it returns false'. Refute it at one input. -/
def fnExactLoopRequestsWrong : ChangeSpec := { name := "fnExactLoopRequests", fn := fun _ => fun
  | [d1, d2, d3] => { results := [.lit (.bool false)], args := [d1, d2, d3] }
  | _ => none }
def FnExactLoopRequestsWrongFalsely : Prop := fnExactLoopRequestsRow.holds Try.pinned (OpenSpec.ofChange fnExactLoopRequestsWrong)

/- THE SECOND FORM. 'bulk': how many values and letters a reading holds, each counted each time it is reached (what is shared counts as often as it is met; a slice's spare places count too). A statement '..UptoSaid' is the law's where the arguments, and the package variables that the reading takes, are together of bulk at most 1048576: NARROWER than '..Said'. Prove '..Said' where nothing that the law and all that it calls make is longer than what came in: it says more and counts as full. Else prove '..UptoSaid'. A law counts once. -/
mutual
def uptoBulk {H : Type} : DataW H → Nat
  | .lit (.string bytes) => bytes.length + 1
  | .lit _ => 1
  | .nil => 1
  | .ptr d => uptoBulk d + 1
  | .slice elems spare => uptoBulkAll elems + uptoBulkAll spare + 1
  | .agg parts => uptoBulkAll parts + 1
  | .iface _ d => uptoBulk d + 1
  | .map entries => uptoBulkEntries entries + 1
  | .held _ => 1
def uptoBulkAll {H : Type} : List (DataW H) → Nat
  | [] => 0
  | d :: r => uptoBulk d + uptoBulkAll r
def uptoBulkEntries {H : Type} : List (Lit × DataW H) → Nat
  | [] => 0
  | x :: r => uptoBulkEntry x + uptoBulkEntries r
def uptoBulkEntry {H : Type} : Lit × DataW H → Nat
  | (.string bytes, d) => bytes.length + uptoBulk d + 1
  | (_, d) => uptoBulk d + 1
 end
def uptoSmall : (H : Type) → List (DataW H) → Bool := fun _ ds => decide (uptoBulkAll ds ≤ 1048576)
def OpenSpec.upto (s : _root_.Go.ChangeSpec) : _root_.Go.OpenSpec := { _root_.Go.OpenSpec.ofChange s with cond := some uptoSmall }

/-- 'laws.FnExactConstants', WHERE WHAT IT READS IS OF BULK AT MOST 1048576: true; the input reads as it did. -/
def fnExactConstantsUptoRow : OpenClaim := { program := "ytchgdcgejhljeaa", sum := "99cd5749f2cc6b95e5240ceb078be36df762e7c7e7eb004408fabd1dc31a1655", func := "loop.example/g01087/laws.FnExactConstants", spec := "fnExactConstants", apart := false, narrowed := true }
def FnExactConstantsUptoSaid : Prop := fnExactConstantsUptoRow.holds Try.pinned (OpenSpec.upto fnExactConstantsSpec)

/-- 'laws.FnExactLessString', WHERE WHAT IT READS IS OF BULK AT MOST 1048576: true; the input reads as it did. -/
def fnExactLessStringUptoRow : OpenClaim := { program := "ytchgdcgejhljeaa", sum := "99cd5749f2cc6b95e5240ceb078be36df762e7c7e7eb004408fabd1dc31a1655", func := "loop.example/g01087/laws.FnExactLessString", spec := "fnExactLessString", apart := false, narrowed := true }
def FnExactLessStringUptoSaid : Prop := fnExactLessStringUptoRow.holds Try.pinned (OpenSpec.upto fnExactLessStringSpec)

/-- 'laws.FnExactChecksum', WHERE WHAT IT READS IS OF BULK AT MOST 1048576: true; the input reads as it did. -/
def fnExactChecksumUptoRow : OpenClaim := { program := "ytchgdcgejhljeaa", sum := "99cd5749f2cc6b95e5240ceb078be36df762e7c7e7eb004408fabd1dc31a1655", func := "loop.example/g01087/laws.FnExactChecksum", spec := "fnExactChecksum", apart := false, narrowed := true }
def FnExactChecksumUptoSaid : Prop := fnExactChecksumUptoRow.holds Try.pinned (OpenSpec.upto fnExactChecksumSpec)

/-- 'laws.FnExactIsFrac', WHERE WHAT IT READS IS OF BULK AT MOST 1048576: true; the input reads as it did. -/
def fnExactIsFracUptoRow : OpenClaim := { program := "ytchgdcgejhljeaa", sum := "99cd5749f2cc6b95e5240ceb078be36df762e7c7e7eb004408fabd1dc31a1655", func := "loop.example/g01087/laws.FnExactIsFrac", spec := "fnExactIsFrac", apart := false, narrowed := true }
def FnExactIsFracUptoSaid : Prop := fnExactIsFracUptoRow.holds Try.pinned (OpenSpec.upto fnExactIsFracSpec)

/-- 'laws.FnExactIsRequests', WHERE WHAT IT READS IS OF BULK AT MOST 1048576: true; the input reads as it did. -/
def fnExactIsRequestsUptoRow : OpenClaim := { program := "ytchgdcgejhljeaa", sum := "99cd5749f2cc6b95e5240ceb078be36df762e7c7e7eb004408fabd1dc31a1655", func := "loop.example/g01087/laws.FnExactIsRequests", spec := "fnExactIsRequests", unfollowed := true, recurses := true, apart := false, narrowed := true }
def FnExactIsRequestsUptoSaid : Prop := fnExactIsRequestsUptoRow.holds Try.pinned (OpenSpec.upto fnExactIsRequestsSpec)

/-- 'laws.FnExactLoopRequests', WHERE WHAT IT READS IS OF BULK AT MOST 1048576: true; the input reads as it did. -/
def fnExactLoopRequestsUptoRow : OpenClaim := { program := "ytchgdcgejhljeaa", sum := "99cd5749f2cc6b95e5240ceb078be36df762e7c7e7eb004408fabd1dc31a1655", func := "loop.example/g01087/laws.FnExactLoopRequests", spec := "fnExactLoopRequests", apart := false, narrowed := true }
def FnExactLoopRequestsUptoSaid : Prop := fnExactLoopRequestsUptoRow.holds Try.pinned (OpenSpec.upto fnExactLoopRequestsSpec)

end Rows
end Go.Proofs.Ytchgdcgejhljeaa
