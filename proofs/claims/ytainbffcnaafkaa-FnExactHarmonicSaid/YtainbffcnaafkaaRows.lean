/-
  No cell of these rows narrows 'for every input' (looked for: loops, veiled, ifaces, maps, wideKeys, modest, calm, conditions, laid).
  DERIVED. THE GIVEN ROWS OF THIS SEAT. 12 by the template 'for every input the law returns true; each argument reads behind the call as it read before'; 0 by the template 'total and deterministic' (their statements: YtainbffcnaafkaaTotals.lean).
  GIVEN WITH THE SEED: the statements are not yours to turn. If you find one false, say at which input.
  Laid BY PROGRAM, IN A SANDBOX (cutbox-rows.mjs): the forced cells as the released guide's own fill.sh prints them over the translation e56679988befb331… (all of the seat's roots in one cut). By AI agents, Wed Nov 11 2026. No macro, syntax, notation, axiom, sorry.
-/
import Derived.Test.YtainbffcnaafkaaChecked
import GoSem.Claim
import GoSem.ClaimJoined
import GoSem.ClaimMapViews
import Derived.JoinedTies
import Derived.KernelRfl
namespace Go.Proofs.Ytainbffcnaafkaa
/- THE CELL 'sum', in the pinned program and in every row, IS THE sha256 OF THE DUMP (.gsa) THAT YtainbffcnaafkaaProg.lean LOADS. Nothing in Lean hashes anything: it is a label: what it is worth is what the hold of that sum in a sandbox is worth. -/
noncomputable def Try.pinned : Pinned := { name := "ytainbffcnaafkaa", sum := "e56679988befb331eaad33b3b4f580146d73c9113136f7d634893eba49514bd7", checked := Try.checked }
namespace Rows
def none {H : Type} : Left H := { results := [], args := [] }

/-- 'laws.FnExactCeilFrac': WHATEVER THE INPUT: true; the input reads as it did. -/
def fnExactCeilFracSpec : ChangeSpec := { name := "fnExactCeilFrac", fn := fun _ => fun
  | [d] => { results := [.lit (.bool true)], args := [d] }
  | _ => none }
def fnExactCeilFracRow : OpenClaim := { program := "ytainbffcnaafkaa", sum := "e56679988befb331eaad33b3b4f580146d73c9113136f7d634893eba49514bd7", func := "loop.example/g01087/laws.FnExactCeilFrac", spec := "fnExactCeilFrac", apart := false }
def FnExactCeilFracSaid : Prop := fnExactCeilFracRow.holds Try.pinned (OpenSpec.ofChange fnExactCeilFracSpec)

/-- ITS FALSE NEIGHBOUR: 'it returns false'. Refute it at one input. -/
def fnExactCeilFracWrong : ChangeSpec := { name := "fnExactCeilFrac", fn := fun _ => fun
  | [d] => { results := [.lit (.bool false)], args := [d] }
  | _ => none }
def FnExactCeilFracWrongFalsely : Prop := fnExactCeilFracRow.holds Try.pinned (OpenSpec.ofChange fnExactCeilFracWrong)

/-- 'laws.FnExactFloorFrac': WHATEVER THE INPUT: true; the input reads as it did. -/
def fnExactFloorFracSpec : ChangeSpec := { name := "fnExactFloorFrac", fn := fun _ => fun
  | [d] => { results := [.lit (.bool true)], args := [d] }
  | _ => none }
def fnExactFloorFracRow : OpenClaim := { program := "ytainbffcnaafkaa", sum := "e56679988befb331eaad33b3b4f580146d73c9113136f7d634893eba49514bd7", func := "loop.example/g01087/laws.FnExactFloorFrac", spec := "fnExactFloorFrac", apart := false }
def FnExactFloorFracSaid : Prop := fnExactFloorFracRow.holds Try.pinned (OpenSpec.ofChange fnExactFloorFracSpec)

/-- ITS FALSE NEIGHBOUR: 'it returns false'. Refute it at one input. -/
def fnExactFloorFracWrong : ChangeSpec := { name := "fnExactFloorFrac", fn := fun _ => fun
  | [d] => { results := [.lit (.bool false)], args := [d] }
  | _ => none }
def FnExactFloorFracWrongFalsely : Prop := fnExactFloorFracRow.holds Try.pinned (OpenSpec.ofChange fnExactFloorFracWrong)

/-- 'laws.FnExactMakeFrac': WHATEVER THE INPUT: true; the input reads as it did. -/
def fnExactMakeFracSpec : ChangeSpec := { name := "fnExactMakeFrac", fn := fun _ => fun
  | [d1, d2] => { results := [.lit (.bool true)], args := [d1, d2] }
  | _ => none }
def fnExactMakeFracRow : OpenClaim := { program := "ytainbffcnaafkaa", sum := "e56679988befb331eaad33b3b4f580146d73c9113136f7d634893eba49514bd7", func := "loop.example/g01087/laws.FnExactMakeFrac", spec := "fnExactMakeFrac", apart := false }
def FnExactMakeFracSaid : Prop := fnExactMakeFracRow.holds Try.pinned (OpenSpec.ofChange fnExactMakeFracSpec)

/-- ITS FALSE NEIGHBOUR: 'it returns false'. Refute it at one input. -/
def fnExactMakeFracWrong : ChangeSpec := { name := "fnExactMakeFrac", fn := fun _ => fun
  | [d1, d2] => { results := [.lit (.bool false)], args := [d1, d2] }
  | _ => none }
def FnExactMakeFracWrongFalsely : Prop := fnExactMakeFracRow.holds Try.pinned (OpenSpec.ofChange fnExactMakeFracWrong)

/-- 'laws.FnExactMulFracs': WHATEVER THE INPUT: true; the input reads as it did. -/
def fnExactMulFracsSpec : ChangeSpec := { name := "fnExactMulFracs", fn := fun _ => fun
  | [d1, d2] => { results := [.lit (.bool true)], args := [d1, d2] }
  | _ => none }
def fnExactMulFracsRow : OpenClaim := { program := "ytainbffcnaafkaa", sum := "e56679988befb331eaad33b3b4f580146d73c9113136f7d634893eba49514bd7", func := "loop.example/g01087/laws.FnExactMulFracs", spec := "fnExactMulFracs", apart := false }
def FnExactMulFracsSaid : Prop := fnExactMulFracsRow.holds Try.pinned (OpenSpec.ofChange fnExactMulFracsSpec)

/-- ITS FALSE NEIGHBOUR: 'it returns false'. Refute it at one input. -/
def fnExactMulFracsWrong : ChangeSpec := { name := "fnExactMulFracs", fn := fun _ => fun
  | [d1, d2] => { results := [.lit (.bool false)], args := [d1, d2] }
  | _ => none }
def FnExactMulFracsWrongFalsely : Prop := fnExactMulFracsRow.holds Try.pinned (OpenSpec.ofChange fnExactMulFracsWrong)

/-- 'laws.FnExactAddFracs': WHATEVER THE INPUT: true; the input reads as it did. -/
def fnExactAddFracsSpec : ChangeSpec := { name := "fnExactAddFracs", fn := fun _ => fun
  | [d1, d2] => { results := [.lit (.bool true)], args := [d1, d2] }
  | _ => none }
def fnExactAddFracsRow : OpenClaim := { program := "ytainbffcnaafkaa", sum := "e56679988befb331eaad33b3b4f580146d73c9113136f7d634893eba49514bd7", func := "loop.example/g01087/laws.FnExactAddFracs", spec := "fnExactAddFracs", apart := false }
def FnExactAddFracsSaid : Prop := fnExactAddFracsRow.holds Try.pinned (OpenSpec.ofChange fnExactAddFracsSpec)

/-- ITS FALSE NEIGHBOUR: 'it returns false'. Refute it at one input. -/
def fnExactAddFracsWrong : ChangeSpec := { name := "fnExactAddFracs", fn := fun _ => fun
  | [d1, d2] => { results := [.lit (.bool false)], args := [d1, d2] }
  | _ => none }
def FnExactAddFracsWrongFalsely : Prop := fnExactAddFracsRow.holds Try.pinned (OpenSpec.ofChange fnExactAddFracsWrong)

/-- 'laws.FnExactSubFracs': WHATEVER THE INPUT: true; the input reads as it did. -/
def fnExactSubFracsSpec : ChangeSpec := { name := "fnExactSubFracs", fn := fun _ => fun
  | [d1, d2] => { results := [.lit (.bool true)], args := [d1, d2] }
  | _ => none }
def fnExactSubFracsRow : OpenClaim := { program := "ytainbffcnaafkaa", sum := "e56679988befb331eaad33b3b4f580146d73c9113136f7d634893eba49514bd7", func := "loop.example/g01087/laws.FnExactSubFracs", spec := "fnExactSubFracs", apart := false }
def FnExactSubFracsSaid : Prop := fnExactSubFracsRow.holds Try.pinned (OpenSpec.ofChange fnExactSubFracsSpec)

/-- ITS FALSE NEIGHBOUR: 'it returns false'. Refute it at one input. -/
def fnExactSubFracsWrong : ChangeSpec := { name := "fnExactSubFracs", fn := fun _ => fun
  | [d1, d2] => { results := [.lit (.bool false)], args := [d1, d2] }
  | _ => none }
def FnExactSubFracsWrongFalsely : Prop := fnExactSubFracsRow.holds Try.pinned (OpenSpec.ofChange fnExactSubFracsWrong)

/-- 'laws.FnExactCompareFracs': WHATEVER THE INPUT: true; the input reads as it did. -/
def fnExactCompareFracsSpec : ChangeSpec := { name := "fnExactCompareFracs", fn := fun _ => fun
  | [d1, d2] => { results := [.lit (.bool true)], args := [d1, d2] }
  | _ => none }
def fnExactCompareFracsRow : OpenClaim := { program := "ytainbffcnaafkaa", sum := "e56679988befb331eaad33b3b4f580146d73c9113136f7d634893eba49514bd7", func := "loop.example/g01087/laws.FnExactCompareFracs", spec := "fnExactCompareFracs", apart := false }
def FnExactCompareFracsSaid : Prop := fnExactCompareFracsRow.holds Try.pinned (OpenSpec.ofChange fnExactCompareFracsSpec)

/-- ITS FALSE NEIGHBOUR: 'it returns false'. Refute it at one input. -/
def fnExactCompareFracsWrong : ChangeSpec := { name := "fnExactCompareFracs", fn := fun _ => fun
  | [d1, d2] => { results := [.lit (.bool false)], args := [d1, d2] }
  | _ => none }
def FnExactCompareFracsWrongFalsely : Prop := fnExactCompareFracsRow.holds Try.pinned (OpenSpec.ofChange fnExactCompareFracsWrong)

/-- 'laws.FnExactDivFracs': WHATEVER THE INPUT: true; the input reads as it did. -/
def fnExactDivFracsSpec : ChangeSpec := { name := "fnExactDivFracs", fn := fun _ => fun
  | [d1, d2] => { results := [.lit (.bool true)], args := [d1, d2] }
  | _ => none }
def fnExactDivFracsRow : OpenClaim := { program := "ytainbffcnaafkaa", sum := "e56679988befb331eaad33b3b4f580146d73c9113136f7d634893eba49514bd7", func := "loop.example/g01087/laws.FnExactDivFracs", spec := "fnExactDivFracs", apart := false }
def FnExactDivFracsSaid : Prop := fnExactDivFracsRow.holds Try.pinned (OpenSpec.ofChange fnExactDivFracsSpec)

/-- ITS FALSE NEIGHBOUR: 'it returns false'. Refute it at one input. -/
def fnExactDivFracsWrong : ChangeSpec := { name := "fnExactDivFracs", fn := fun _ => fun
  | [d1, d2] => { results := [.lit (.bool false)], args := [d1, d2] }
  | _ => none }
def FnExactDivFracsWrongFalsely : Prop := fnExactDivFracsRow.holds Try.pinned (OpenSpec.ofChange fnExactDivFracsWrong)

/-- 'laws.FnExactMeanFrac': WHATEVER THE INPUT: true; the input reads as it did. -/
def fnExactMeanFracSpec : ChangeSpec := { name := "fnExactMeanFrac", fn := fun _ => fun
  | [d] => { results := [.lit (.bool true)], args := [d] }
  | _ => none }
def fnExactMeanFracRow : OpenClaim := { program := "ytainbffcnaafkaa", sum := "e56679988befb331eaad33b3b4f580146d73c9113136f7d634893eba49514bd7", func := "loop.example/g01087/laws.FnExactMeanFrac", spec := "fnExactMeanFrac", apart := false }
def FnExactMeanFracSaid : Prop := fnExactMeanFracRow.holds Try.pinned (OpenSpec.ofChange fnExactMeanFracSpec)

/-- ITS FALSE NEIGHBOUR: 'it returns false'. Refute it at one input. -/
def fnExactMeanFracWrong : ChangeSpec := { name := "fnExactMeanFrac", fn := fun _ => fun
  | [d] => { results := [.lit (.bool false)], args := [d] }
  | _ => none }
def FnExactMeanFracWrongFalsely : Prop := fnExactMeanFracRow.holds Try.pinned (OpenSpec.ofChange fnExactMeanFracWrong)

/-- 'laws.FnExactHarmonic': WHATEVER THE INPUT: true; the input reads as it did. -/
def fnExactHarmonicSpec : ChangeSpec := { name := "fnExactHarmonic", fn := fun _ => fun
  | [d] => { results := [.lit (.bool true)], args := [d] }
  | _ => none }
def fnExactHarmonicRow : OpenClaim := { program := "ytainbffcnaafkaa", sum := "e56679988befb331eaad33b3b4f580146d73c9113136f7d634893eba49514bd7", func := "loop.example/g01087/laws.FnExactHarmonic", spec := "fnExactHarmonic", apart := false }
def FnExactHarmonicSaid : Prop := fnExactHarmonicRow.holds Try.pinned (OpenSpec.ofChange fnExactHarmonicSpec)

/-- ITS FALSE NEIGHBOUR: 'it returns false'. Refute it at one input. -/
def fnExactHarmonicWrong : ChangeSpec := { name := "fnExactHarmonic", fn := fun _ => fun
  | [d] => { results := [.lit (.bool false)], args := [d] }
  | _ => none }
def FnExactHarmonicWrongFalsely : Prop := fnExactHarmonicRow.holds Try.pinned (OpenSpec.ofChange fnExactHarmonicWrong)

/-- 'laws.FnExactFracBetween': WHATEVER THE INPUT: true; the input reads as it did. -/
def fnExactFracBetweenSpec : ChangeSpec := { name := "fnExactFracBetween", fn := fun _ => fun
  | [d1, d2] => { results := [.lit (.bool true)], args := [d1, d2] }
  | _ => none }
def fnExactFracBetweenRow : OpenClaim := { program := "ytainbffcnaafkaa", sum := "e56679988befb331eaad33b3b4f580146d73c9113136f7d634893eba49514bd7", func := "loop.example/g01087/laws.FnExactFracBetween", spec := "fnExactFracBetween", apart := false }
def FnExactFracBetweenSaid : Prop := fnExactFracBetweenRow.holds Try.pinned (OpenSpec.ofChange fnExactFracBetweenSpec)

/-- ITS FALSE NEIGHBOUR: 'it returns false'. Refute it at one input. -/
def fnExactFracBetweenWrong : ChangeSpec := { name := "fnExactFracBetween", fn := fun _ => fun
  | [d1, d2] => { results := [.lit (.bool false)], args := [d1, d2] }
  | _ => none }
def FnExactFracBetweenWrongFalsely : Prop := fnExactFracBetweenRow.holds Try.pinned (OpenSpec.ofChange fnExactFracBetweenWrong)

/-- 'laws.FnExactSumFracs': WHATEVER THE INPUT: true; the input reads as it did. -/
def fnExactSumFracsSpec : ChangeSpec := { name := "fnExactSumFracs", fn := fun _ => fun
  | [d] => { results := [.lit (.bool true)], args := [d] }
  | _ => none }
def fnExactSumFracsRow : OpenClaim := { program := "ytainbffcnaafkaa", sum := "e56679988befb331eaad33b3b4f580146d73c9113136f7d634893eba49514bd7", func := "loop.example/g01087/laws.FnExactSumFracs", spec := "fnExactSumFracs", apart := false }
def FnExactSumFracsSaid : Prop := fnExactSumFracsRow.holds Try.pinned (OpenSpec.ofChange fnExactSumFracsSpec)

/-- ITS FALSE NEIGHBOUR: 'it returns false'. Refute it at one input. -/
def fnExactSumFracsWrong : ChangeSpec := { name := "fnExactSumFracs", fn := fun _ => fun
  | [d] => { results := [.lit (.bool false)], args := [d] }
  | _ => none }
def FnExactSumFracsWrongFalsely : Prop := fnExactSumFracsRow.holds Try.pinned (OpenSpec.ofChange fnExactSumFracsWrong)

/- THE SECOND FORM. 'bulk': how many values and letters a reading holds, each counted each time it is reached (what is shared counts as often as it is met; a slice's spare places count too). A statement '..UptoSaid' is the law's where the arguments, and the package variables that the reading takes, are together of bulk at most 1048576: NARROWER than '..Said'. Prove '..Said' where nothing that the law and all that it calls make is longer than what came in: it says more and counts as full. Else prove '..UptoSaid'. A law counts once. -/
mutual
def uptoBulk {H : Type} : DataW H → Nat
  | .lit (.string bytes) => bytes.length + 1
  | .lit _ => 1
  | .nil => 1
  | .ptr d => uptoBulk d + 1
  | .slice elems spare => uptoBulkAll elems + uptoBulkAll spare + 1
  | .agg parts => uptoBulkAll parts + 1
  | .iface _ d => uptoBulk d + 1
  | .map entries => uptoBulkEntries entries + 1
  | .held _ => 1
def uptoBulkAll {H : Type} : List (DataW H) → Nat
  | [] => 0
  | d :: r => uptoBulk d + uptoBulkAll r
def uptoBulkEntries {H : Type} : List (Lit × DataW H) → Nat
  | [] => 0
  | x :: r => uptoBulkEntry x + uptoBulkEntries r
def uptoBulkEntry {H : Type} : Lit × DataW H → Nat
  | (.string bytes, d) => bytes.length + uptoBulk d + 1
  | (_, d) => uptoBulk d + 1
 end
def uptoSmall : (H : Type) → List (DataW H) → Bool := fun _ ds => decide (uptoBulkAll ds ≤ 1048576)
def OpenSpec.upto (s : _root_.Go.ChangeSpec) : _root_.Go.OpenSpec := { _root_.Go.OpenSpec.ofChange s with cond := some uptoSmall }

/-- 'laws.FnExactCeilFrac', WHERE WHAT IT READS IS OF BULK AT MOST 1048576: true; the input reads as it did. -/
def fnExactCeilFracUptoRow : OpenClaim := { program := "ytainbffcnaafkaa", sum := "e56679988befb331eaad33b3b4f580146d73c9113136f7d634893eba49514bd7", func := "loop.example/g01087/laws.FnExactCeilFrac", spec := "fnExactCeilFrac", apart := false, narrowed := true }
def FnExactCeilFracUptoSaid : Prop := fnExactCeilFracUptoRow.holds Try.pinned (OpenSpec.upto fnExactCeilFracSpec)

/-- 'laws.FnExactFloorFrac', WHERE WHAT IT READS IS OF BULK AT MOST 1048576: true; the input reads as it did. -/
def fnExactFloorFracUptoRow : OpenClaim := { program := "ytainbffcnaafkaa", sum := "e56679988befb331eaad33b3b4f580146d73c9113136f7d634893eba49514bd7", func := "loop.example/g01087/laws.FnExactFloorFrac", spec := "fnExactFloorFrac", apart := false, narrowed := true }
def FnExactFloorFracUptoSaid : Prop := fnExactFloorFracUptoRow.holds Try.pinned (OpenSpec.upto fnExactFloorFracSpec)

/-- 'laws.FnExactMakeFrac', WHERE WHAT IT READS IS OF BULK AT MOST 1048576: true; the input reads as it did. -/
def fnExactMakeFracUptoRow : OpenClaim := { program := "ytainbffcnaafkaa", sum := "e56679988befb331eaad33b3b4f580146d73c9113136f7d634893eba49514bd7", func := "loop.example/g01087/laws.FnExactMakeFrac", spec := "fnExactMakeFrac", apart := false, narrowed := true }
def FnExactMakeFracUptoSaid : Prop := fnExactMakeFracUptoRow.holds Try.pinned (OpenSpec.upto fnExactMakeFracSpec)

/-- 'laws.FnExactMulFracs', WHERE WHAT IT READS IS OF BULK AT MOST 1048576: true; the input reads as it did. -/
def fnExactMulFracsUptoRow : OpenClaim := { program := "ytainbffcnaafkaa", sum := "e56679988befb331eaad33b3b4f580146d73c9113136f7d634893eba49514bd7", func := "loop.example/g01087/laws.FnExactMulFracs", spec := "fnExactMulFracs", apart := false, narrowed := true }
def FnExactMulFracsUptoSaid : Prop := fnExactMulFracsUptoRow.holds Try.pinned (OpenSpec.upto fnExactMulFracsSpec)

/-- 'laws.FnExactAddFracs', WHERE WHAT IT READS IS OF BULK AT MOST 1048576: true; the input reads as it did. -/
def fnExactAddFracsUptoRow : OpenClaim := { program := "ytainbffcnaafkaa", sum := "e56679988befb331eaad33b3b4f580146d73c9113136f7d634893eba49514bd7", func := "loop.example/g01087/laws.FnExactAddFracs", spec := "fnExactAddFracs", apart := false, narrowed := true }
def FnExactAddFracsUptoSaid : Prop := fnExactAddFracsUptoRow.holds Try.pinned (OpenSpec.upto fnExactAddFracsSpec)

/-- 'laws.FnExactSubFracs', WHERE WHAT IT READS IS OF BULK AT MOST 1048576: true; the input reads as it did. -/
def fnExactSubFracsUptoRow : OpenClaim := { program := "ytainbffcnaafkaa", sum := "e56679988befb331eaad33b3b4f580146d73c9113136f7d634893eba49514bd7", func := "loop.example/g01087/laws.FnExactSubFracs", spec := "fnExactSubFracs", apart := false, narrowed := true }
def FnExactSubFracsUptoSaid : Prop := fnExactSubFracsUptoRow.holds Try.pinned (OpenSpec.upto fnExactSubFracsSpec)

/-- 'laws.FnExactCompareFracs', WHERE WHAT IT READS IS OF BULK AT MOST 1048576: true; the input reads as it did. -/
def fnExactCompareFracsUptoRow : OpenClaim := { program := "ytainbffcnaafkaa", sum := "e56679988befb331eaad33b3b4f580146d73c9113136f7d634893eba49514bd7", func := "loop.example/g01087/laws.FnExactCompareFracs", spec := "fnExactCompareFracs", apart := false, narrowed := true }
def FnExactCompareFracsUptoSaid : Prop := fnExactCompareFracsUptoRow.holds Try.pinned (OpenSpec.upto fnExactCompareFracsSpec)

/-- 'laws.FnExactDivFracs', WHERE WHAT IT READS IS OF BULK AT MOST 1048576: true; the input reads as it did. -/
def fnExactDivFracsUptoRow : OpenClaim := { program := "ytainbffcnaafkaa", sum := "e56679988befb331eaad33b3b4f580146d73c9113136f7d634893eba49514bd7", func := "loop.example/g01087/laws.FnExactDivFracs", spec := "fnExactDivFracs", apart := false, narrowed := true }
def FnExactDivFracsUptoSaid : Prop := fnExactDivFracsUptoRow.holds Try.pinned (OpenSpec.upto fnExactDivFracsSpec)

/-- 'laws.FnExactMeanFrac', WHERE WHAT IT READS IS OF BULK AT MOST 1048576: true; the input reads as it did. -/
def fnExactMeanFracUptoRow : OpenClaim := { program := "ytainbffcnaafkaa", sum := "e56679988befb331eaad33b3b4f580146d73c9113136f7d634893eba49514bd7", func := "loop.example/g01087/laws.FnExactMeanFrac", spec := "fnExactMeanFrac", apart := false, narrowed := true }
def FnExactMeanFracUptoSaid : Prop := fnExactMeanFracUptoRow.holds Try.pinned (OpenSpec.upto fnExactMeanFracSpec)

/-- 'laws.FnExactHarmonic', WHERE WHAT IT READS IS OF BULK AT MOST 1048576: true; the input reads as it did. -/
def fnExactHarmonicUptoRow : OpenClaim := { program := "ytainbffcnaafkaa", sum := "e56679988befb331eaad33b3b4f580146d73c9113136f7d634893eba49514bd7", func := "loop.example/g01087/laws.FnExactHarmonic", spec := "fnExactHarmonic", apart := false, narrowed := true }
def FnExactHarmonicUptoSaid : Prop := fnExactHarmonicUptoRow.holds Try.pinned (OpenSpec.upto fnExactHarmonicSpec)

/-- 'laws.FnExactFracBetween', WHERE WHAT IT READS IS OF BULK AT MOST 1048576: true; the input reads as it did. -/
def fnExactFracBetweenUptoRow : OpenClaim := { program := "ytainbffcnaafkaa", sum := "e56679988befb331eaad33b3b4f580146d73c9113136f7d634893eba49514bd7", func := "loop.example/g01087/laws.FnExactFracBetween", spec := "fnExactFracBetween", apart := false, narrowed := true }
def FnExactFracBetweenUptoSaid : Prop := fnExactFracBetweenUptoRow.holds Try.pinned (OpenSpec.upto fnExactFracBetweenSpec)

/-- 'laws.FnExactSumFracs', WHERE WHAT IT READS IS OF BULK AT MOST 1048576: true; the input reads as it did. -/
def fnExactSumFracsUptoRow : OpenClaim := { program := "ytainbffcnaafkaa", sum := "e56679988befb331eaad33b3b4f580146d73c9113136f7d634893eba49514bd7", func := "loop.example/g01087/laws.FnExactSumFracs", spec := "fnExactSumFracs", apart := false, narrowed := true }
def FnExactSumFracsUptoSaid : Prop := fnExactSumFracsUptoRow.holds Try.pinned (OpenSpec.upto fnExactSumFracsSpec)

end Rows
end Go.Proofs.Ytainbffcnaafkaa
