/-
  No cell of these rows narrows 'for every input' (looked for: loops, veiled, ifaces, maps, wideKeys, modest, calm, conditions, laid).
  DERIVED. THE GIVEN ROWS OF THIS SEAT. 12 by the template 'for every input the law returns true; each argument reads behind the call as it read before'; 0 by the template 'total and deterministic' (their statements: YtaoacpikmpoodaaTotals.lean).
  GIVEN WITH THE SEED: the statements are not yours to turn. If you find one false, say at which input.
  Laid BY PROGRAM, IN A SANDBOX (cutbox-rows.mjs): the forced cells as the released guide's own fill.sh prints them over the translation 6773bb64a601c288… (all of the seat's roots in one cut). By AI agents, Wed Nov 11 2026. No macro, syntax, notation, axiom, sorry.
-/
import Derived.Test.YtaoacpikmpoodaaChecked
import GoSem.Claim
import GoSem.ClaimJoined
import GoSem.ClaimMapViews
import Derived.JoinedTies
import Derived.KernelRfl
namespace Go.Proofs.Ytaoacpikmpoodaa
/- THE CELL 'sum', in the pinned program and in every row, IS THE sha256 OF THE DUMP (.gsa) THAT YtaoacpikmpoodaaProg.lean LOADS. Nothing in Lean hashes anything: it is a label: what it is worth is what the hold of that sum in a sandbox is worth. -/
noncomputable def Try.pinned : Pinned := { name := "ytaoacpikmpoodaa", sum := "6773bb64a601c288d1ce0f1dfb892665d073064cf028aa57481dfc92e283f993", checked := Try.checked }
namespace Rows
def none {H : Type} : Left H := { results := [], args := [] }

/-- 'laws.FnExactSeededRequests': WHATEVER THE INPUT: true; the input reads as it did. -/
def fnExactSeededRequestsSpec : ChangeSpec := { name := "fnExactSeededRequests", fn := fun _ => fun
  | [d1, d2, d3] => { results := [.lit (.bool true)], args := [d1, d2, d3] }
  | _ => none }
def fnExactSeededRequestsRow : OpenClaim := { program := "ytaoacpikmpoodaa", sum := "6773bb64a601c288d1ce0f1dfb892665d073064cf028aa57481dfc92e283f993", func := "loop.example/g01087/laws.FnExactSeededRequests", spec := "fnExactSeededRequests", apart := false }
def FnExactSeededRequestsSaid : Prop := fnExactSeededRequestsRow.holds Try.pinned (OpenSpec.ofChange fnExactSeededRequestsSpec)

/-- ITS FALSE NEIGHBOUR: 'it returns false'. Refute it at one input. -/
def fnExactSeededRequestsWrong : ChangeSpec := { name := "fnExactSeededRequests", fn := fun _ => fun
  | [d1, d2, d3] => { results := [.lit (.bool false)], args := [d1, d2, d3] }
  | _ => none }
def FnExactSeededRequestsWrongFalsely : Prop := fnExactSeededRequestsRow.holds Try.pinned (OpenSpec.ofChange fnExactSeededRequestsWrong)

/-- 'laws.FnExactNearRequests': WHATEVER THE INPUT: true; the input reads as it did. -/
def fnExactNearRequestsSpec : ChangeSpec := { name := "fnExactNearRequests", fn := fun _ => fun
  | [d1, d2, d3, d4] => { results := [.lit (.bool true)], args := [d1, d2, d3, d4] }
  | _ => none }
def fnExactNearRequestsRow : OpenClaim := { program := "ytaoacpikmpoodaa", sum := "6773bb64a601c288d1ce0f1dfb892665d073064cf028aa57481dfc92e283f993", func := "loop.example/g01087/laws.FnExactNearRequests", spec := "fnExactNearRequests", apart := false }
def FnExactNearRequestsSaid : Prop := fnExactNearRequestsRow.holds Try.pinned (OpenSpec.ofChange fnExactNearRequestsSpec)

/-- ITS FALSE NEIGHBOUR: 'it returns false'. Refute it at one input. -/
def fnExactNearRequestsWrong : ChangeSpec := { name := "fnExactNearRequests", fn := fun _ => fun
  | [d1, d2, d3, d4] => { results := [.lit (.bool false)], args := [d1, d2, d3, d4] }
  | _ => none }
def FnExactNearRequestsWrongFalsely : Prop := fnExactNearRequestsRow.holds Try.pinned (OpenSpec.ofChange fnExactNearRequestsWrong)

/-- 'laws.FnExactNewCache': WHATEVER THE INPUT: true; the input reads as it did. -/
def fnExactNewCacheSpec : ChangeSpec := { name := "fnExactNewCache", fn := fun _ => fun
  | [d1, d2, d3] => { results := [.lit (.bool true)], args := [d1, d2, d3] }
  | _ => none }
def fnExactNewCacheRow : OpenClaim := { program := "ytaoacpikmpoodaa", sum := "6773bb64a601c288d1ce0f1dfb892665d073064cf028aa57481dfc92e283f993", func := "loop.example/g01087/laws.FnExactNewCache", spec := "fnExactNewCache", apart := false }
def FnExactNewCacheSaid : Prop := fnExactNewCacheRow.holds Try.pinned (OpenSpec.ofChange fnExactNewCacheSpec)

/-- ITS FALSE NEIGHBOUR: 'it returns false'. Refute it at one input. -/
def fnExactNewCacheWrong : ChangeSpec := { name := "fnExactNewCache", fn := fun _ => fun
  | [d1, d2, d3] => { results := [.lit (.bool false)], args := [d1, d2, d3] }
  | _ => none }
def FnExactNewCacheWrongFalsely : Prop := fnExactNewCacheRow.holds Try.pinned (OpenSpec.ofChange fnExactNewCacheWrong)

/-- 'laws.FnExactCountsOf': WHATEVER THE INPUT: true; the input reads as it did. -/
def fnExactCountsOfSpec : ChangeSpec := { name := "fnExactCountsOf", fn := fun _ => fun
  | [d1, d2] => { results := [.lit (.bool true)], args := [d1, d2] }
  | _ => none }
def fnExactCountsOfRow : OpenClaim := { program := "ytaoacpikmpoodaa", sum := "6773bb64a601c288d1ce0f1dfb892665d073064cf028aa57481dfc92e283f993", func := "loop.example/g01087/laws.FnExactCountsOf", spec := "fnExactCountsOf", unfollowed := true, recurses := true, apart := false }
def FnExactCountsOfSaid : Prop := fnExactCountsOfRow.holds Try.pinned (OpenSpec.ofChange fnExactCountsOfSpec)

/-- ITS FALSE NEIGHBOUR: 'it returns false'. Refute it at one input. -/
def fnExactCountsOfWrong : ChangeSpec := { name := "fnExactCountsOf", fn := fun _ => fun
  | [d1, d2] => { results := [.lit (.bool false)], args := [d1, d2] }
  | _ => none }
def FnExactCountsOfWrongFalsely : Prop := fnExactCountsOfRow.holds Try.pinned (OpenSpec.ofChange fnExactCountsOfWrong)

/-- 'laws.FnExactWeaveRequests': WHATEVER THE INPUT: true; the input reads as it did. -/
def fnExactWeaveRequestsSpec : ChangeSpec := { name := "fnExactWeaveRequests", fn := fun _ => fun
  | [d1, d2, d3] => { results := [.lit (.bool true)], args := [d1, d2, d3] }
  | _ => none }
def fnExactWeaveRequestsRow : OpenClaim := { program := "ytaoacpikmpoodaa", sum := "6773bb64a601c288d1ce0f1dfb892665d073064cf028aa57481dfc92e283f993", func := "loop.example/g01087/laws.FnExactWeaveRequests", spec := "fnExactWeaveRequests", unfollowed := true, recurses := true, apart := false }
def FnExactWeaveRequestsSaid : Prop := fnExactWeaveRequestsRow.holds Try.pinned (OpenSpec.ofChange fnExactWeaveRequestsSpec)

/-- ITS FALSE NEIGHBOUR: 'it returns false'. Refute it at one input. -/
def fnExactWeaveRequestsWrong : ChangeSpec := { name := "fnExactWeaveRequests", fn := fun _ => fun
  | [d1, d2, d3] => { results := [.lit (.bool false)], args := [d1, d2, d3] }
  | _ => none }
def FnExactWeaveRequestsWrongFalsely : Prop := fnExactWeaveRequestsRow.holds Try.pinned (OpenSpec.ofChange fnExactWeaveRequestsWrong)

/-- 'laws.FnExactLastUses': WHATEVER THE INPUT: true; the input reads as it did. -/
def fnExactLastUsesSpec : ChangeSpec := { name := "fnExactLastUses", fn := fun _ => fun
  | [d1, d2] => { results := [.lit (.bool true)], args := [d1, d2] }
  | _ => none }
def fnExactLastUsesRow : OpenClaim := { program := "ytaoacpikmpoodaa", sum := "6773bb64a601c288d1ce0f1dfb892665d073064cf028aa57481dfc92e283f993", func := "loop.example/g01087/laws.FnExactLastUses", spec := "fnExactLastUses", unfollowed := true, recurses := true, apart := false }
def FnExactLastUsesSaid : Prop := fnExactLastUsesRow.holds Try.pinned (OpenSpec.ofChange fnExactLastUsesSpec)

/-- ITS FALSE NEIGHBOUR: 'it returns false'. Refute it at one input. -/
def fnExactLastUsesWrong : ChangeSpec := { name := "fnExactLastUses", fn := fun _ => fun
  | [d1, d2] => { results := [.lit (.bool false)], args := [d1, d2] }
  | _ => none }
def FnExactLastUsesWrongFalsely : Prop := fnExactLastUsesRow.holds Try.pinned (OpenSpec.ofChange fnExactLastUsesWrong)

/-- 'laws.FnExactJoinRequests': WHATEVER THE INPUT: true; the input reads as it did. -/
def fnExactJoinRequestsSpec : ChangeSpec := { name := "fnExactJoinRequests", fn := fun _ => fun
  | [d1, d2, d3] => { results := [.lit (.bool true)], args := [d1, d2, d3] }
  | _ => none }
def fnExactJoinRequestsRow : OpenClaim := { program := "ytaoacpikmpoodaa", sum := "6773bb64a601c288d1ce0f1dfb892665d073064cf028aa57481dfc92e283f993", func := "loop.example/g01087/laws.FnExactJoinRequests", spec := "fnExactJoinRequests", unfollowed := true, recurses := true, apart := false }
def FnExactJoinRequestsSaid : Prop := fnExactJoinRequestsRow.holds Try.pinned (OpenSpec.ofChange fnExactJoinRequestsSpec)

/-- ITS FALSE NEIGHBOUR: 'it returns false'. Refute it at one input. -/
def fnExactJoinRequestsWrong : ChangeSpec := { name := "fnExactJoinRequests", fn := fun _ => fun
  | [d1, d2, d3] => { results := [.lit (.bool false)], args := [d1, d2, d3] }
  | _ => none }
def FnExactJoinRequestsWrongFalsely : Prop := fnExactJoinRequestsRow.holds Try.pinned (OpenSpec.ofChange fnExactJoinRequestsWrong)

/-- 'laws.FnExactLastOrder': WHATEVER THE INPUT: true; the input reads as it did. -/
def fnExactLastOrderSpec : ChangeSpec := { name := "fnExactLastOrder", fn := fun _ => fun
  | [d1, d2] => { results := [.lit (.bool true)], args := [d1, d2] }
  | _ => none }
def fnExactLastOrderRow : OpenClaim := { program := "ytaoacpikmpoodaa", sum := "6773bb64a601c288d1ce0f1dfb892665d073064cf028aa57481dfc92e283f993", func := "loop.example/g01087/laws.FnExactLastOrder", spec := "fnExactLastOrder", unfollowed := true, recurses := true, apart := false }
def FnExactLastOrderSaid : Prop := fnExactLastOrderRow.holds Try.pinned (OpenSpec.ofChange fnExactLastOrderSpec)

/-- ITS FALSE NEIGHBOUR: 'it returns false'. Refute it at one input. -/
def fnExactLastOrderWrong : ChangeSpec := { name := "fnExactLastOrder", fn := fun _ => fun
  | [d1, d2] => { results := [.lit (.bool false)], args := [d1, d2] }
  | _ => none }
def FnExactLastOrderWrongFalsely : Prop := fnExactLastOrderRow.holds Try.pinned (OpenSpec.ofChange fnExactLastOrderWrong)

/-- 'laws.FnExactRunsOf': WHATEVER THE INPUT: true; the input reads as it did. -/
def fnExactRunsOfSpec : ChangeSpec := { name := "fnExactRunsOf", fn := fun _ => fun
  | [d1, d2] => { results := [.lit (.bool true)], args := [d1, d2] }
  | _ => none }
def fnExactRunsOfRow : OpenClaim := { program := "ytaoacpikmpoodaa", sum := "6773bb64a601c288d1ce0f1dfb892665d073064cf028aa57481dfc92e283f993", func := "loop.example/g01087/laws.FnExactRunsOf", spec := "fnExactRunsOf", unfollowed := true, recurses := true, apart := false }
def FnExactRunsOfSaid : Prop := fnExactRunsOfRow.holds Try.pinned (OpenSpec.ofChange fnExactRunsOfSpec)

/-- ITS FALSE NEIGHBOUR: 'it returns false'. Refute it at one input. -/
def fnExactRunsOfWrong : ChangeSpec := { name := "fnExactRunsOf", fn := fun _ => fun
  | [d1, d2] => { results := [.lit (.bool false)], args := [d1, d2] }
  | _ => none }
def FnExactRunsOfWrongFalsely : Prop := fnExactRunsOfRow.holds Try.pinned (OpenSpec.ofChange fnExactRunsOfWrong)

/-- 'laws.FnExactFromRuns': WHATEVER THE INPUT: true; the input reads as it did. -/
def fnExactFromRunsSpec : ChangeSpec := { name := "fnExactFromRuns", fn := fun _ => fun
  | [d1, d2] => { results := [.lit (.bool true)], args := [d1, d2] }
  | _ => none }
def fnExactFromRunsRow : OpenClaim := { program := "ytaoacpikmpoodaa", sum := "6773bb64a601c288d1ce0f1dfb892665d073064cf028aa57481dfc92e283f993", func := "loop.example/g01087/laws.FnExactFromRuns", spec := "fnExactFromRuns", apart := false }
def FnExactFromRunsSaid : Prop := fnExactFromRunsRow.holds Try.pinned (OpenSpec.ofChange fnExactFromRunsSpec)

/-- ITS FALSE NEIGHBOUR: 'it returns false'. Refute it at one input. -/
def fnExactFromRunsWrong : ChangeSpec := { name := "fnExactFromRuns", fn := fun _ => fun
  | [d1, d2] => { results := [.lit (.bool false)], args := [d1, d2] }
  | _ => none }
def FnExactFromRunsWrongFalsely : Prop := fnExactFromRunsRow.holds Try.pinned (OpenSpec.ofChange fnExactFromRunsWrong)

/-- 'laws.FnExactNextUses': WHATEVER THE INPUT: true; the input reads as it did. -/
def fnExactNextUsesSpec : ChangeSpec := { name := "fnExactNextUses", fn := fun _ => fun
  | [d1, d2] => { results := [.lit (.bool true)], args := [d1, d2] }
  | _ => none }
def fnExactNextUsesRow : OpenClaim := { program := "ytaoacpikmpoodaa", sum := "6773bb64a601c288d1ce0f1dfb892665d073064cf028aa57481dfc92e283f993", func := "loop.example/g01087/laws.FnExactNextUses", spec := "fnExactNextUses", unfollowed := true, recurses := true, apart := false }
def FnExactNextUsesSaid : Prop := fnExactNextUsesRow.holds Try.pinned (OpenSpec.ofChange fnExactNextUsesSpec)

/-- ITS FALSE NEIGHBOUR: 'it returns false'. Refute it at one input. -/
def fnExactNextUsesWrong : ChangeSpec := { name := "fnExactNextUses", fn := fun _ => fun
  | [d1, d2] => { results := [.lit (.bool false)], args := [d1, d2] }
  | _ => none }
def FnExactNextUsesWrongFalsely : Prop := fnExactNextUsesRow.holds Try.pinned (OpenSpec.ofChange fnExactNextUsesWrong)

/-- 'laws.FnExactIntervalsOf': WHATEVER THE INPUT: true; the input reads as it did. -/
def fnExactIntervalsOfSpec : ChangeSpec := { name := "fnExactIntervalsOf", fn := fun _ => fun
  | [d1, d2] => { results := [.lit (.bool true)], args := [d1, d2] }
  | _ => none }
def fnExactIntervalsOfRow : OpenClaim := { program := "ytaoacpikmpoodaa", sum := "6773bb64a601c288d1ce0f1dfb892665d073064cf028aa57481dfc92e283f993", func := "loop.example/g01087/laws.FnExactIntervalsOf", spec := "fnExactIntervalsOf", unfollowed := true, recurses := true, apart := false }
def FnExactIntervalsOfSaid : Prop := fnExactIntervalsOfRow.holds Try.pinned (OpenSpec.ofChange fnExactIntervalsOfSpec)

/-- ITS FALSE NEIGHBOUR: 'it returns false'. Refute it at one input. -/
def fnExactIntervalsOfWrong : ChangeSpec := { name := "fnExactIntervalsOf", fn := fun _ => fun
  | [d1, d2] => { results := [.lit (.bool false)], args := [d1, d2] }
  | _ => none }
def FnExactIntervalsOfWrongFalsely : Prop := fnExactIntervalsOfRow.holds Try.pinned (OpenSpec.ofChange fnExactIntervalsOfWrong)

/- THE SECOND FORM. 'bulk': how many values and letters a reading holds, each counted each time it is reached (what is shared counts as often as it is met; a slice's spare places count too). A statement '..UptoSaid' is the law's where the arguments, and the package variables that the reading takes, are together of bulk at most 1048576: NARROWER than '..Said'. Prove '..Said' where nothing that the law and all that it calls make is longer than what came in: it says more and counts as full. Else prove '..UptoSaid'. A law counts once. -/
mutual
def uptoBulk {H : Type} : DataW H → Nat
  | .lit (.string bytes) => bytes.length + 1
  | .lit _ => 1
  | .nil => 1
  | .ptr d => uptoBulk d + 1
  | .slice elems spare => uptoBulkAll elems + uptoBulkAll spare + 1
  | .agg parts => uptoBulkAll parts + 1
  | .iface _ d => uptoBulk d + 1
  | .map entries => uptoBulkEntries entries + 1
  | .held _ => 1
def uptoBulkAll {H : Type} : List (DataW H) → Nat
  | [] => 0
  | d :: r => uptoBulk d + uptoBulkAll r
def uptoBulkEntries {H : Type} : List (Lit × DataW H) → Nat
  | [] => 0
  | x :: r => uptoBulkEntry x + uptoBulkEntries r
def uptoBulkEntry {H : Type} : Lit × DataW H → Nat
  | (.string bytes, d) => bytes.length + uptoBulk d + 1
  | (_, d) => uptoBulk d + 1
 end
def uptoSmall : (H : Type) → List (DataW H) → Bool := fun _ ds => decide (uptoBulkAll ds ≤ 1048576)
def OpenSpec.upto (s : _root_.Go.ChangeSpec) : _root_.Go.OpenSpec := { _root_.Go.OpenSpec.ofChange s with cond := some uptoSmall }

/-- 'laws.FnExactSeededRequests', WHERE WHAT IT READS IS OF BULK AT MOST 1048576: true; the input reads as it did. -/
def fnExactSeededRequestsUptoRow : OpenClaim := { program := "ytaoacpikmpoodaa", sum := "6773bb64a601c288d1ce0f1dfb892665d073064cf028aa57481dfc92e283f993", func := "loop.example/g01087/laws.FnExactSeededRequests", spec := "fnExactSeededRequests", apart := false, narrowed := true }
def FnExactSeededRequestsUptoSaid : Prop := fnExactSeededRequestsUptoRow.holds Try.pinned (OpenSpec.upto fnExactSeededRequestsSpec)

/-- 'laws.FnExactNearRequests', WHERE WHAT IT READS IS OF BULK AT MOST 1048576: true; the input reads as it did. -/
def fnExactNearRequestsUptoRow : OpenClaim := { program := "ytaoacpikmpoodaa", sum := "6773bb64a601c288d1ce0f1dfb892665d073064cf028aa57481dfc92e283f993", func := "loop.example/g01087/laws.FnExactNearRequests", spec := "fnExactNearRequests", apart := false, narrowed := true }
def FnExactNearRequestsUptoSaid : Prop := fnExactNearRequestsUptoRow.holds Try.pinned (OpenSpec.upto fnExactNearRequestsSpec)

/-- 'laws.FnExactNewCache', WHERE WHAT IT READS IS OF BULK AT MOST 1048576: true; the input reads as it did. -/
def fnExactNewCacheUptoRow : OpenClaim := { program := "ytaoacpikmpoodaa", sum := "6773bb64a601c288d1ce0f1dfb892665d073064cf028aa57481dfc92e283f993", func := "loop.example/g01087/laws.FnExactNewCache", spec := "fnExactNewCache", apart := false, narrowed := true }
def FnExactNewCacheUptoSaid : Prop := fnExactNewCacheUptoRow.holds Try.pinned (OpenSpec.upto fnExactNewCacheSpec)

/-- 'laws.FnExactCountsOf', WHERE WHAT IT READS IS OF BULK AT MOST 1048576: true; the input reads as it did. -/
def fnExactCountsOfUptoRow : OpenClaim := { program := "ytaoacpikmpoodaa", sum := "6773bb64a601c288d1ce0f1dfb892665d073064cf028aa57481dfc92e283f993", func := "loop.example/g01087/laws.FnExactCountsOf", spec := "fnExactCountsOf", unfollowed := true, recurses := true, apart := false, narrowed := true }
def FnExactCountsOfUptoSaid : Prop := fnExactCountsOfUptoRow.holds Try.pinned (OpenSpec.upto fnExactCountsOfSpec)

/-- 'laws.FnExactWeaveRequests', WHERE WHAT IT READS IS OF BULK AT MOST 1048576: true; the input reads as it did. -/
def fnExactWeaveRequestsUptoRow : OpenClaim := { program := "ytaoacpikmpoodaa", sum := "6773bb64a601c288d1ce0f1dfb892665d073064cf028aa57481dfc92e283f993", func := "loop.example/g01087/laws.FnExactWeaveRequests", spec := "fnExactWeaveRequests", unfollowed := true, recurses := true, apart := false, narrowed := true }
def FnExactWeaveRequestsUptoSaid : Prop := fnExactWeaveRequestsUptoRow.holds Try.pinned (OpenSpec.upto fnExactWeaveRequestsSpec)

/-- 'laws.FnExactLastUses', WHERE WHAT IT READS IS OF BULK AT MOST 1048576: true; the input reads as it did. -/
def fnExactLastUsesUptoRow : OpenClaim := { program := "ytaoacpikmpoodaa", sum := "6773bb64a601c288d1ce0f1dfb892665d073064cf028aa57481dfc92e283f993", func := "loop.example/g01087/laws.FnExactLastUses", spec := "fnExactLastUses", unfollowed := true, recurses := true, apart := false, narrowed := true }
def FnExactLastUsesUptoSaid : Prop := fnExactLastUsesUptoRow.holds Try.pinned (OpenSpec.upto fnExactLastUsesSpec)

/-- 'laws.FnExactJoinRequests', WHERE WHAT IT READS IS OF BULK AT MOST 1048576: true; the input reads as it did. -/
def fnExactJoinRequestsUptoRow : OpenClaim := { program := "ytaoacpikmpoodaa", sum := "6773bb64a601c288d1ce0f1dfb892665d073064cf028aa57481dfc92e283f993", func := "loop.example/g01087/laws.FnExactJoinRequests", spec := "fnExactJoinRequests", unfollowed := true, recurses := true, apart := false, narrowed := true }
def FnExactJoinRequestsUptoSaid : Prop := fnExactJoinRequestsUptoRow.holds Try.pinned (OpenSpec.upto fnExactJoinRequestsSpec)

/-- 'laws.FnExactLastOrder', WHERE WHAT IT READS IS OF BULK AT MOST 1048576: true; the input reads as it did. -/
def fnExactLastOrderUptoRow : OpenClaim := { program := "ytaoacpikmpoodaa", sum := "6773bb64a601c288d1ce0f1dfb892665d073064cf028aa57481dfc92e283f993", func := "loop.example/g01087/laws.FnExactLastOrder", spec := "fnExactLastOrder", unfollowed := true, recurses := true, apart := false, narrowed := true }
def FnExactLastOrderUptoSaid : Prop := fnExactLastOrderUptoRow.holds Try.pinned (OpenSpec.upto fnExactLastOrderSpec)

/-- 'laws.FnExactRunsOf', WHERE WHAT IT READS IS OF BULK AT MOST 1048576: true; the input reads as it did. -/
def fnExactRunsOfUptoRow : OpenClaim := { program := "ytaoacpikmpoodaa", sum := "6773bb64a601c288d1ce0f1dfb892665d073064cf028aa57481dfc92e283f993", func := "loop.example/g01087/laws.FnExactRunsOf", spec := "fnExactRunsOf", unfollowed := true, recurses := true, apart := false, narrowed := true }
def FnExactRunsOfUptoSaid : Prop := fnExactRunsOfUptoRow.holds Try.pinned (OpenSpec.upto fnExactRunsOfSpec)

/-- 'laws.FnExactFromRuns', WHERE WHAT IT READS IS OF BULK AT MOST 1048576: true; the input reads as it did. -/
def fnExactFromRunsUptoRow : OpenClaim := { program := "ytaoacpikmpoodaa", sum := "6773bb64a601c288d1ce0f1dfb892665d073064cf028aa57481dfc92e283f993", func := "loop.example/g01087/laws.FnExactFromRuns", spec := "fnExactFromRuns", apart := false, narrowed := true }
def FnExactFromRunsUptoSaid : Prop := fnExactFromRunsUptoRow.holds Try.pinned (OpenSpec.upto fnExactFromRunsSpec)

/-- 'laws.FnExactNextUses', WHERE WHAT IT READS IS OF BULK AT MOST 1048576: true; the input reads as it did. -/
def fnExactNextUsesUptoRow : OpenClaim := { program := "ytaoacpikmpoodaa", sum := "6773bb64a601c288d1ce0f1dfb892665d073064cf028aa57481dfc92e283f993", func := "loop.example/g01087/laws.FnExactNextUses", spec := "fnExactNextUses", unfollowed := true, recurses := true, apart := false, narrowed := true }
def FnExactNextUsesUptoSaid : Prop := fnExactNextUsesUptoRow.holds Try.pinned (OpenSpec.upto fnExactNextUsesSpec)

/-- 'laws.FnExactIntervalsOf', WHERE WHAT IT READS IS OF BULK AT MOST 1048576: true; the input reads as it did. -/
def fnExactIntervalsOfUptoRow : OpenClaim := { program := "ytaoacpikmpoodaa", sum := "6773bb64a601c288d1ce0f1dfb892665d073064cf028aa57481dfc92e283f993", func := "loop.example/g01087/laws.FnExactIntervalsOf", spec := "fnExactIntervalsOf", unfollowed := true, recurses := true, apart := false, narrowed := true }
def FnExactIntervalsOfUptoSaid : Prop := fnExactIntervalsOfUptoRow.holds Try.pinned (OpenSpec.upto fnExactIntervalsOfSpec)

end Rows
end Go.Proofs.Ytaoacpikmpoodaa
