/- The program's text of a number is strconv's; FormatInt by the reference and by the program; the premise: Go's own table of powers of ten reads as its initialiser lays it. -/
import Derived.Test.YtkimbgehnhcmaaaGreatDoorNum
import Derived.Lib.SmallJoins
namespace Go.Proofs.YtkimbgehnhcmaaaGreatDoor
open Go.RowKit

/-- The table of powers of ten that strconv reads. -/
def Tab (w : World) : Prop := Lib.TabIs Tryz.prog w "internal/strconv.uint64pow10" .u64 Lib.pow10Tab
theorem gPow : ∃ g, Tryz.prog.globalNamed "internal/strconv.uint64pow10" = some g := Option.isSome_iff_exists.1 (by kernel_rfl)
theorem Tab.below {w w' : World} (h : Tab w) (hb : Below w.heap.size w w') : Tab w' := by
  obtain ⟨g, hg⟩ := gPow
  exact Joins.tab_stays hg h hb (Nat.le_refl _)
theorem below_grow (w : World) (q : Nat) (os : Array Obj) : Below w.heap.size w (Sort.grow (w.drewN q) os) :=
  ⟨rfl, rfl, rfl, by show w.heap.size ≤ (w.heap ++ os).size; rw [Array.size_append]; omega, fun i hi => by
    show ((w.drewN q).heap ++ os)[i]? = _
    rw [Array.getElem?_append_left (by show i < w.heap.size; omega)]
    rfl⟩

theorem dec_any (n : Int) (h0 : -9223372036854775808 ≤ n) (h1 : n ≤ 9223372036854775807) (w : World) (ht : Tab w) :
    Calls Tryz.prog 40 #[.int .i64 n] w fun e w' => e = .returned (.string ⟨(Lib.itoa n).toArray⟩) ∧ Below w.heap.size w w' := by
  have h2 := Tryz.strconv_Itoa n h0 h1 w ht
  go_enter Tryz.func40, Tryz.ntmps40
  go_wp2_with ((go_at_call 54; refine h2.mono ?_; rintro e w1 ⟨rfl, k, os, rfl⟩))
  go_ret
  exact ⟨rfl, below_grow _ _ _⟩

end Go.Proofs.YtkimbgehnhcmaaaGreatDoor
