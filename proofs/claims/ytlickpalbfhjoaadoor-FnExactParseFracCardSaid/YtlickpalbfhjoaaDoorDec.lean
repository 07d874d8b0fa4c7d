/- The program's text of a number is strconv's; FormatInt by the reference and by the program; the premise: Go's own table of powers of ten reads as its initialiser lays it. -/
import Derived.Test.YtlickpalbfhjoaaDoorNum
import Derived.Lib.SmallJoins
namespace Go.Proofs.YtlickpalbfhjoaaDoor
open Go.RowKit

/-- The table of powers of ten that strconv reads. -/
def Tab (w : World) : Prop := Lib.TabIs Tryd.prog w "internal/strconv.uint64pow10" .u64 Lib.pow10Tab
theorem gPow : ∃ g, Tryd.prog.globalNamed "internal/strconv.uint64pow10" = some g := Option.isSome_iff_exists.1 (by kernel_rfl)
theorem Tab.below {w w' : World} (h : Tab w) (hb : Below w.heap.size w w') : Tab w' := by
  obtain ⟨g, hg⟩ := gPow
  exact Joins.tab_stays hg h hb (Nat.le_refl _)
theorem below_grow (w : World) (q : Nat) (os : Array Obj) : Below w.heap.size w (Sort.grow (w.drewN q) os) :=
  ⟨rfl, rfl, rfl, by show w.heap.size ≤ (w.heap ++ os).size; rw [Array.size_append]; omega, fun i hi => by
    show ((w.drewN q).heap ++ os)[i]? = _
    rw [Array.getElem?_append_left (by show i < w.heap.size; omega)]
    rfl⟩

theorem dec_any (n : Int) (h0 : -9223372036854775808 ≤ n) (h1 : n ≤ 9223372036854775807) (w : World) (ht : Tab w) :
    Calls Tryd.prog 42 #[.int .i64 n] w fun e w' => e = .returned (.string ⟨(Lib.itoa n).toArray⟩) ∧ Below w.heap.size w w' := by
  have h2 := Tryd.strconv_Itoa n h0 h1 w ht
  go_enter Tryd.func42, Tryd.ntmps42
  go_wp2_with ((go_at_call 68; refine h2.mono ?_; rintro e w1 ⟨rfl, k, os, rfl⟩))
  go_ret
  exact ⟨rfl, below_grow _ _ _⟩

def fmtText (n : Int) : ByteArray := if -999999 ≤ n ∧ n ≤ 999999 then ⟨(Lib.itoa n).toArray⟩ else ByteArray.empty
def fmtOk (n : Int) : Bool := decide (-999999 ≤ n ∧ n ≤ 999999)
theorem sFormatInt_any (n : Int) (h : -9223372036854775808 ≤ n ∧ n ≤ 9223372036854775807) (w : World) :
    Calls Tryd.prog 13 #[.int .i64 n] w fun e w' => e = .returned (.tuple #[.string (fmtText n), .bool (fmtOk n)]) ∧ Below w.heap.size w w' := by
  by_cases hn : -999999 ≤ n ∧ n ≤ 999999
  · rw [fmtText, if_pos hn, fmtOk, decide_eq_true hn]
    have h2 := l1In_yes n (-999999) 999999 w hn.1 hn.2
    have h3 := fun w => l1Num_any n (by omega) (by omega) w
    generalize (⟨(Lib.itoa n).toArray⟩ : ByteArray) = t at h3 ⊢
    go_enter Tryd.func13, Tryd.ntmps13
    go_wp2_with (first
      | (go_at_call 39; refine h2.mono ?_; rintro e w1 ⟨rfl, rfl⟩)
      | (go_at_call 40; refine (h3 _).mono ?_; rintro e w1 ⟨rfl, m, rfl⟩))
    go_ret2
    exact ⟨rfl, below_drewN (Below.refl _ _) _⟩
  · rw [fmtText, if_neg hn, fmtOk, decide_eq_false hn]
    have h2 := l1In_no n (-999999) 999999 w hn
    go_enter Tryd.func13, Tryd.ntmps13
    go_wp2_with ((go_at_call 39; refine h2.mono ?_; rintro e w1 ⟨rfl, rfl⟩))
    go_ret2
    exact ⟨rfl, Below.refl _ _⟩
theorem iFormatInt_any (n : Int) (h : -9223372036854775808 ≤ n ∧ n ≤ 9223372036854775807) (w : World) (ht : Tab w) :
    Calls Tryd.prog 14 #[.int .i64 n] w fun e w' => e = .returned (.tuple #[.string (fmtText n), .bool (fmtOk n)]) ∧ Below w.heap.size w w' := by
  by_cases hn : -999999 ≤ n ∧ n ≤ 999999
  · rw [fmtText, if_pos hn, fmtOk, decide_eq_true hn]
    have h2 := within_yes n (-999999) 999999 w hn.1 hn.2
    have h3 := fun w => dec_any n h.1 h.2 w
    generalize (⟨(Lib.itoa n).toArray⟩ : ByteArray) = t at h3 ⊢
    go_enter Tryd.func14, Tryd.ntmps14
    go_wp2_with (first
      | (go_at_call 41; refine h2.mono ?_; rintro e w1 ⟨rfl, rfl⟩)
      | (go_at_call 42; refine (h3 _ ht).mono ?_; rintro e w1 ⟨rfl, hb⟩))
    go_ret2
    exact ⟨rfl, hb⟩
  · rw [fmtText, if_neg hn, fmtOk, decide_eq_false hn]
    have h2 := within_no n (-999999) 999999 w hn
    go_enter Tryd.func14, Tryd.ntmps14
    go_wp2_with ((go_at_call 41; refine h2.mono ?_; rintro e w1 ⟨rfl, rfl⟩))
    go_ret2
    exact ⟨rfl, Below.refl _ _⟩
end Go.Proofs.YtlickpalbfhjoaaDoor
