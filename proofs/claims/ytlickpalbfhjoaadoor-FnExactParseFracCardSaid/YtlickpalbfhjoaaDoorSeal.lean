/- A text with its checksum behind it: the reference's and the program's AppendChecksum return the same; for texts that fit in memory; the premise on Go's table of powers of ten is handed on. -/
import Derived.Test.YtlickpalbfhjoaaDoorDec
import Derived.Test.YtlickpalbfhjoaaDoorSums
import Derived.Test.YtlickpalbfhjoaaDoorStand
import Derived.Lib.IndexAny
namespace Go.Proofs.YtlickpalbfhjoaaDoor
open Go.RowKit

theorem room20 {n : Nat} (h : n ≤ 1048576) : n ≤ maxLen := by unfold maxLen; omega
def numText (n : Int) : ByteArray := ⟨(Lib.itoa n).toArray⟩
theorem numText_size (n : Int) (h : -9223372036854775808 ≤ n ∧ n ≤ 9223372036854775807) : (numText n).size ≤ 21 := by
  have h1 : (numText n).size = (Lib.itoa n).length := by rfl
  rw [h1]
  exact Lib.itoa_length_le n h.1 h.2
def sumText (s : ByteArray) : ByteArray := numText (sumOf s.data.toList)
def sealT (s : ByteArray) : ByteArray := s ++ ⟨#[35]⟩ ++ sumText s
theorem sumText_size (s : ByteArray) : (sumText s).size ≤ 21 := by
  have := sumOf_bd s.data.toList
  exact numText_size _ (by omega)

theorem l1Seal_any (s : ByteArray) (w : World) (hs : s.size ≤ 1048576) :
    Calls Tryd.prog 48 #[.string s] w fun e w' => e = .returned (.string (sealT s)) ∧ ∃ m, w' = w.drewN m := by
  have h1 := spec_l1Sum s
  have h2 := sumOf_bd s.data.toList
  have h3 := fun w => l1Num_any (sumOf s.data.toList) (by omega) (by omega) w
  have h4 := sumText_size s
  change ∀ w, Calls _ _ _ w fun e w' => e = .returned (.string (sumText s)) ∧ ∃ m, w' = w.drewN m at h3
  unfold sealT
  generalize sumText s = t at h3 h4 ⊢
  generalize sumOf s.data.toList = n at h1 h2 h3
  have h1' := h1 w (room20 hs)
  clear h1 h2
  have c1 : ¬ (9223372036854775807 < s.size + 1) := by omega
  have c2 : ¬ (9223372036854775807 < s.size + 1 + t.size) := by omega
  clear hs
  go_enter Tryd.func48, Tryd.ntmps48
  go_wp2_with (first
    | (go_at_call 73; refine h1'.mono ?_; rintro e w1 ⟨rfl, rfl⟩)
    | (go_at_call 40; refine (h3 _).mono ?_; rintro e w1 ⟨rfl, m, rfl⟩))
  go_ret
  exact ⟨rfl, m, rfl⟩

def chkOk (s : ByteArray) : Bool := decide (s.size ≤ 4000) && !hasC s 35 && decide ((sealT s).size ≤ 4000)
def chkText (s : ByteArray) : ByteArray := if chkOk s = true then sealT s else ByteArray.empty

set_option maxHeartbeats 400000 in
theorem sAppendChecksum_any (s : ByteArray) (w : World) (hs : s.size ≤ 1048576) :
    Calls Tryd.prog 18 #[.string s] w fun e w' => e = .returned (.tuple #[.string (chkText s), .bool (chkOk s)]) ∧ Below w.heap.size w w' := by
  have h1 := l1Stands_any s 35 w (room20 hs)
  change Calls _ _ #[_, .int .u8 35] _ _ at h1
  have h2 := fun w => l1Seal_any s w hs
  unfold chkText chkOk
  generalize sealT s = t at h2 ⊢
  generalize hasC s 35 = b at h1 ⊢
  clear hs
  by_cases c1 : (4000 : Int) < s.size
  · have c2 : ¬ s.size ≤ 4000 := by omega
    simp only [decide_eq_false c2, Bool.false_and, Bool.false_eq_true, if_false]
    clear c2
    go_enter Tryd.func18, Tryd.ntmps18
    go_wp2
    go_ret2
    exact ⟨rfl, Below.refl _ _⟩
  · have c2 : s.size ≤ 4000 := by omega
    simp only [decide_eq_true c2, Bool.true_and]
    clear c2
    cases b
    · by_cases c3 : (4000 : Int) < t.size
      · have c4 : ¬ t.size ≤ 4000 := by omega
        simp only [decide_eq_false c4, Bool.and_false, Bool.false_eq_true, if_false]
        clear c4
        go_enter Tryd.func18, Tryd.ntmps18
        go_wp2_with (first
          | (go_at_call 47; refine h1.mono ?_; rintro e w1 ⟨rfl, rfl⟩)
          | (go_at_call 48; refine (h2 _).mono ?_; rintro e w1 ⟨rfl, m, rfl⟩))
        go_ret2
        exact ⟨rfl, below_drewN (Below.refl _ _) _⟩
      · have c4 : t.size ≤ 4000 := by omega
        simp only [decide_eq_true c4, Bool.not_false, Bool.and_self, if_true]
        clear c4
        go_enter Tryd.func18, Tryd.ntmps18
        go_wp2_with (first
          | (go_at_call 47; refine h1.mono ?_; rintro e w1 ⟨rfl, rfl⟩)
          | (go_at_call 48; refine (h2 _).mono ?_; rintro e w1 ⟨rfl, m, rfl⟩))
        go_ret2
        exact ⟨rfl, below_drewN (Below.refl _ _) _⟩
    · simp only [Bool.not_true, Bool.false_and, Bool.false_eq_true, if_false]
      go_enter Tryd.func18, Tryd.ntmps18
      go_wp2_with (go_at_call 47; refine h1.mono ?_; rintro e w1 ⟨rfl, rfl⟩)
      go_ret2
      exact ⟨rfl, Below.refl _ _⟩

set_option maxHeartbeats 400000 in
theorem iAppendChecksum_any (s : ByteArray) (w : World) (hs : s.size ≤ 1048576) (ht : Tab w) :
    Calls Tryd.prog 19 #[.string s] w fun e w' => e = .returned (.tuple #[.string (chkText s), .bool (chkOk s)]) ∧ Below w.heap.size w w' := by
  have h1 := Tryd.strings_Contains_one s 35 w
  rw [← Lib.contains_iff_indexByte] at h1
  change Calls _ _ _ _ fun e w' => e = .returned (.bool (hasC s 35)) ∧ w' = w at h1
  have h2 := impl_checksum s w (room20 hs)
  have h3 := sumOf_bd s.data.toList
  have h4 := dec_any (sumOf s.data.toList) (by omega) (by omega) w ht
  have h5 := sumText_size s
  change Calls _ _ _ _ fun e w' => e = .returned (.string (sumText s)) ∧ Below w.heap.size w w' at h4
  have c1 : ¬ (9223372036854775807 < s.size + 1) := by omega
  have c2 : ¬ (9223372036854775807 < s.size + 1 + (sumText s).size) := by omega
  unfold chkText chkOk sealT
  generalize sumText s = t at h4 h5 c2 ⊢
  generalize sumOf s.data.toList = n at h2 h3 h4
  generalize hasC s 35 = b at h1 ⊢
  clear hs h3 ht
  have hz : (s ++ ⟨#[35]⟩ ++ t).size = s.size + 1 + t.size := by simp [ByteArray.size_append]; rfl
  rw [hz]
  by_cases d1 : (4000 : Int) < s.size
  · have d2 : ¬ s.size ≤ 4000 := by omega
    simp only [decide_eq_false d2, Bool.false_and, Bool.false_eq_true, if_false]
    clear d2
    go_enter Tryd.func19, Tryd.ntmps19
    go_wp2
    go_ret2
    exact ⟨rfl, Below.refl _ _⟩
  · have d2 : s.size ≤ 4000 := by omega
    simp only [decide_eq_true d2, Bool.true_and]
    clear d2
    cases b
    · by_cases d3 : (4000 : Int) < ((s.size + 1 + t.size : Nat) : Int)
      · have d4 : ¬ s.size + 1 + t.size ≤ 4000 := by omega
        simp only [decide_eq_false d4, Bool.and_false, Bool.false_eq_true, if_false]
        clear d4
        go_enter Tryd.func19, Tryd.ntmps19
        go_wp2_with (first
          | (go_at_call 49; refine h1.mono ?_; rintro e w1 ⟨rfl, rfl⟩)
          | (go_at_call 50; refine h2.mono ?_; rintro e w1 ⟨rfl, rfl⟩)
          | (go_at_call 42; refine h4.mono ?_; rintro e w1 ⟨rfl, hb⟩))
        go_ret2
        exact ⟨rfl, hb⟩
      · have d4 : s.size + 1 + t.size ≤ 4000 := by omega
        simp only [decide_eq_true d4, Bool.not_false, Bool.and_self, if_true]
        clear d4
        go_enter Tryd.func19, Tryd.ntmps19
        go_wp2_with (first
          | (go_at_call 49; refine h1.mono ?_; rintro e w1 ⟨rfl, rfl⟩)
          | (go_at_call 50; refine h2.mono ?_; rintro e w1 ⟨rfl, rfl⟩)
          | (go_at_call 42; refine h4.mono ?_; rintro e w1 ⟨rfl, hb⟩))
        go_ret2
        exact ⟨rfl, hb⟩
    · simp only [Bool.not_true, Bool.false_and, Bool.false_eq_true, if_false]
      go_enter Tryd.func19, Tryd.ntmps19
      go_wp2_with (go_at_call 49; refine h1.mono ?_; rintro e w1 ⟨rfl, rfl⟩)
      go_ret2
      exact ⟨rfl, Below.refl _ _⟩
end Go.Proofs.YtlickpalbfhjoaaDoor
