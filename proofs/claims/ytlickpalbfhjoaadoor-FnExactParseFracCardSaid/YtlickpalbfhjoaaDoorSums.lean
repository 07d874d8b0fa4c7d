/- The two checksum loops, the reference's and the program's, return the checksum of the text's bytes; for texts that fit in memory. -/
import Derived.Test.YtlickpalbfhjoaaDoorBase
namespace Go.Proofs.YtlickpalbfhjoaaDoor
open Go.RowKit

/-- One step of the checksum. -/
def sumStep (h : Int) (c : UInt8) : Int := (41 * h + (c.toNat : Int) + 1) % 999979
/-- The checksum of a text. -/
def sumOf (l : List UInt8) : Int := l.foldl sumStep 7

theorem sumStep_bd (h : Int) (c : UInt8) : 0 ≤ sumStep h c ∧ sumStep h c < 999979 := by
  unfold sumStep; omega
theorem sumOf_bd (l : List UInt8) : 0 ≤ sumOf l ∧ sumOf l < 999979 := by
  unfold sumOf
  rcases List.eq_nil_or_concat l with rfl | ⟨m, c, rfl⟩
  · simp
  · simp only [List.concat_eq_append, List.foldl_append, List.foldl_cons, List.foldl_nil]; exact sumStep_bd _ _
theorem sumOf_snoc (l : List UInt8) (c : UInt8) : sumOf (l ++ [c]) = sumStep (sumOf l) c := by
  unfold sumOf; simp

theorem take_snoc (s : ByteArray) (k : Nat) (h : k < s.size) : s.data.toList.take (k + 1) = s.data.toList.take k ++ [s[k]] := by
  rw [List.take_succ_eq_append_getElem (by simpa using h)]; rfl

set_option maxHeartbeats 400000 in
theorem spec_l1Sum (s : ByteArray) (w : World) (hs : s.size ≤ maxLen) :
    Calls Tryd.prog 73 #[.string s] w fun e w' => e = .returned (.int .i64 (sumOf s.data.toList)) ∧ w = w' := by
  unfold maxLen at hs
  go_enter Tryd.func73, Tryd.ntmps73
  go_wp2
  go_loop [3, 4] (fun n i => ∃ k : Nat, k ≤ s.size ∧ i = .int .i64 k ∧ n = .int .i64 (sumOf (s.data.toList.take k))) (fun _ i => s.size - (intOf i).toNat)
  case atStart => exact ⟨0, Nat.zero_le _, rfl, rfl⟩
  case round =>
    obtain ⟨k, hk, rfl, rfl⟩ := hrel
    have hd := sumOf_bd (s.data.toList.take k)
    by_cases hlt : k < s.size
    · have hb : (s[k].toNat : Int) < 256 := by have := s[k].toNat_lt; omega
      have hsn := sumOf_snoc (s.data.toList.take k) s[k]
      have hts := take_snoc s k hlt
      have HS : Hid (sumOf (s.data.toList.take (k + 1)) = sumStep (sumOf (s.data.toList.take k)) s[k]) := by rw [hts]; exact hsn
      clear hsn hts
      go_wp2
      go_round
      case rel => exact ⟨k + 1, by omega, by go_num, by rw [HS.out]; rfl⟩
      case measure => simp [intOf]; omega
    · go_wp2
      go_ret
      exact ⟨ret_int (by rw [List.take_of_length_le (by simp; omega)]), rfl⟩

set_option maxHeartbeats 400000 in
theorem impl_checksum (s : ByteArray) (w : World) (hs : s.size ≤ maxLen) :
    Calls Tryd.prog 50 #[.string s] w fun e w' => e = .returned (.int .i64 (sumOf s.data.toList)) ∧ w = w' := by
  unfold maxLen at hs
  go_enter Tryd.func50, Tryd.ntmps50
  go_wp2
  go_loop [3, 7] (fun n i => ∃ k : Nat, k ≤ s.size ∧ i = .int .i64 k ∧ n = .int .i64 (sumOf (s.data.toList.take k))) (fun _ i => s.size - (intOf i).toNat)
  case atStart => exact ⟨0, Nat.zero_le _, rfl, rfl⟩
  case round =>
    obtain ⟨k, hk, rfl, rfl⟩ := hrel
    have hd := sumOf_bd (s.data.toList.take k)
    by_cases hlt : k < s.size
    · have hb : (s[k].toNat : Int) < 256 := by have := s[k].toNat_lt; omega
      have hsn := sumOf_snoc (s.data.toList.take k) s[k]
      have hts := take_snoc s k hlt
      have HS : Hid (sumOf (s.data.toList.take (k + 1)) = sumStep (sumOf (s.data.toList.take k)) s[k]) := by rw [hts]; exact hsn
      clear hsn hts
      go_wp2
      go_round
      case rel => exact ⟨k + 1, by omega, by go_num, by rw [HS.out]; rfl⟩
      case measure => simp [intOf]; omega
    · go_wp2
      go_ret
      exact ⟨ret_int (by rw [List.take_of_length_le (by simp; omega)]), rfl⟩
end Go.Proofs.YtlickpalbfhjoaaDoor
