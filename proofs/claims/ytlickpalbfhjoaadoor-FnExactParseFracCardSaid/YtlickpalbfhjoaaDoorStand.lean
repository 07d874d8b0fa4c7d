/- Whether a byte stands in a text: the reference's loop; for texts that fit in memory. -/
import Derived.Test.YtlickpalbfhjoaaDoorBase
namespace Go.Proofs.YtlickpalbfhjoaaDoor
open Go.RowKit

def hasC (s : ByteArray) (c : UInt8) : Bool := s.data.toList.contains c
theorem hasC_at {s : ByteArray} {c : UInt8} {k : Nat} (h : k < s.size) (e : s[k] = c) : hasC s c = true := by
  unfold hasC
  rw [List.contains_iff_mem]
  have : s[k] ∈ s.data.toList := by
    have := List.getElem_mem (l := s.data.toList) (n := k) (by simpa using h)
    exact this
  exact e ▸ this
theorem take_snocB (s : ByteArray) (k : Nat) (h : k < s.size) : s.data.toList.take (k + 1) = s.data.toList.take k ++ [s[k]] := by
  rw [List.take_succ_eq_append_getElem (by simpa using h)]; rfl

set_option maxRecDepth 100000 in
set_option maxHeartbeats 400000 in
theorem l1Stands_any (s : ByteArray) (c : UInt8) (w : World) (hs : s.size ≤ maxLen) :
    Calls Tryd.prog 47 #[.string s, .int .u8 (c.toNat : Int)] w fun e w' => e = .returned (.bool (hasC s c)) ∧ w = w' := by
  unfold maxLen at hs
  have hc := c.toNat_lt
  go_enter Tryd.func47, Tryd.ntmps47
  go_wp2
  go_loop [5] (fun i => ∃ k : Nat, k ≤ s.size ∧ i = .int .i64 k ∧ Hid ((s.data.toList.take k).contains c = false)) (fun i => s.size - (intOf i).toNat)
  case atStart => exact ⟨0, Nat.zero_le _, rfl, rfl⟩
  case round =>
    obtain ⟨k, hk, rfl, HC⟩ := hrel
    by_cases hlt : k < s.size
    · have hb : s[k].toNat < 256 := s[k].toNat_lt
      have hts := hide (take_snocB s k hlt)
      by_cases he : s[k] = c
      · have hh := hide (hasC_at hlt he)
        have he' : (s[k].toNat : Int) = (c.toNat : Int) := by rw [he]
        clear he
        go_wp2
        go_ret
        exact ⟨ret_bool hh.out.symm, rfl⟩
      · have he' : ¬ (s[k].toNat : Int) = (c.toNat : Int) := fun h => he (UInt8.toNat_inj.1 (by omega))
        have he'' : ¬ s[k].toNat = c.toNat := fun h => he (UInt8.toNat_inj.1 (by omega))
        have HN : Hid ((s.data.toList.take (k + 1)).contains c = false) := by
          rw [hts.out]
          have h1 := HC.out
          simp only [List.contains_eq_mem, List.mem_append, List.mem_singleton, decide_eq_false_iff_not, not_or] at h1 ⊢
          exact ⟨h1, fun h => he h.symm⟩
        clear he
        go_wp2
        go_round
        case rel => exact ⟨k + 1, by omega, by go_num, HN⟩
        case measure => simp [intOf]; omega
    · have hh : hasC s c = false := by
        have h1 := HC.out
        rw [List.take_of_length_le (by simp; omega)] at h1
        exact h1
      replace hh := hide hh
      go_wp2
      go_ret
      exact ⟨ret_bool hh.out.symm, rfl⟩
end Go.Proofs.YtlickpalbfhjoaaDoor
