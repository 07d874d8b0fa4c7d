/- The parts of a text ahead of and behind a byte, by the reference's loop (l4Cut): what PcW calls cutA, cutB, cutF; for texts of at most 2^20 bytes. -/
import Derived.Test.YtkimbgehnhcmaaaGreatDoorPcW
import Derived.Deep.QuietTactic
namespace Go.Proofs.YtkimbgehnhcmaaaGreatDoor
open Go.RowKit

def cutAB (c : UInt8) (s : ByteArray) : ByteArray := ⟨(cutA c s.data.toList).toArray⟩
def cutBB (c : UInt8) (s : ByteArray) : ByteArray := ⟨(cutB c s.data.toList).toArray⟩
theorem cutAB_bytes (c : UInt8) (s : ByteArray) : (cutAB c s).data.toList = cutA c s.data.toList := by simp [cutAB]
theorem cutBB_bytes (c : UInt8) (s : ByteArray) : (cutBB c s).data.toList = cutB c s.data.toList := by simp [cutBB]
theorem cutAB_size (c : UInt8) (s : ByteArray) : (cutAB c s).size ≤ s.size := by
  have h1 : (cutAB c s).size = (cutA c s.data.toList).length := by rfl
  have h2 : s.size = s.data.toList.length := by simp
  rw [h1, h2]
  exact cutA_len c _
theorem cutBB_size (c : UInt8) (s : ByteArray) : (cutBB c s).size ≤ s.size := by
  have h1 : (cutBB c s).size = (cutB c s.data.toList).length := by rfl
  have h2 : s.size = s.data.toList.length := by simp
  rw [h1, h2]
  exact cutB_len c _
theorem extract_head (s : ByteArray) (k : Nat) : s.extract 0 k = ⟨(s.data.toList.take k).toArray⟩ := by
  apply ByteArray.ext
  rw [ByteArray.data_extract]
  apply Array.ext'
  simp
theorem extract_tail (s : ByteArray) (k : Nat) : s.extract k s.size = ⟨(s.data.toList.drop k).toArray⟩ := by
  apply ByteArray.ext
  rw [ByteArray.data_extract]
  apply Array.ext'
  rw [Array.toList_extract, List.extract_eq_take_drop, List.take_of_length_le (by simp)]
theorem take_hit {l : List UInt8} {c : UInt8} {k : Nat} (h2 : l[k]? = some c) : l = l.take k ++ c :: l.drop (k + 1) := by
  have hk := (List.getElem?_eq_some_iff.1 h2).1
  have e : l[k] = c := (List.getElem?_eq_some_iff.1 h2).2
  conv => lhs; rw [← List.take_append_drop k l]
  rw [List.drop_eq_getElem_cons hk, e]
theorem cutAB_hit {c : UInt8} {s : ByteArray} {k : Nat} (h : c ∉ s.data.toList.take k) (h2 : s.data.toList[k]? = some c) : cutAB c s = s.extract 0 k ∧ cutBB c s = s.extract (k + 1) s.size ∧ cutF c s.data.toList = true := by
  have hc := cut_at (b := s.data.toList.drop (k + 1)) h
  rw [← take_hit h2] at hc
  unfold cutAB cutBB
  rw [hc.1, hc.2.1, extract_head, extract_tail]
  exact ⟨rfl, rfl, hc.2.2⟩
theorem cutAB_miss {c : UInt8} {s : ByteArray} (h : c ∉ s.data.toList) : cutAB c s = s ∧ cutBB c s = ByteArray.empty ∧ cutF c s.data.toList = false := by
  have hc := cut_no h
  unfold cutAB cutBB
  rw [hc.1, hc.2.1]
  exact ⟨by apply ext_bytes; simp, rfl, hc.2.2⟩
theorem take_more {l : List UInt8} {c : UInt8} {k : Nat} (h : c ∉ l.take k) (h2 : ¬ l[k]? = some c) : c ∉ l.take (k + 1) := by
  rw [List.take_add_one, List.mem_append]
  rintro (h3 | h3)
  · exact h h3
  · simp only [Option.mem_toList] at h3
    exact h2 h3

/-- What l4Cut and strings.Cut hand back. -/
def RetCut (c : UInt8) (s : ByteArray) (w : World) (e : Ending) (w' : World) : Prop := e = .returned (.tuple #[.string (cutAB c s), .string (cutBB c s), .bool (cutF c s.data.toList)]) ∧ ∃ m, w' = w.drewN m

set_option maxRecDepth 100000 in
set_option maxHeartbeats 800000 in
theorem l4Cut_any (s : ByteArray) (c : UInt8) (w : World) (hs : s.size ≤ 1048576) : Calls Tryz.prog 11 #[.string s, .int .u8 (c.toNat : Int)] w (RetCut c s w) := by
  have hc := c.toNat_lt
  go_enter Tryz.func11, Tryz.ntmps11
  go_wp2
  go_loop [7] (fun i => ∃ k : Nat, k ≤ s.size ∧ i = .int .i64 k ∧ Hid (c ∉ s.data.toList.take k)) (fun i => s.size - (intOf i).toNat)
  case atStart => exact ⟨0, Nat.zero_le _, rfl, by simp [Hid]⟩
  case round =>
    obtain ⟨k, hk, rfl, HN⟩ := hrel
    by_cases hlt : k < s.size
    · have hb : s[k].toNat < 256 := s[k].toNat_lt
      have hat := hide (byte_at s k hlt)
      by_cases he : s[k] = c
      · have HV := hide (cutAB_hit HN.out (hat.out.trans (congrArg some he)))
        have he' : s[k].toNat = c.toNat := by rw [he]
        clear he
        go_wp2
        go_quiet (fail)
        go_wp2
        go_ret3
        exact ⟨by rw [HV.out.1, HV.out.2.1, HV.out.2.2]; rfl, _, rfl⟩
      · have HN2 : Hid (c ∉ s.data.toList.take (k + 1)) := take_more HN.out (by rw [hat.out]; exact fun h => he (Option.some.inj h))
        have he' : ¬ s[k].toNat = c.toNat := fun h => he (UInt8.toNat_inj.1 h)
        clear he
        go_wp2
        go_round
        case rel => first | exact ⟨k + 1, by omega, by go_num, HN2⟩ | ((repeat apply Exists.intro); refine ⟨?_, rfl⟩; exact ⟨k + 1, by omega, by go_num, HN2⟩)
        case measure => first | (simp [intOf]; done) | (simp [intOf]; omega)
    · obtain rfl : k = s.size := by omega
      have HM : Hid (c ∉ s.data.toList) := by have := HN.out; rwa [List.take_of_length_le (by simp)] at this
      have HV := hide (cutAB_miss HM.out)
      go_wp2
      go_ret3
      exact ⟨by rw [HV.out.1, HV.out.2.1, HV.out.2.2]; rfl, 0, rfl⟩
end Go.Proofs.YtkimbgehnhcmaaaGreatDoor
