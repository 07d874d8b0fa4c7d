/- The reference's reading of a number of at most nine digits (l2Number): what FracP calls num9; for texts of at most 2^20 bytes. -/
import Derived.Test.YtlickpalbfhjoaaDoorFracP
import Derived.Test.YtlickpalbfhjoaaDoorReadS
namespace Go.Proofs.YtlickpalbfhjoaaDoor
open Go.RowKit

def n9N (s : ByteArray) : Int := (num9 s.data.toList).getD 0
def n9Ok (s : ByteArray) : Bool := (num9 s.data.toList).isSome
/-- What l2Number hands back. -/
def Ret9 (s : ByteArray) (w : World) (e : Ending) (w' : World) : Prop := e = .returned (.tuple #[.int .i64 (n9N s), .bool (n9Ok s)]) ∧ w = w'
theorem Ret9.no {s : ByteArray} {w : World} (h : num9 s.data.toList = none) : Ret9 s w (.returned (.tuple #[.int .i64 0, .bool false])) w := by
  unfold Ret9 n9N n9Ok; rw [h]; exact ⟨rfl, rfl⟩
theorem Ret9.yes {s : ByteArray} {w : World} {n : Int} (h : num9 s.data.toList = some n) : Ret9 s w (.returned (.tuple #[.int .i64 n, .bool true])) w := by
  unfold Ret9 n9N n9Ok; rw [h]; exact ⟨rfl, rfl⟩
theorem from9_one (s : ByteArray) (h : 0 < s.size) (e : s[0] = 45) : from9 s.data.toList = 1 := by
  unfold from9
  rw [if_pos]
  rw [List.head?_eq_getElem?, byte_at' s 0 h, e]
theorem from9_zero (s : ByteArray) (h : 0 < s.size) (e : ¬ s[0] = 45) : from9 s.data.toList = 0 := by
  unfold from9
  rw [if_neg]
  rw [List.head?_eq_getElem?, byte_at' s 0 h]
  exact fun h => e (Option.some.inj h)
theorem from9_none (s : ByteArray) (h : ¬ 0 < s.size) : num9 s.data.toList = none := by
  unfold num9
  rw [if_neg]
  have : s.data.toList.length = s.size := by simp
  omega
theorem num9_len {l : List UInt8} {f : Nat} (hf : from9 l = f) (h : ¬ (1 ≤ l.length - f ∧ l.length - f ≤ 9)) : num9 l = none := by
  unfold num9; rw [hf, if_neg h]
theorem num9_bad {l : List UInt8} {f : Nat} (hf : from9 l = f) (h : Lib.decFrom 0 (l.drop f) = none) : num9 l = none := by
  unfold num9
  rw [hf, h]
  split <;> rfl
theorem num9_val {l : List UInt8} {f m : Nat} (hf : from9 l = f) (hl : 1 ≤ l.length - f ∧ l.length - f ≤ 9) (h : Lib.decFrom 0 (l.drop f) = some m) : num9 l = some (if f = 1 then -(m : Int) else m) := by
  unfold num9
  rw [hf, if_pos hl, h]
theorem drop_at (s : ByteArray) (f k : Nat) (hf : f ≤ k) (h : k < s.size) : (s.data.toList.drop f)[k - f]? = some s[k] := by
  rw [List.getElem?_drop, show f + (k - f) = k by omega]
  exact byte_at' s k h

set_option maxRecDepth 100000 in
set_option maxHeartbeats 1600000 in
theorem l2Number_any (s : ByteArray) (w : World) (hs : s.size ≤ 1048576) : Calls Tryd.prog 59 #[.string s] w (Ret9 s w) := by
  have hsl : Hid (s.data.toList.length = s.size) := by unfold Hid; simp
  by_cases h0 : 0 < s.size
  · by_cases h1 : s[0] = 45
    · have h1' : s[0].toNat = 45 := by rw [h1]; rfl
      have hf := hide (from9_one s h0 h1)
      clear h1
      by_cases hl : 1 ≤ s.size - 1 ∧ s.size - 1 ≤ 9
      · have hl1 := hl.1
        have hl2 := hl.2
        have hlh : Hid (1 ≤ s.data.toList.length - 1 ∧ s.data.toList.length - 1 ≤ 9) := by unfold Hid; rw [hsl.out]; exact hl
        clear hl
        go_enter Tryd.func59, Tryd.ntmps59
        go_wp2_with (first | (go_at_call 39; refine (l1In_yes _ _ _ _ (by omega) (by omega)).mono ?_; rintro e w' ⟨rfl, rfl⟩) | (go_at_call 39; refine (l1In_no _ _ _ _ (by omega)).mono ?_; rintro e w' ⟨rfl, rfl⟩))
        go_loop [4, 6] (fun n i => ∃ k m : Nat, 1 ≤ k ∧ k ≤ s.size ∧ i = .int .i64 k ∧ n = .int .i64 m ∧ m < 1000000000 ∧ Hid (Lib.decFrom 0 ((s.data.toList.drop 1).take (k - 1)) = some m)) (fun _ i => s.size - (intOf i).toNat)
        case atStart => exact ⟨1, 0, Nat.le_refl _, by omega, rfl, rfl, by omega, rfl⟩
        case round =>
          obtain ⟨k, m, hkf, hk, rfl, rfl, hm, HD⟩ := hrel
          by_cases hlt : k < s.size
          · have hb := s[k].toNat_lt
            have hat := hide (drop_at s 1 k hkf hlt)
            by_cases hlo : s[k].toNat < 48
            · have HN : Hid (num9 s.data.toList = none) := num9_bad hf.out (decFrom_bad hat.out (by unfold Lib.digitVal; rw [if_neg (by omega)]))
              go_wp2
              go_ret2
              exact Ret9.no HN.out
            · by_cases hhi : 57 < s[k].toNat
              · have HN : Hid (num9 s.data.toList = none) := num9_bad hf.out (decFrom_bad hat.out (by unfold Lib.digitVal; rw [if_neg (by omega)]))
                go_wp2
                go_ret2
                exact Ret9.no HN.out
              · obtain ⟨d, hd⟩ : ∃ d : Nat, d = s[k].toNat - 48 := ⟨_, rfl⟩
                have HD2 : Hid (Lib.decFrom 0 ((s.data.toList.drop 1).take (k + 1 - 1)) = some (m * 10 + d)) := by
                  rw [show k + 1 - 1 = k - 1 + 1 by omega]
                  exact Lib.decFrom_take _ (k - 1) 0 m _ d HD.out hat.out (by unfold Lib.digitVal; rw [if_pos (by omega), hd])
                have hm2 : m * 10 + d < 1000000000 := by
                  have h5 := decFrom_lt _ _ _ HD2.out
                  have h6 : 10 ^ ((s.data.toList.drop 1).take (k + 1 - 1)).length ≤ 10 ^ 9 := Nat.pow_le_pow_right (by omega) (by simp; omega)
                  omega
                have hd10 : d < 10 := by omega
                have hu : (s[k].toNat : Int) - 48 = (d : Int) := by omega
                have hu2 : IntKind.u8.wrap (d : Int) = (d : Int) := by rw [hd]; exact wrap_u8 _ (by omega)
                clear hd
                go_wp2
                go_round
                case rel => exact ⟨k + 1, m * 10 + d, by omega, by omega, by go_num, by first | rfl | (congr 1; omega) | go_num, hm2, HD2⟩
                case measure => simp [intOf]; omega
          · obtain rfl : k = s.size := by omega
            have HV : Hid (num9 s.data.toList = some (-(m : Int))) := by
              have := HD.out
              rw [List.take_of_length_le (by simp)] at this
              have h5 := num9_val hf.out hlh.out this
              exact (by simpa using h5 : num9 s.data.toList = some (-(m : Int)))
            go_wp2
            go_ret2
            exact Ret9.yes HV.out
      · have HN : Hid (num9 s.data.toList = none) := num9_len hf.out (by rw [hsl.out]; exact hl)
        go_enter Tryd.func59, Tryd.ntmps59
        go_wp2_with (first | (go_at_call 39; refine (l1In_yes _ _ _ _ (by omega) (by omega)).mono ?_; rintro e w' ⟨rfl, rfl⟩) | (go_at_call 39; refine (l1In_no _ _ _ _ (by omega)).mono ?_; rintro e w' ⟨rfl, rfl⟩))
        go_ret2
        exact Ret9.no HN.out
    · have h1' : ¬ s[0].toNat = 45 := fun h => h1 (UInt8.toNat_inj.1 h)
      have hf := hide (from9_zero s h0 h1)
      have hb0 := s[0].toNat_lt
      clear h1
      by_cases hl : 1 ≤ s.size - 0 ∧ s.size - 0 ≤ 9
      · have hl1 := hl.1
        have hl2 := hl.2
        have hlh : Hid (1 ≤ s.data.toList.length - 0 ∧ s.data.toList.length - 0 ≤ 9) := by unfold Hid; rw [hsl.out]; exact hl
        clear hl
        go_enter Tryd.func59, Tryd.ntmps59
        go_wp2_with (first | (go_at_call 39; refine (l1In_yes _ _ _ _ (by omega) (by omega)).mono ?_; rintro e w' ⟨rfl, rfl⟩) | (go_at_call 39; refine (l1In_no _ _ _ _ (by omega)).mono ?_; rintro e w' ⟨rfl, rfl⟩))
        go_loop [4, 6] (fun n i => ∃ k m : Nat, 0 ≤ k ∧ k ≤ s.size ∧ i = .int .i64 k ∧ n = .int .i64 m ∧ m < 1000000000 ∧ Hid (Lib.decFrom 0 ((s.data.toList.drop 0).take (k - 0)) = some m)) (fun _ i => s.size - (intOf i).toNat)
        case atStart => exact ⟨0, 0, Nat.le_refl _, by omega, rfl, rfl, by omega, rfl⟩
        case round =>
          obtain ⟨k, m, hkf, hk, rfl, rfl, hm, HD⟩ := hrel
          by_cases hlt : k < s.size
          · have hb := s[k].toNat_lt
            have hat := hide (drop_at s 0 k hkf hlt)
            by_cases hlo : s[k].toNat < 48
            · have HN : Hid (num9 s.data.toList = none) := num9_bad hf.out (decFrom_bad hat.out (by unfold Lib.digitVal; rw [if_neg (by omega)]))
              go_wp2
              go_ret2
              exact Ret9.no HN.out
            · by_cases hhi : 57 < s[k].toNat
              · have HN : Hid (num9 s.data.toList = none) := num9_bad hf.out (decFrom_bad hat.out (by unfold Lib.digitVal; rw [if_neg (by omega)]))
                go_wp2
                go_ret2
                exact Ret9.no HN.out
              · obtain ⟨d, hd⟩ : ∃ d : Nat, d = s[k].toNat - 48 := ⟨_, rfl⟩
                have HD2 : Hid (Lib.decFrom 0 ((s.data.toList.drop 0).take (k + 1 - 0)) = some (m * 10 + d)) := by
                  rw [show k + 1 - 0 = k - 0 + 1 by omega]
                  exact Lib.decFrom_take _ (k - 0) 0 m _ d HD.out hat.out (by unfold Lib.digitVal; rw [if_pos (by omega), hd])
                have hm2 : m * 10 + d < 1000000000 := by
                  have h5 := decFrom_lt _ _ _ HD2.out
                  have h6 : 10 ^ ((s.data.toList.drop 0).take (k + 1 - 0)).length ≤ 10 ^ 9 := Nat.pow_le_pow_right (by omega) (by simp; omega)
                  omega
                have hd10 : d < 10 := by omega
                have hu : (s[k].toNat : Int) - 48 = (d : Int) := by omega
                have hu2 : IntKind.u8.wrap (d : Int) = (d : Int) := by rw [hd]; exact wrap_u8 _ (by omega)
                clear hd
                go_wp2
                go_round
                case rel => exact ⟨k + 1, m * 10 + d, by omega, by omega, by go_num, by first | rfl | (congr 1; omega) | go_num, hm2, HD2⟩
                case measure => simp [intOf]; omega
          · obtain rfl : k = s.size := by omega
            have HV : Hid (num9 s.data.toList = some ((m : Int))) := by
              have := HD.out
              rw [List.take_of_length_le (by simp)] at this
              have h5 := num9_val hf.out hlh.out this
              exact (by simpa using h5 : num9 s.data.toList = some ((m : Int)))
            go_wp2
            go_ret2
            exact Ret9.yes HV.out
      · have HN : Hid (num9 s.data.toList = none) := num9_len hf.out (by rw [hsl.out]; exact hl)
        go_enter Tryd.func59, Tryd.ntmps59
        go_wp2_with (first | (go_at_call 39; refine (l1In_yes _ _ _ _ (by omega) (by omega)).mono ?_; rintro e w' ⟨rfl, rfl⟩) | (go_at_call 39; refine (l1In_no _ _ _ _ (by omega)).mono ?_; rintro e w' ⟨rfl, rfl⟩))
        go_ret2
        exact Ret9.no HN.out
  · have HN := hide (from9_none s h0)
    go_enter Tryd.func59, Tryd.ntmps59
    go_wp2_with (first | (go_at_call 39; refine (l1In_yes _ _ _ _ (by omega) (by omega)).mono ?_; rintro e w' ⟨rfl, rfl⟩) | (go_at_call 39; refine (l1In_no _ _ _ _ (by omega)).mono ?_; rintro e w' ⟨rfl, rfl⟩))
    go_ret2
    exact Ret9.no HN.out
end Go.Proofs.YtlickpalbfhjoaaDoor
