/- The reference's reading of a number (l1Read, ParseInt): what ParseP calls specRead; for texts of at most 2^20 bytes. -/
import Derived.Test.YtkimbgehnhcmaaaGreatDoorRead
namespace Go.Proofs.YtkimbgehnhcmaaaGreatDoor
open Go.RowKit

theorem specRead_len {l : List UInt8} (h : ¬ (1 ≤ (stripL l).length ∧ (stripL l).length ≤ 6)) : specRead l = none := by
  unfold specRead; rw [if_neg h]
theorem specRead_bad {l : List UInt8} (h : Lib.decFrom 0 (stripL l) = none) : specRead l = none := by
  unfold specRead
  split
  · rw [h]
  · rfl
theorem specRead_val {l : List UInt8} {m : Nat} {n : Int} (hl : 1 ≤ (stripL l).length ∧ (stripL l).length ≤ 6) (h : Lib.decFrom 0 (stripL l) = some m) (hn : (if (stripL l).length < l.length then -(m : Int) else m) = n) :
    specRead l = if Lib.itoa n = l then some n else none := by
  unfold specRead
  rw [if_pos hl, h]
  simp only [hn]
theorem decFrom_bad {l : List UInt8} {k : Nat} {b : UInt8} (hb : l[k]? = some b) (hd : Lib.digitVal b = none) : Lib.decFrom 0 l = none := by
  cases h : Lib.decFrom 0 l with
  | none => rfl
  | some n =>
    obtain ⟨d, e⟩ := Lib.digit_of_decFrom l 0 n h k b hb
    rw [hd] at e; cases e
theorem byte_at' (s : ByteArray) (k : Nat) (h : k < s.size) : s.data.toList[k]? = some s[k] := by
  rw [List.getElem?_eq_getElem (by simpa using h)]; rfl
theorem strip_neg (s : ByteArray) (h : 1 < s.size) (h0 : s[0] = 45) : stripL s.data.toList = (s.extract 1 s.size).data.toList := by
  have h1 := byte_at' s 0 (by omega)
  unfold stripL
  rw [if_pos ⟨by simpa using h, by rw [List.head?_eq_getElem?, h1, h0]⟩, ByteArray.data_extract]
  rw [Array.toList_extract]
  simp
  rw [List.take_of_length_le (by simp)]
theorem strip_pos (s : ByteArray) (h : ¬ (1 < s.size ∧ s.data.toList[0]? = some 45)) : stripL s.data.toList = s.data.toList := by
  unfold stripL
  rw [if_neg]
  intro h2
  exact h ⟨by simpa using h2.1, by rw [← List.head?_eq_getElem?]; exact h2.2⟩
theorem wrap_u8 (n : Nat) (h : n < 256) : IntKind.u8.wrap (n : Int) = (n : Int) := by
  rw [IntKind.wrap_u8]; omega
def specN (s : ByteArray) : Int := (specRead s.data.toList).getD 0
def specOk (s : ByteArray) : Bool := (specRead s.data.toList).isSome
theorem specN_none {s : ByteArray} (h : specRead s.data.toList = none) : specN s = 0 ∧ specOk s = false := by unfold specN specOk; rw [h]; exact ⟨rfl, rfl⟩
theorem specN_some {s : ByteArray} {n : Int} (h : specRead s.data.toList = some n) : specN s = n ∧ specOk s = true := by unfold specN specOk; rw [h]; exact ⟨rfl, rfl⟩
/-- What l1Read hands back. -/
def RetN (s : ByteArray) (w : World) (e : Ending) (w' : World) : Prop := e = .returned (.tuple #[.int .i64 (specN s), .bool (specOk s)]) ∧ Below w.heap.size w w'
theorem RetN.no {s : ByteArray} {w w' : World} (h : specRead s.data.toList = none) (hb : Below w.heap.size w w') : RetN s w (.returned (.tuple #[.int .i64 0, .bool false])) w' := by
  obtain ⟨h1, h2⟩ := specN_none h
  unfold RetN; rw [h1, h2]; exact ⟨rfl, hb⟩
theorem RetN.yes {s : ByteArray} {w w' : World} {n : Int} (h : specRead s.data.toList = some n) (hb : Below w.heap.size w w') : RetN s w (.returned (.tuple #[.int .i64 n, .bool true])) w' := by
  obtain ⟨h1, h2⟩ := specN_some h
  unfold RetN; rw [h1, h2]; exact ⟨rfl, hb⟩

set_option maxRecDepth 100000 in
set_option maxHeartbeats 1600000 in
theorem l1Read_any (s : ByteArray) (w : World) (hs : s.size ≤ 1048576) : Calls Tryz.prog 12 #[.string s] w (RetN s w) := by
  obtain ⟨t, ht, hcase⟩ : ∃ t : ByteArray, Hid (t.data.toList = stripL s.data.toList) ∧ ((1 < s.size ∧ (∃ h : 0 < s.size, s[0] = 45) ∧ t = s.extract 1 s.size) ∨ (¬ (1 < s.size ∧ s.data.toList[0]? = some 45) ∧ t = s)) := by
    by_cases h : 1 < s.size ∧ s.data.toList[0]? = some 45
    · have h1 := byte_at' s 0 (by omega)
      have h2 : s[0] = 45 := by rw [h.2] at h1; exact (Option.some.inj h1).symm
      exact ⟨_, (strip_neg s h.1 h2).symm, .inl ⟨h.1, ⟨by omega, h2⟩, rfl⟩⟩
    · exact ⟨s, (strip_pos s h).symm, .inr ⟨h, rfl⟩⟩
  have htl : Hid (t.size = (stripL s.data.toList).length) := by unfold Hid; rw [← ht.out]; simp
  have hsl : Hid (s.size = s.data.toList.length) := by unfold Hid; simp
  rcases hcase with ⟨h1, ⟨hp, h2⟩, hte⟩ | ⟨h1, rfl⟩
  · have h2' : s[0].toNat = 45 := by rw [h2]; rfl
    have hz : t.size + 1 = s.size := by rw [hte]; simp; omega
    replace hte := hte.symm
    clear h2
    have hnl : Hid ((stripL s.data.toList).length < s.data.toList.length) := by unfold Hid; rw [← htl.out, ← hsl.out]; omega
    by_cases hl : 1 ≤ t.size ∧ t.size ≤ 6
    · have hl1 := hl.1
      have hl2 := hl.2
      have hlh : Hid (1 ≤ (stripL s.data.toList).length ∧ (stripL s.data.toList).length ≤ 6) := by unfold Hid; rw [← htl.out]; exact hl
      have hin := fun w => l1In_yes (t.size : Int) 1 6 w (by omega) (by omega)
      clear hl
      go_enter Tryz.func12, Tryz.ntmps12
      go_wp2_with (go_at_call 28; refine (hin _).mono ?_; rintro e w1 ⟨rfl, rfl⟩)
      go_loop [5, 6] (fun n i => ∃ k m : Nat, k ≤ t.size ∧ i = .int .i64 k ∧ n = .int .i64 m ∧ m < 1000000 ∧ Hid (Lib.decFrom 0 (t.data.toList.take k) = some m)) (fun _ i => t.size - (intOf i).toNat)
      case atStart => exact ⟨0, 0, Nat.zero_le _, rfl, rfl, by omega, rfl⟩
      case round =>
        obtain ⟨k, m, hk, rfl, rfl, hm, HD⟩ := hrel
        by_cases hlt : k < t.size
        · have hb := t[k].toNat_lt
          have hat := hide (byte_at' t k hlt)
          by_cases hlo : t[k].toNat < 48
          · have HN : Hid (specRead s.data.toList = none) := specRead_bad (by rw [← ht.out]; exact decFrom_bad hat.out (by unfold Lib.digitVal; rw [if_neg (by omega)]))
            go_wp2
            go_ret2
            exact RetN.no HN.out (Below.refl _ _)
          · by_cases hhi : 57 < t[k].toNat
            · have HN : Hid (specRead s.data.toList = none) := specRead_bad (by rw [← ht.out]; exact decFrom_bad hat.out (by unfold Lib.digitVal; rw [if_neg (by omega)]))
              go_wp2
              go_ret2
              exact RetN.no HN.out (Below.refl _ _)
            · obtain ⟨d, hd⟩ : ∃ d : Nat, d = t[k].toNat - 48 := ⟨_, rfl⟩
              have HD2 : Hid (Lib.decFrom 0 (t.data.toList.take (k + 1)) = some (m * 10 + d)) := Lib.decFrom_take _ k 0 m _ d HD.out hat.out (by unfold Lib.digitVal; rw [if_pos (by omega), hd])
              have hm2 : m * 10 + d < 1000000 := by
                have h5 := decFrom_lt _ _ _ HD2.out
                have h6 : 10 ^ (t.data.toList.take (k + 1)).length ≤ 10 ^ 6 := Nat.pow_le_pow_right (by omega) (by simp; omega)
                omega
              have hd10 : d < 10 := by omega
              have hu : (t[k].toNat : Int) - 48 = (d : Int) := by omega
              have hu2 : IntKind.u8.wrap (d : Int) = (d : Int) := by rw [hd]; exact wrap_u8 _ (by omega)
              clear hd
              go_wp2
              go_round
              case rel => exact ⟨k + 1, m * 10 + d, by omega, by go_num, by first | rfl | (congr 1; omega) | go_num, hm2, HD2⟩
              case measure => simp [intOf]; omega
        · obtain rfl : k = t.size := by omega
          have HDf : Hid (Lib.decFrom 0 (stripL s.data.toList) = some m) := by
            have := HD.out
            rw [List.take_of_length_le (by simp), ht.out] at this
            exact this
          have HV := hide (specRead_val (n := -(m : Int)) hlh.out HDf.out (by rw [if_pos hnl.out]))
          have h3 := fun w => l1Num_any (-(m : Int)) (by omega) (by omega) w
          clear HD HDf
          by_cases e : Lib.itoa (-(m : Int)) = s.data.toList
          · have HW : Hid (specRead s.data.toList = some (-(m : Int))) := by have := HV.out; rw [if_pos e] at this; exact this
            rw [text_eq.2 e] at h3
            clear e HV
            go_wp2_with (go_at_call 29; refine (h3 _).mono ?_; rintro e w1 ⟨rfl, q, rfl⟩)
            go_ret2
            exact RetN.yes HW.out (below_drewN (Below.refl _ _) _)
          · have HW : Hid (specRead s.data.toList = none) := by have := HV.out; rw [if_neg e] at this; exact this
            have e2 := bytes_ne' (fun x => e (text_eq.1 x))
            generalize (⟨(Lib.itoa (-(m : Int))).toArray⟩ : ByteArray) = u at h3 e2
            clear e HV
            go_wp2_with (go_at_call 29; refine (h3 _).mono ?_; rintro e w1 ⟨rfl, q, rfl⟩)
            go_ret2
            exact RetN.no HW.out (below_drewN (Below.refl _ _) _)
    · have HN : Hid (specRead s.data.toList = none) := specRead_len (by rw [← htl.out]; exact hl)
      have hin := fun w => l1In_no (t.size : Int) 1 6 w (by omega)
      clear hl
      go_enter Tryz.func12, Tryz.ntmps12
      go_wp2_with (go_at_call 28; refine (hin _).mono ?_; rintro e w1 ⟨rfl, rfl⟩)
      go_ret2
      exact RetN.no HN.out (Below.refl _ _)
  · by_cases hp1 : 1 < t.size
    · have hp : 0 < t.size := by omega
      have h2' : ¬ t[0].toNat = 45 := by
        intro h
        refine h1 ⟨hp1, ?_⟩
        rw [byte_at' t 0 hp]
        exact congrArg some (UInt8.toNat_inj.1 h)
      clear h1
      have hnl : Hid (¬ (stripL t.data.toList).length < t.data.toList.length) := by unfold Hid; rw [← htl.out, ← hsl.out]; omega
      by_cases hl : 1 ≤ t.size ∧ t.size ≤ 6
      · have hl1 := hl.1
        have hl2 := hl.2
        have hlh : Hid (1 ≤ (stripL t.data.toList).length ∧ (stripL t.data.toList).length ≤ 6) := by unfold Hid; rw [← htl.out]; exact hl
        have hin := fun w => l1In_yes (t.size : Int) 1 6 w (by omega) (by omega)
        clear hl
        go_enter Tryz.func12, Tryz.ntmps12
        go_wp2_with (go_at_call 28; refine (hin _).mono ?_; rintro e w1 ⟨rfl, rfl⟩)
        go_loop [5, 6] (fun n i => ∃ k m : Nat, k ≤ t.size ∧ i = .int .i64 k ∧ n = .int .i64 m ∧ m < 1000000 ∧ Hid (Lib.decFrom 0 (t.data.toList.take k) = some m)) (fun _ i => t.size - (intOf i).toNat)
        case atStart => exact ⟨0, 0, Nat.zero_le _, rfl, rfl, by omega, rfl⟩
        case round =>
          obtain ⟨k, m, hk, rfl, rfl, hm, HD⟩ := hrel
          by_cases hlt : k < t.size
          · have hb := t[k].toNat_lt
            have hat := hide (byte_at' t k hlt)
            by_cases hlo : t[k].toNat < 48
            · have HN : Hid (specRead t.data.toList = none) := specRead_bad (by rw [← ht.out]; exact decFrom_bad hat.out (by unfold Lib.digitVal; rw [if_neg (by omega)]))
              go_wp2
              go_ret2
              exact RetN.no HN.out (Below.refl _ _)
            · by_cases hhi : 57 < t[k].toNat
              · have HN : Hid (specRead t.data.toList = none) := specRead_bad (by rw [← ht.out]; exact decFrom_bad hat.out (by unfold Lib.digitVal; rw [if_neg (by omega)]))
                go_wp2
                go_ret2
                exact RetN.no HN.out (Below.refl _ _)
              · obtain ⟨d, hd⟩ : ∃ d : Nat, d = t[k].toNat - 48 := ⟨_, rfl⟩
                have HD2 : Hid (Lib.decFrom 0 (t.data.toList.take (k + 1)) = some (m * 10 + d)) := Lib.decFrom_take _ k 0 m _ d HD.out hat.out (by unfold Lib.digitVal; rw [if_pos (by omega), hd])
                have hm2 : m * 10 + d < 1000000 := by
                  have h5 := decFrom_lt _ _ _ HD2.out
                  have h6 : 10 ^ (t.data.toList.take (k + 1)).length ≤ 10 ^ 6 := Nat.pow_le_pow_right (by omega) (by simp; omega)
                  omega
                have hd10 : d < 10 := by omega
                have hu : (t[k].toNat : Int) - 48 = (d : Int) := by omega
                have hu2 : IntKind.u8.wrap (d : Int) = (d : Int) := by rw [hd]; exact wrap_u8 _ (by omega)
                clear hd
                go_wp2
                go_round
                case rel => exact ⟨k + 1, m * 10 + d, by omega, by go_num, by first | rfl | (congr 1; omega) | go_num, hm2, HD2⟩
                case measure => simp [intOf]; omega
          · obtain rfl : k = t.size := by omega
            have HDf : Hid (Lib.decFrom 0 (stripL t.data.toList) = some m) := by
              have := HD.out
              rw [List.take_of_length_le (by simp), ht.out] at this
              exact this
            have HV := hide (specRead_val (n := (m : Int)) hlh.out HDf.out (by rw [if_neg hnl.out]))
            have h3 := fun w => l1Num_any ((m : Int)) (by omega) (by omega) w
            clear HD HDf
            by_cases e : Lib.itoa ((m : Int)) = t.data.toList
            · have HW : Hid (specRead t.data.toList = some ((m : Int))) := by have := HV.out; rw [if_pos e] at this; exact this
              rw [text_eq.2 e] at h3
              clear e HV
              go_wp2_with (go_at_call 29; refine (h3 _).mono ?_; rintro e w1 ⟨rfl, q, rfl⟩)
              go_ret2
              exact RetN.yes HW.out (below_drewN (Below.refl _ _) _)
            · have HW : Hid (specRead t.data.toList = none) := by have := HV.out; rw [if_neg e] at this; exact this
              have e2 := bytes_ne' (fun x => e (text_eq.1 x))
              generalize (⟨(Lib.itoa ((m : Int))).toArray⟩ : ByteArray) = u at h3 e2
              clear e HV
              go_wp2_with (go_at_call 29; refine (h3 _).mono ?_; rintro e w1 ⟨rfl, q, rfl⟩)
              go_ret2
              exact RetN.no HW.out (below_drewN (Below.refl _ _) _)
      · have HN : Hid (specRead t.data.toList = none) := specRead_len (by rw [← htl.out]; exact hl)
        have hin := fun w => l1In_no (t.size : Int) 1 6 w (by omega)
        clear hl
        go_enter Tryz.func12, Tryz.ntmps12
        go_wp2_with (go_at_call 28; refine (hin _).mono ?_; rintro e w1 ⟨rfl, rfl⟩)
        go_ret2
        exact RetN.no HN.out (Below.refl _ _)
    · clear h1
      have hnl : Hid (¬ (stripL t.data.toList).length < t.data.toList.length) := by unfold Hid; rw [← htl.out, ← hsl.out]; omega
      by_cases hl : 1 ≤ t.size ∧ t.size ≤ 6
      · have hl1 := hl.1
        have hl2 := hl.2
        have hlh : Hid (1 ≤ (stripL t.data.toList).length ∧ (stripL t.data.toList).length ≤ 6) := by unfold Hid; rw [← htl.out]; exact hl
        have hin := fun w => l1In_yes (t.size : Int) 1 6 w (by omega) (by omega)
        clear hl
        go_enter Tryz.func12, Tryz.ntmps12
        go_wp2_with (go_at_call 28; refine (hin _).mono ?_; rintro e w1 ⟨rfl, rfl⟩)
        go_loop [5, 6] (fun n i => ∃ k m : Nat, k ≤ t.size ∧ i = .int .i64 k ∧ n = .int .i64 m ∧ m < 1000000 ∧ Hid (Lib.decFrom 0 (t.data.toList.take k) = some m)) (fun _ i => t.size - (intOf i).toNat)
        case atStart => exact ⟨0, 0, Nat.zero_le _, rfl, rfl, by omega, rfl⟩
        case round =>
          obtain ⟨k, m, hk, rfl, rfl, hm, HD⟩ := hrel
          by_cases hlt : k < t.size
          · have hb := t[k].toNat_lt
            have hat := hide (byte_at' t k hlt)
            by_cases hlo : t[k].toNat < 48
            · have HN : Hid (specRead t.data.toList = none) := specRead_bad (by rw [← ht.out]; exact decFrom_bad hat.out (by unfold Lib.digitVal; rw [if_neg (by omega)]))
              go_wp2
              go_ret2
              exact RetN.no HN.out (Below.refl _ _)
            · by_cases hhi : 57 < t[k].toNat
              · have HN : Hid (specRead t.data.toList = none) := specRead_bad (by rw [← ht.out]; exact decFrom_bad hat.out (by unfold Lib.digitVal; rw [if_neg (by omega)]))
                go_wp2
                go_ret2
                exact RetN.no HN.out (Below.refl _ _)
              · obtain ⟨d, hd⟩ : ∃ d : Nat, d = t[k].toNat - 48 := ⟨_, rfl⟩
                have HD2 : Hid (Lib.decFrom 0 (t.data.toList.take (k + 1)) = some (m * 10 + d)) := Lib.decFrom_take _ k 0 m _ d HD.out hat.out (by unfold Lib.digitVal; rw [if_pos (by omega), hd])
                have hm2 : m * 10 + d < 1000000 := by
                  have h5 := decFrom_lt _ _ _ HD2.out
                  have h6 : 10 ^ (t.data.toList.take (k + 1)).length ≤ 10 ^ 6 := Nat.pow_le_pow_right (by omega) (by simp; omega)
                  omega
                have hd10 : d < 10 := by omega
                have hu : (t[k].toNat : Int) - 48 = (d : Int) := by omega
                have hu2 : IntKind.u8.wrap (d : Int) = (d : Int) := by rw [hd]; exact wrap_u8 _ (by omega)
                clear hd
                go_wp2
                go_round
                case rel => exact ⟨k + 1, m * 10 + d, by omega, by go_num, by first | rfl | (congr 1; omega) | go_num, hm2, HD2⟩
                case measure => simp [intOf]; omega
          · obtain rfl : k = t.size := by omega
            have HDf : Hid (Lib.decFrom 0 (stripL t.data.toList) = some m) := by
              have := HD.out
              rw [List.take_of_length_le (by simp), ht.out] at this
              exact this
            have HV := hide (specRead_val (n := (m : Int)) hlh.out HDf.out (by rw [if_neg hnl.out]))
            have h3 := fun w => l1Num_any ((m : Int)) (by omega) (by omega) w
            clear HD HDf
            by_cases e : Lib.itoa ((m : Int)) = t.data.toList
            · have HW : Hid (specRead t.data.toList = some ((m : Int))) := by have := HV.out; rw [if_pos e] at this; exact this
              rw [text_eq.2 e] at h3
              clear e HV
              go_wp2_with (go_at_call 29; refine (h3 _).mono ?_; rintro e w1 ⟨rfl, q, rfl⟩)
              go_ret2
              exact RetN.yes HW.out (below_drewN (Below.refl _ _) _)
            · have HW : Hid (specRead t.data.toList = none) := by have := HV.out; rw [if_neg e] at this; exact this
              have e2 := bytes_ne' (fun x => e (text_eq.1 x))
              generalize (⟨(Lib.itoa ((m : Int))).toArray⟩ : ByteArray) = u at h3 e2
              clear e HV
              go_wp2_with (go_at_call 29; refine (h3 _).mono ?_; rintro e w1 ⟨rfl, q, rfl⟩)
              go_ret2
              exact RetN.no HW.out (below_drewN (Below.refl _ _) _)
      · have HN : Hid (specRead t.data.toList = none) := specRead_len (by rw [← htl.out]; exact hl)
        have hin := fun w => l1In_no (t.size : Int) 1 6 w (by omega)
        clear hl
        go_enter Tryz.func12, Tryz.ntmps12
        go_wp2_with (go_at_call 28; refine (hin _).mono ?_; rintro e w1 ⟨rfl, rfl⟩)
        go_ret2
        exact RetN.no HN.out (Below.refl _ _)
end Go.Proofs.YtkimbgehnhcmaaaGreatDoor
