/- The greatest common divisor, the size of a number, and whether a fraction is valid: the reference and the program return the same; for numbers of 64 bits. -/
import Derived.Test.YtlickpalbfhjoaaDoorBase
namespace Go.Proofs.YtlickpalbfhjoaaDoor
open Go.RowKit

theorem gcd_step (a b : Int) (ha : 0 ≤ a) (hb : 0 < b) : Int.gcd b (a % b) = Int.gcd a b := by
  obtain ⟨x, rfl⟩ := Int.eq_ofNat_of_zero_le ha
  obtain ⟨y, rfl⟩ := Int.eq_ofNat_of_zero_le (Int.le_of_lt hb)
  show Nat.gcd y (x % y) = Nat.gcd x y
  rw [Nat.gcd_comm y, ← Nat.gcd_rec, Nat.gcd_comm]
theorem gcd_end (a : Int) (ha : 0 ≤ a) : ((Int.gcd a 0 : Nat) : Int) = a := by
  simp; omega

theorem l2Gcd_any (a b : Int) (w : World) (ha : 0 ≤ a) (hb : 0 ≤ b) (ha' : a ≤ 9223372036854775807) (hb' : b ≤ 9223372036854775807) :
    Calls Tryd.prog 69 #[.int .i64 a, .int .i64 b] w fun e w' => e = .returned (.int .i64 (Int.gcd a b)) ∧ ∃ n, w' = w.drewN n := by
  go_enter Tryd.func69, Tryd.ntmps69
  go_wp2
  go_loopw [0, 1] (fun x y wr => ∃ a' b' : Int, x = .int .i64 a' ∧ y = .int .i64 b' ∧ 0 ≤ a' ∧ 0 ≤ b' ∧ a' ≤ 9223372036854775807 ∧ b' ≤ 9223372036854775807 ∧ Hid (Int.gcd a' b' = Int.gcd a b) ∧ ∃ n, Hid (wr = w.drewN n)) (fun _ y _ => (intOf y).toNat)
  case atStart => exact ⟨a, b, rfl, rfl, ha, hb, ha', hb', rfl, 0, rfl⟩
  case round =>
    obtain ⟨a', b', rfl, rfl, h1, h2, h3, h4, HG, n, HW⟩ := hrel
    clear ha hb ha' hb'
    by_cases hp : 0 < b'
    · have h5 := Int.emod_nonneg a' (show b' ≠ 0 by omega)
      have h6 := Int.emod_lt_of_pos a' hp
      have hg : Hid (Int.gcd b' (a' % b') = Int.gcd a' b') := gcd_step a' b' h1 hp
      go_wp2
      go_quiet (fail)
      go_wp2
      go_roundw
      case rel => exact ⟨b', a' % b', rfl, rfl, by omega, h5, h4, by omega, hg.out.trans HG.out, by have := HW.out; subst this; exact ⟨n + _, World.drewN_drewN _ _ _⟩⟩
      case measure => simp [intOf]; omega
    · have hz : b' = 0 := by omega
      subst hz
      go_wp2
      go_ret
      exact ⟨ret_int (by rw [← HG.out]; exact (gcd_end a' h1).symm), n, HW.out⟩
theorem divisor_any (a b : Int) (w : World) (ha : 0 ≤ a) (hb : 0 ≤ b) (ha' : a ≤ 9223372036854775807) (hb' : b ≤ 9223372036854775807) :
    Calls Tryd.prog 71 #[.int .i64 a, .int .i64 b] w fun e w' => e = .returned (.int .i64 (Int.gcd a b)) ∧ ∃ n, w' = w.drewN n := by
  go_enter Tryd.func71, Tryd.ntmps71
  go_wp2
  go_loopw [0, 1] (fun x y wr => ∃ a' b' : Int, x = .int .i64 a' ∧ y = .int .i64 b' ∧ 0 ≤ a' ∧ 0 ≤ b' ∧ a' ≤ 9223372036854775807 ∧ b' ≤ 9223372036854775807 ∧ Hid (Int.gcd a' b' = Int.gcd a b) ∧ ∃ n, Hid (wr = w.drewN n)) (fun _ y _ => (intOf y).toNat)
  case atStart => exact ⟨a, b, rfl, rfl, ha, hb, ha', hb', rfl, 0, rfl⟩
  case round =>
    obtain ⟨a', b', rfl, rfl, h1, h2, h3, h4, HG, n, HW⟩ := hrel
    clear ha hb ha' hb'
    by_cases hp : 0 < b'
    · have h5 := Int.emod_nonneg a' (show b' ≠ 0 by omega)
      have h6 := Int.emod_lt_of_pos a' hp
      have hg : Hid (Int.gcd b' (a' % b') = Int.gcd a' b') := gcd_step a' b' h1 hp
      go_wp2
      go_quiet (fail)
      go_wp2
      go_roundw
      case rel => exact ⟨b', a' % b', rfl, rfl, by omega, h5, h4, by omega, hg.out.trans HG.out, by have := HW.out; subst this; exact ⟨n + _, World.drewN_drewN _ _ _⟩⟩
      case measure => simp [intOf]; omega
    · have hz : b' = 0 := by omega
      subst hz
      go_wp2
      go_ret
      exact ⟨ret_int (by rw [← HG.out]; exact (gcd_end a' h1).symm), n, HW.out⟩
theorem size_any (a : Int) (w : World) (ha : -9223372036854775808 < a) (ha' : a ≤ 9223372036854775807) :
    Calls Tryd.prog 72 #[.int .i64 a] w fun e w' => e = .returned (.int .i64 (a.natAbs : Int)) ∧ w = w' := by
  by_cases h : -a ≤ a
  all_goals
    go_enter Tryd.func72, Tryd.ntmps72
    go_wp2
    go_ret
    exact ⟨ret_int (by omega), rfl⟩
theorem l2Abs_any (a : Int) (w : World) (ha : -9223372036854775808 < a) (ha' : a ≤ 9223372036854775807) :
    Calls Tryd.prog 70 #[.int .i64 a] w fun e w' => e = .returned (.int .i64 (a.natAbs : Int)) ∧ w = w' := by
  by_cases h : -a < a
  all_goals
    go_enter Tryd.func70, Tryd.ntmps70
    go_wp2
    go_ret
    exact ⟨ret_int (by omega), rfl⟩

/-- Whether a number over another one is a valid fraction. -/
def fracB (a b : Int) : Bool := decide (1 ≤ b ∧ b ≤ 100000 ∧ -100000000 ≤ a ∧ a ≤ 100000000 ∧ Int.gcd a b = 1)
theorem gcd_abs (a b : Int) : Int.gcd (a.natAbs : Int) b = Int.gcd a b := by simp [Int.gcd]
theorem quiet_more {P : Program} {f : FuncId} {args : Array Value} {w : World} {n : Nat} {v : Value}
    (h : Calls P f args (w.drewN n) fun e w' => e = .returned v ∧ ∃ m, w' = (w.drewN n).drewN m) : Calls P f args (w.drewN n) fun e w'' => e = .returned v ∧ ∃ m, w'' = w.drewN m :=
  h.mono fun _ _ ⟨he, m, hm⟩ => ⟨he, n + m, by rw [hm, World.drewN_drewN]⟩

theorem l2Good_any (a b : Int) (w : World) :
    Calls Tryd.prog 43 #[.agg #[.int .i64 a, .int .i64 b]] w fun e w' => e = .returned (.bool (fracB a b)) ∧ Below w.heap.size w w' := by
  by_cases c1 : 1 ≤ b ∧ b ≤ 100000
  · obtain ⟨c11, c12⟩ := c1
    by_cases c2 : -100000000 ≤ a ∧ a ≤ 100000000
    · by_cases c3 : Int.gcd a b = 1
      all_goals
        obtain ⟨c21, c22⟩ := c2
        have hF : Hid (fracB a b = decide (Int.gcd a b = 1)) := by unfold fracB Hid; simp [*]
        have HG : Hid (Int.gcd (a.natAbs : Int) b = Int.gcd a b) := gcd_abs a b
        have hq : (((Int.gcd (a.natAbs : Int) b : Nat) : Int) == 1) = decide (Int.gcd a b = 1) := by rw [HG.out, Bool.eq_iff_iff]; simp; omega
        clear c3
        go_enter Tryd.func43, Tryd.ntmps43
        go_wp2
        go_quiet ((first
          | (go_at_call 39; exact quiet_left (l1In_yes _ _ _ _ (by omega) (by omega)))
          | (go_at_call 70; exact quiet_left (l2Abs_any _ _ (by omega) (by omega)))
          | (go_at_call 69; exact quiet_more (l2Gcd_any _ _ _ (by omega) (by omega) (by omega) (by omega)))))
        go_wp2
        go_ret
        exact ⟨ret_bool hF.out.symm, below_drewN ((Below.refl _ _).alloc (Nat.le_refl _) _) _⟩
    · have hF : Hid (fracB a b = false) := by unfold fracB Hid; simp; omega
      have C2 := hide c2
      clear c2
      · go_enter Tryd.func43, Tryd.ntmps43
        go_wp2
        go_quiet ((first
          | (go_at_call 39; exact quiet_left (l1In_yes _ _ _ _ (by omega) (by omega)))
          | (go_at_call 39; exact quiet_left (l1In_no _ _ _ _ C2.out))))
        go_wp2
        go_ret
        exact ⟨ret_bool hF.out.symm, below_drewN ((Below.refl _ _).alloc (Nat.le_refl _) _) _⟩
  · have hF : Hid (fracB a b = false) := by unfold fracB Hid; simp; omega
    have C2 := hide c1
    clear c1
    · · go_enter Tryd.func43, Tryd.ntmps43
        go_wp2
        go_quiet (((go_at_call 39; exact quiet_left (l1In_no _ _ _ _ C2.out))))
        go_wp2
        go_ret
        exact ⟨ret_bool hF.out.symm, below_drewN ((Below.refl _ _).alloc (Nat.le_refl _) _) _⟩

theorem isFrac_any (a b : Int) (w : World) :
    Calls Tryd.prog 45 #[.agg #[.int .i64 a, .int .i64 b]] w fun e w' => e = .returned (.bool (fracB a b)) ∧ Below w.heap.size w w' := by
  by_cases c1 : 1 ≤ b ∧ b ≤ 100000
  · obtain ⟨c11, c12⟩ := c1
    by_cases c2 : -100000000 ≤ a ∧ a ≤ 100000000
    · by_cases c3 : Int.gcd a b = 1
      all_goals
        obtain ⟨c21, c22⟩ := c2
        have hF : Hid (fracB a b = decide (Int.gcd a b = 1)) := by unfold fracB Hid; simp [*]
        have HG : Hid (Int.gcd (a.natAbs : Int) b = Int.gcd a b) := gcd_abs a b
        have hq : (((Int.gcd (a.natAbs : Int) b : Nat) : Int) == 1) = decide (Int.gcd a b = 1) := by rw [HG.out, Bool.eq_iff_iff]; simp; omega
        clear c3
        go_enter Tryd.func45, Tryd.ntmps45
        go_wp2
        go_quiet ((first
          | (go_at_call 41; exact quiet_left (within_yes _ _ _ _ (by omega) (by omega)))
          | (go_at_call 72; exact quiet_left (size_any _ _ (by omega) (by omega)))
          | (go_at_call 71; exact quiet_more (divisor_any _ _ _ (by omega) (by omega) (by omega) (by omega)))))
        go_wp2
        go_ret
        exact ⟨ret_bool hF.out.symm, below_drewN ((Below.refl _ _).alloc (Nat.le_refl _) _) _⟩
    · have hF : Hid (fracB a b = false) := by unfold fracB Hid; simp; omega
      have C2 := hide c2
      clear c2
      · go_enter Tryd.func45, Tryd.ntmps45
        go_wp2
        go_quiet ((first
          | (go_at_call 41; exact quiet_left (within_yes _ _ _ _ (by omega) (by omega)))
          | (go_at_call 41; exact quiet_left (within_no _ _ _ _ C2.out))))
        go_wp2
        go_ret
        exact ⟨ret_bool hF.out.symm, below_drewN ((Below.refl _ _).alloc (Nat.le_refl _) _) _⟩
  · have hF : Hid (fracB a b = false) := by unfold fracB Hid; simp; omega
    have C2 := hide c1
    clear c1
    · · go_enter Tryd.func45, Tryd.ntmps45
        go_wp2
        go_quiet (((go_at_call 41; exact quiet_left (within_no _ _ _ _ C2.out))))
        go_wp2
        go_ret
        exact ⟨ret_bool hF.out.symm, below_drewN ((Below.refl _ _).alloc (Nat.le_refl _) _) _⟩
end Go.Proofs.YtlickpalbfhjoaaDoor
