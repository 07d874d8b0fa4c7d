/- ProjectRequests: the reference and the program return the same; for slices of at most 2^20 numbers that can be read. -/
import Derived.Test.YtbceekcfokgmpaaDistF
namespace Go.Proofs.Ytbceekcfokgmpaa
open Go.RowKit Go.Lib Go.Sort Go.Shelf

/-- Whether a number is in a list. -/
def hasB (xs : List Int) (x : Int) : Bool := xs.contains x
theorem contains_any (A : Option Addr) (n c : Nat) (xs : List Int) (x : Int) (w : World) (hr : RdI w A n xs) (hn : n ≤ 1048576) :
    Calls Try.prog 62 #[.slice A n c, .int .i64 x] w fun e w' => e = .returned (.bool (hasB xs x)) ∧ w = w' := by
  rcases Nat.eq_zero_or_pos n with h0 | h0
  · subst h0
    obtain rfl := hr.nil_of
    exact (Try.slices_Contains_int_empty A c x w).mono fun e w' ⟨h1, h2⟩ => ⟨h1, h2.symm⟩
  · obtain ⟨b, off, rfl, _, _⟩ := hr.2 h0
    refine (Try.slices_Contains_int b off n c xs x w (by rw [hr.1]; exact Nat.le_refl _) (by omega) hr.cellsAll).mono ?_
    rintro e w' ⟨h1, h2⟩
    rw [List.take_of_length_le (by rw [hr.1]; exact Nat.le_refl _)] at h1
    exact ⟨h1, h2.symm⟩
theorem nil_beq (ys : List Int) : (([] : List Int) == ys) = decide (ys.length = 0) := by cases ys <;> simp
theorem beq_lens (xs ys : List Int) (h : xs.length ≠ ys.length) : (xs == ys) = false := by
  rw [beq_eq_false_iff_ne]
  intro e
  exact h (by rw [e])
theorem equal_any (A : Option Addr) (n c : Nat) (xs : List Int) (A2 : Option Addr) (m d : Nat) (ys : List Int) (w : World) (hr : RdI w A n xs) (hr2 : RdI w A2 m ys) (hn : n ≤ 1048576) (hm : m ≤ 1048576) :
    Calls Try.prog 87 #[.slice A n c, .slice A2 m d] w fun e w' => e = .returned (.bool (xs == ys)) ∧ ∃ q, w' = w.drewN q := by
  rcases Nat.eq_zero_or_pos n with h0 | h0
  · subst h0
    obtain rfl := hr.nil_of
    refine (Try.slices_Equal_int_empty A A2 c m d w (by omega)).mono ?_
    rintro e w' ⟨rfl, rfl⟩
    exact ⟨by rw [nil_beq, hr2.1], 0, rfl⟩
  · rcases Nat.eq_zero_or_pos m with h1 | h1
    · subst h1
      refine (Try.slices_Equal_int_lens A A2 n c 0 d w (by omega)).mono ?_
      rintro e w' ⟨rfl, rfl⟩
      exact ⟨by rw [beq_lens xs ys (by rw [hr.1, hr2.1]; omega)], 0, rfl⟩
    · obtain ⟨b, off, rfl, _, _⟩ := hr.2 h0
      obtain ⟨b2, off2, rfl, _, _⟩ := hr2.2 h1
      refine (Try.slices_Equal_int b off n c b2 off2 m d xs ys w (by rw [hr.1]; exact Nat.le_refl _) (by rw [hr2.1]; exact Nat.le_refl _) (by omega) (by omega) hr.cellsAll hr2.cellsAll).mono ?_
      rintro e w' ⟨rfl, q, rfl⟩
      rw [List.take_of_length_le (by rw [hr.1]; exact Nat.le_refl _), List.take_of_length_le (by rw [hr2.1]; exact Nat.le_refl _)]
      exact ⟨rfl, q, rfl⟩
theorem isRising_any (A : Option Addr) (n c : Nat) (xs : List Int) (w : World) (hr : RdI w A n xs) (hn : n ≤ 1048576) :
    Calls Try.prog 58 #[.slice A n c] w fun e w' => e = .returned (.bool (xs == riseL xs)) ∧ Below w.heap.size w w' := by
  have hl := rise_len xs
  rw [hr.1] at hl
  have HR := hide hr
  clear hr
  go_enter Try.func58, Try.ntmps58
  go_wp2_with fail
  refine (rising_big _ _ _ xs _ HR.out hn).mono ?_
  rintro e w1 ⟨A1, c1, rfl, ho1, hb1⟩
  go_wp2_with fail
  refine (equal_any _ _ _ xs _ _ _ (riseL xs) _ (HR.out.below hb1) ho1.rd (by omega) (by omega)).mono ?_
  rintro e w2 ⟨rfl, q, rfl⟩
  go_wp2
  go_ret
  exact ⟨rfl, below_drewN hb1 q⟩

theorem drewN_two (w : World) (a b : Nat) : (w.drewN a).drewN b = w.drewN (a + b) := by
  unfold World.drewN
  simp [Nat.add_assoc]
def stepOk (q : Int) (ys : List Int) (k : Nat) : Prop := (0 ≤ ys.getD k 0 ∧ ys.getD k 0 ≤ q - 1) ∧ (0 < k → ys.getD (k - 1) 0 < ys.getD k 0)
def risB (q : Int) (ys : List Int) : Bool := belowB q ys && (ys == riseL ys)
theorem getD_elem (ys : List Int) (j : Nat) (h : j < ys.length) : ys.getD j 0 = ys[j] := by rw [List.getD_eq_getElem?_getD, List.getElem?_eq_getElem h]; rfl
theorem risB_yes (q : Int) (ys : List Int) (h : ∀ j, j < ys.length → stepOk q ys j) : risB q ys = true := by
  have h1 : belowB q ys = true := belowB_yes q ys fun k hk => (h k hk).1
  have hp : ys.Pairwise (· < ·) := by
    rw [List.pairwise_iff_getElem]
    intro i j hi hj hij
    have : ∀ d, i + d + 1 < ys.length → ys.getD i 0 < ys.getD (i + d + 1) 0 := by
      intro d
      induction d with
      | zero => intro hd; have := (h (i + 0 + 1) hd).2 (by omega); simpa using this
      | succ d ih =>
        intro hd
        have h1 := ih (by omega)
        have h2 := (h (i + (d + 1) + 1) hd).2 (by omega)
        rw [show i + (d + 1) + 1 - 1 = i + d + 1 by omega] at h2
        omega
    have := this (j - i - 1) (by omega)
    rw [show i + (j - i - 1) + 1 = j by omega, getD_elem ys i hi, getD_elem ys j hj] at this
    exact this
  have h2 : riseL ys = ys := sorted_ext _ _ (rise_sorted ys) hp (rise_mem ys)
  unfold risB
  rw [h1, h2]
  simp
theorem risB_no (q : Int) (ys : List Int) (k : Nat) (hk : k < ys.length) (h : ¬ stepOk q ys k) : risB q ys = false := by
  unfold risB
  cases h1 : belowB q ys
  · rfl
  · have hin := belowB_get h1 k hk
    have h2 : (ys == riseL ys) = false := by
      rw [beq_eq_false_iff_ne]
      intro e
      have hp := rise_sorted ys
      rw [← e] at hp
      refine h ⟨hin, fun h0 => ?_⟩
      rw [List.pairwise_iff_getElem] at hp
      have := hp (k - 1) k (by omega) hk (by omega)
      rw [getD_elem ys k hk, getD_elem ys (k - 1) (by omega)]
      exact this
    rw [h2]; rfl

set_option maxHeartbeats 3200000 in
theorem l1Rising_any (A : Option Addr) (n c : Nat) (ys : List Int) (q : Int) (w : World) (hr : RdI w A n ys) (hn : n ≤ 1048576) (_ : 1 ≤ q) (_ : q ≤ 8) :
    Calls Try.prog 55 #[.slice A n c, .int .i64 0, .int .i64 (q - 1)] w fun e w' => e = .returned (.bool (risB q ys)) ∧ ∃ m, w' = w.drewN m := by
  have hlen := hide hr.1
  have HR := hide hr
  clear hr
  go_enter Try.func55, Try.ntmps55
  go_wp2_with fail
  go_loopw [7] (fun i wr => ∃ k : Nat, k ≤ n ∧ i = .int .i64 k ∧ Hid (∀ j, j < k → stepOk q ys j) ∧ ∃ m, Hid (wr = w.drewN m)) (fun i _ => n - (intOf i).toNat)
  case atStart => exact ⟨0, Nat.zero_le _, rfl, fun j hj => absurd hj (Nat.not_lt_zero _), 0, rfl⟩
  case round =>
    obtain ⟨k, hk, rfl, HA, m, HM⟩ := hrel
    obtain rfl := HM.out
    by_cases hlt : k < n
    · have hlt' : (k : Int) < (n : Int) := by omega
      obtain ⟨b, off, rfl, hbb, hcc⟩ := (HR.out).2 (by omega)
      obtain ⟨x, hx⟩ : ∃ x, Hid (ys.getD k 0 = x) := ⟨_, rfl⟩
      have hck : w.cell? ⟨b, off + k, none⟩ = some (.int .i64 x) := by rw [← hx.out]; exact hcc k hlt
      have hk0' : (0 : Int) ≤ (k : Int) := by omega
      by_cases hin : 0 ≤ x ∧ x ≤ q - 1
      · obtain ⟨i1, i2⟩ := hin
        by_cases hk0 : 0 < k
        · obtain ⟨p, rfl⟩ : ∃ p, k = p + 1 := ⟨k - 1, by omega⟩
          obtain ⟨y, hy⟩ : ∃ y, Hid (ys.getD p 0 = y) := ⟨_, rfl⟩
          have hcp : w.cell? ⟨b, off + p, none⟩ = some (.int .i64 y) := by rw [← hy.out]; exact hcc p (by omega)
          have hd0 : decide ((0 : Int) < ((p : Nat) : Int) + 1) = true := by first | (simp; done) | (simp; omega)
          have hidx : ((p + 1 : Nat) : Int) - 1 = (p : Int) := by omega
          have hp0 : (0 : Int) ≤ (p : Int) := by omega
          clear hcc
          by_cases hxy : y < x
          · have HA2 : Hid (∀ j, j < p + 1 + 1 → stepOk q ys j) := fun j hj => by
              by_cases e : j < p + 1
              · exact HA.out j e
              · obtain rfl : j = p + 1 := by omega
                refine ⟨by rw [hx.out]; exact ⟨i1, i2⟩, fun _ => ?_⟩
                rw [Nat.add_sub_cancel, hx.out, hy.out]
                exact hxy
            have hge : decide (x ≤ y) = false := by simp; omega
            go_wp2_with fail
            go_quiet ((go_at_call 44; first | exact Calls.quiet_of_same (l1In_yes _ _ _ _ i1 i2) | exact quiet_left (l1In_yes _ _ _ _ i1 i2) | exact quiet_add_left (l1In_yes _ _ _ _ i1 i2)))
            go_wp2
            go_roundw
            case rel => first | exact ⟨p + 1 + 1, by omega, by go_num, HA2, m + _, rfl⟩ | ((repeat apply Exists.intro); refine ⟨?_, rfl⟩; exact ⟨p + 1 + 1, by omega, by go_num, HA2, m + _, rfl⟩)
            case measure => first | (simp [intOf]; done) | (simp [intOf]; omega)
          · have HF := hide (risB_no q ys (p + 1) (by rw [hlen.out]; exact hlt) (fun h => hxy (by have := h.2 (by omega); rw [Nat.add_sub_cancel, hx.out, hy.out] at this; exact this)))
            have hge : decide (x ≤ y) = true := by simp; omega
            go_wp2_with fail
            go_quiet ((go_at_call 44; first | exact Calls.quiet_of_same (l1In_yes _ _ _ _ i1 i2) | exact quiet_left (l1In_yes _ _ _ _ i1 i2) | exact quiet_add_left (l1In_yes _ _ _ _ i1 i2)))
            go_wp2
            go_ret
            exact ⟨ret_bool HF.out.symm, m + _, drewN_two _ _ _⟩
        · have HA2 : Hid (∀ j, j < k + 1 → stepOk q ys j) := fun j hj => by
            by_cases e : j < k
            · exact HA.out j e
            · obtain rfl : j = k := by omega
              exact ⟨by rw [hx.out]; exact ⟨i1, i2⟩, fun h => absurd h hk0⟩
          have hd0 : decide ((0 : Int) < (k : Int)) = false := by simp; omega
          clear hcc
          go_wp2_with fail
          go_quiet ((go_at_call 44; first | exact Calls.quiet_of_same (l1In_yes _ _ _ _ i1 i2) | exact quiet_left (l1In_yes _ _ _ _ i1 i2) | exact quiet_add_left (l1In_yes _ _ _ _ i1 i2)))
          go_wp2
          go_roundw
          case rel => first | exact ⟨k + 1, by omega, by go_num, HA2, m + _, rfl⟩ | ((repeat apply Exists.intro); refine ⟨?_, rfl⟩; exact ⟨k + 1, by omega, by go_num, HA2, m + _, rfl⟩)
          case measure => first | (simp [intOf]; done) | (simp [intOf]; omega)
      · have HF := hide (risB_no q ys k (by rw [hlen.out]; exact hlt) (fun h => hin (by have := h.1; rw [hx.out] at this; exact this)))
        clear hcc
        go_wp2_with fail
        go_quiet ((go_at_call 44; first | exact Calls.quiet_of_same (l1In_no _ _ _ _ hin) | exact quiet_left (l1In_no _ _ _ _ hin) | exact quiet_add_left (l1In_no _ _ _ _ hin)))
        go_wp2
        go_ret
        exact ⟨ret_bool HF.out.symm, m + _, drewN_two _ _ _⟩
    · have hkn : k = n := by omega
      subst hkn
      have HF := hide (risB_yes q ys (by rw [hlen.out]; exact HA.out))
      go_wp2
      go_ret
      exact ⟨ret_bool HF.out.symm, m, rfl⟩
end Go.Proofs.Ytbceekcfokgmpaa
