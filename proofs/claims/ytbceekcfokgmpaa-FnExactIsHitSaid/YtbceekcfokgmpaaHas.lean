/- Whether a number is in a list: slices.Contains and the reference's l1Has; for slices of at most 2^20 numbers that can be read. -/
import Derived.Test.YtbceekcfokgmpaaRise
namespace Go.Proofs.Ytbceekcfokgmpaa
open Go.RowKit Go.Lib Go.Sort Go.Shelf

/-- Whether a number is in a list. -/
def hasB (xs : List Int) (x : Int) : Bool := xs.contains x
theorem contains_any (A : Option Addr) (n c : Nat) (xs : List Int) (x : Int) (w : World) (hr : RdI w A n xs) (hn : n ≤ 1048576) :
    Calls Try.prog 62 #[.slice A n c, .int .i64 x] w fun e w' => e = .returned (.bool (hasB xs x)) ∧ w = w' := by
  rcases Nat.eq_zero_or_pos n with h0 | h0
  · subst h0
    obtain rfl := hr.nil_of
    exact (Try.slices_Contains_int_empty A c x w).mono fun e w' ⟨h1, h2⟩ => ⟨h1, h2.symm⟩
  · obtain ⟨b, off, rfl, _, _⟩ := hr.2 h0
    refine (Try.slices_Contains_int b off n c xs x w (by rw [hr.1]; exact Nat.le_refl _) (by omega) hr.cellsAll).mono ?_
    rintro e w' ⟨h1, h2⟩
    rw [List.take_of_length_le (by rw [hr.1]; exact Nat.le_refl _)] at h1
    exact ⟨h1, h2.symm⟩
theorem mem_getD {xs : List Int} {k : Nat} (h : k < xs.length) : xs.getD k 0 ∈ xs := by
  rw [List.getD_eq_getElem?_getD, List.getElem?_eq_getElem h]
  exact List.getElem_mem h
theorem getD_elem (ys : List Int) (j : Nat) (h : j < ys.length) : ys.getD j 0 = ys[j] := by rw [List.getD_eq_getElem?_getD, List.getElem?_eq_getElem h]; rfl
theorem contains_no (xs : List Int) (x : Int) (h : ∀ j, j < xs.length → xs.getD j 0 ≠ x) : hasB xs x = false := by
  unfold hasB
  rw [Bool.eq_false_iff]
  intro hc
  rw [List.contains_iff_mem] at hc
  obtain ⟨j, hj, rfl⟩ := List.getElem_of_mem hc
  exact h j hj (getD_elem xs j hj)
theorem contains_yes (xs : List Int) (x : Int) (j : Nat) (hj : j < xs.length) (h : xs.getD j 0 = x) : hasB xs x = true := by
  unfold hasB
  rw [List.contains_iff_mem, ← h]
  exact mem_getD hj

set_option maxHeartbeats 800000 in
theorem l1Has_any (A : Option Addr) (n c : Nat) (xs : List Int) (x : Int) (w : World) (hr : RdI w A n xs) (hn : n ≤ 1048576) :
    Calls Try.prog 75 #[.slice A n c, .int .i64 x] w fun e w' => e = .returned (.bool (hasB xs x)) ∧ w = w' := by
  have hlen := hide hr.1
  have HR := hide hr
  clear hr
  go_enter Try.func75, Try.ntmps75
  go_wp2_with fail
  go_loop [5] (fun i => ∃ k : Nat, k ≤ n ∧ i = .int .i64 k ∧ Hid (∀ j, j < k → xs.getD j 0 ≠ x)) (fun i => n - (intOf i).toNat)
  case atStart => exact ⟨0, Nat.zero_le _, rfl, fun j hj => absurd hj (Nat.not_lt_zero _)⟩
  case round =>
    obtain ⟨k, hk, rfl, HA⟩ := hrel
    by_cases hlt : k < n
    · have hlt' : (k : Int) < (n : Int) := by omega
      obtain ⟨b, off, rfl, _, hc⟩ := (HR.out).at_ hlt
      obtain ⟨v, hv⟩ : ∃ v, Hid (xs.getD k 0 = v) := ⟨_, rfl⟩
      rw [hv.out] at hc
      by_cases hxv : v = x
      · have HF := hide (contains_yes xs x k (by rw [hlen.out]; exact hlt) (by rw [hv.out]; exact hxv))
        have hq : (v == x) = true := by simpa using hxv
        clear hxv
        go_wp2
        go_ret
        exact ⟨ret_bool HF.out.symm, rfl⟩
      · have HA2 : Hid (∀ j, j < k + 1 → xs.getD j 0 ≠ x) := fun j hj => by
          by_cases e : j < k
          · exact HA.out j e
          · obtain rfl : j = k := by omega
            rw [hv.out]
            exact hxv
        have hq : (v == x) = false := by simpa using hxv
        clear hxv
        go_wp2
        go_round
        case rel => first | exact ⟨k + 1, by omega, by go_num, HA2⟩ | ((repeat apply Exists.intro); refine ⟨?_, rfl⟩; exact ⟨k + 1, by omega, by go_num, HA2⟩)
        case measure => first | (simp [intOf]; done) | (simp [intOf]; omega)
    · have hkn : k = n := by omega
      subst hkn
      have HF := hide (contains_no xs x (by rw [hlen.out]; exact HA.out))
      go_wp2
      go_ret
      exact ⟨ret_bool HF.out.symm, rfl⟩
end Go.Proofs.Ytbceekcfokgmpaa
