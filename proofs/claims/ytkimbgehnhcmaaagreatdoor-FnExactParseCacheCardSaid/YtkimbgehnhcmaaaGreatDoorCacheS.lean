/- Whether a cache's marks are right, by the reference (l4Marks); for lists of at most 2^20 numbers. -/
import Derived.Test.YtkimbgehnhcmaaaGreatDoorInts
import Derived.Deep.RegionHeld3
namespace Go.Proofs.YtkimbgehnhcmaaaGreatDoor
open Go.RowKit

def inAll (lo hi : Int) (ys : List Int) : Bool := ys.all fun m => decide (lo ≤ m ∧ m ≤ hi)
theorem inAll_no {lo hi : Int} {ys : List Int} {k : Nat} (hk : k < ys.length) (h : ¬ (lo ≤ ys.getD k 0 ∧ ys.getD k 0 ≤ hi)) : inAll lo hi ys = false := by
  unfold inAll
  rw [List.all_eq_false]
  refine ⟨ys[k], List.getElem_mem hk, ?_⟩
  rw [List.getD_eq_getElem?_getD, List.getElem?_eq_getElem hk] at h
  simpa using h
theorem inAll_yes {lo hi : Int} {ys : List Int} (h : ∀ k, k < ys.length → lo ≤ ys.getD k 0 ∧ ys.getD k 0 ≤ hi) : inAll lo hi ys = true := by
  unfold inAll
  rw [List.all_eq_true]
  intro x hx
  obtain ⟨k, hk, rfl⟩ := List.getElem_of_mem hx
  have := h k hk
  rw [List.getD_eq_getElem?_getD, List.getElem?_eq_getElem hk] at this
  simpa using this
/-- The marks are right. -/
def marksB (p : Int) (n1 : Nat) (ys : List Int) : Bool :=
  if p = 5 then decide (ys.length = n1) && inAll 1 60 ys else if p = 6 then decide (ys.length = n1) && inAll 0 1 ys else decide (ys.length = 0)
theorem marks5 {n1 : Nat} {ys : List Int} (h : ys.length = n1) : marksB 5 n1 ys = inAll 1 60 ys := by unfold marksB; simp [h]
theorem marks6 {n1 : Nat} {ys : List Int} (h : ys.length = n1) : marksB 6 n1 ys = inAll 0 1 ys := by unfold marksB; simp [h]
theorem marks_len {p : Int} {n1 : Nat} {ys : List Int} (hp : p = 5 ∨ p = 6) (h : ¬ ys.length = n1) : marksB p n1 ys = false := by
  unfold marksB
  rcases hp with rfl | rfl <;> simp [h]
theorem marks0 {p : Int} {n1 : Nat} {ys : List Int} (h5 : ¬ p = 5) (h6 : ¬ p = 6) : marksB p n1 ys = decide (ys.length = 0) := by unfold marksB; rw [if_neg h5, if_neg h6]

theorem l4Marked_five (w : World) : Calls Tryz.prog 13 #[.int .i64 5] w fun e w' => e = .returned (.bool true) ∧ w = w' := by
  go_enter Tryz.func13, Tryz.ntmps13
  go_wp2
  go_ret
  exact ⟨rfl, rfl⟩
theorem l4Marked_six (w : World) : Calls Tryz.prog 13 #[.int .i64 6] w fun e w' => e = .returned (.bool true) ∧ w = w' := by
  go_enter Tryz.func13, Tryz.ntmps13
  go_wp2
  go_ret
  exact ⟨rfl, rfl⟩
theorem l4Marked_no (p : Int) (h5 : ¬ p = 5) (h6 : ¬ p = 6) (w : World) : Calls Tryz.prog 13 #[.int .i64 p] w fun e w' => e = .returned (.bool false) ∧ w = w' := by
  have e5 : (p == 5) = false := by simpa using h5
  have e6 : (p == 6) = false := by simpa using h6
  go_enter Tryz.func13, Tryz.ntmps13
  go_wp2
  go_ret
  exact ⟨rfl, rfl⟩

set_option maxRecDepth 100000 in
set_option maxHeartbeats 1600000 in
theorem l4Marks_any (p s h : Int) (A1 : Option Addr) (n1 c1 : Nat) (A2 : Option Addr) (n2 c2 : Nat) (ys : List Int) (w : World) (a2 : RdI w A2 n2 ys) (hn1 : n1 ≤ 1048576) (hn2 : n2 ≤ 1048576) :
    Calls Tryz.prog 34 #[.agg #[.int .i64 p, .int .i64 s, .slice A1 n1 c1, .slice A2 n2 c2, .int .i64 h]] w fun e w' => e = .returned (.bool (marksB p n1 ys)) ∧ Below w.heap.size w w' := by
  have hlen := hide a2.1
  replace a2 := hide (a2.below (w' := w.alloc (.cells #[.int .i64 p, .int .i64 s, .slice A1 n1 c1, .slice A2 n2 c2, .int .i64 h] 24)) (by repeat (first | exact Below.refl _ _ | (refine below_drewN ?_ _) | (refine Below.drew ?_) | (refine Below.alloc ?_ (by first | exact Nat.le_refl _ | (simp; done) | (simp; omega) | omega) _) | (refine Below.setCell ?_ (by first | exact Nat.le_refl _ | (simp; done) | (simp; omega) | omega) _) | (refine Below.trans ?_ (Below.mono (by assumption) (by first | exact Nat.le_refl _ | (simp; done) | (simp; omega) | omega))))))
  by_cases h5 : p = 5
  · subst h5
    by_cases hnn : n2 = n1
    · subst hnn
      have HM := hide (marks5 (n1 := n2) (ys := ys) hlen.out)
      have hq : ((n2 : Int) != (n2 : Int)) = false := by simp
      go_enter Tryz.func34, Tryz.ntmps34
      go_wp2_with (go_at_call 13; refine (l4Marked_five _).mono ?_; rintro e w1 ⟨rfl, rfl⟩)
      go_loop [3] (fun i => ∃ k : Nat, k ≤ n2 ∧ i = .int .i64 k ∧ Hid (∀ j, j < k → 1 ≤ ys.getD j 0 ∧ ys.getD j 0 ≤ 60)) (fun i => n2 - (intOf i).toNat)
      case atStart => exact ⟨0, Nat.zero_le _, rfl, fun j hj => absurd hj (Nat.not_lt_zero _)⟩
      case round =>
        obtain ⟨k, hk, rfl, HA⟩ := hrel
        by_cases hlt : k < n2
        · obtain ⟨b, off, rfl, hbk, hc⟩ := a2.out.at_ hlt
          have hlt' : (k : Int) < (n2 : Int) := by omega
          by_cases hin : 1 ≤ ys.getD k 0 ∧ ys.getD k 0 ≤ 60
          · have HN : Hid (∀ j, j < k + 1 → 1 ≤ ys.getD j 0 ∧ ys.getD j 0 ≤ 60) := fun j hj => by
              by_cases e : j < k
              · exact HA.out j e
              · obtain rfl : j = k := by omega
                exact hin
            generalize ys.getD k 0 = x at hc hin
            obtain ⟨i1, i2⟩ := hin
            go_wp2_with (first | (go_at_call 28; refine (l1In_yes _ _ _ _ (by omega) (by omega)).mono ?_; rintro e w' ⟨rfl, rfl⟩) | (go_at_call 28; refine (l1In_no _ _ _ _ (by omega)).mono ?_; rintro e w' ⟨rfl, rfl⟩))
            go_round
            case rel => first | exact ⟨k + 1, by omega, by go_num, HN⟩ | ((repeat apply Exists.intro); refine ⟨?_, rfl⟩; exact ⟨k + 1, by omega, by go_num, HN⟩)
            case measure => first | (simp [intOf]; done) | (simp [intOf]; omega)
          · have HF := hide (HM.out.trans (inAll_no (by rw [hlen.out]; exact hlt) hin))
            generalize ys.getD k 0 = x at hc hin
            go_wp2_with (first | (go_at_call 28; refine (l1In_yes _ _ _ _ (by omega) (by omega)).mono ?_; rintro e w' ⟨rfl, rfl⟩) | (go_at_call 28; refine (l1In_no _ _ _ _ (by omega)).mono ?_; rintro e w' ⟨rfl, rfl⟩))
            go_ret
            exact ⟨ret_bool HF.out.symm, (by repeat (first | exact Below.refl _ _ | (refine below_drewN ?_ _) | (refine Below.drew ?_) | (refine Below.alloc ?_ (by first | exact Nat.le_refl _ | (simp; done) | (simp; omega) | omega) _) | (refine Below.setCell ?_ (by first | exact Nat.le_refl _ | (simp; done) | (simp; omega) | omega) _) | (refine Below.trans ?_ (Below.mono (by assumption) (by first | exact Nat.le_refl _ | (simp; done) | (simp; omega) | omega)))))⟩
        · obtain rfl : k = n2 := by omega
          have HF := hide (HM.out.trans (inAll_yes (by rw [hlen.out]; exact HA.out)))
          go_wp2
          go_ret
          exact ⟨ret_bool HF.out.symm, (by repeat (first | exact Below.refl _ _ | (refine below_drewN ?_ _) | (refine Below.drew ?_) | (refine Below.alloc ?_ (by first | exact Nat.le_refl _ | (simp; done) | (simp; omega) | omega) _) | (refine Below.setCell ?_ (by first | exact Nat.le_refl _ | (simp; done) | (simp; omega) | omega) _) | (refine Below.trans ?_ (Below.mono (by assumption) (by first | exact Nat.le_refl _ | (simp; done) | (simp; omega) | omega)))))⟩
    · have HF := hide (marks_len (p := 5) (n1 := n1) (ys := ys) (.inl rfl) (by rw [hlen.out]; exact hnn))
      have hq : ((n2 : Int) != (n1 : Int)) = true := by simp; omega
      go_enter Tryz.func34, Tryz.ntmps34
      go_wp2_with (go_at_call 13; refine (l4Marked_five _).mono ?_; rintro e w1 ⟨rfl, rfl⟩)
      go_ret
      exact ⟨ret_bool HF.out.symm, (by repeat (first | exact Below.refl _ _ | (refine below_drewN ?_ _) | (refine Below.drew ?_) | (refine Below.alloc ?_ (by first | exact Nat.le_refl _ | (simp; done) | (simp; omega) | omega) _) | (refine Below.setCell ?_ (by first | exact Nat.le_refl _ | (simp; done) | (simp; omega) | omega) _) | (refine Below.trans ?_ (Below.mono (by assumption) (by first | exact Nat.le_refl _ | (simp; done) | (simp; omega) | omega)))))⟩
  · by_cases h6 : p = 6
    · subst h6
      by_cases hnn : n2 = n1
      · subst hnn
        have HM := hide (marks6 (n1 := n2) (ys := ys) hlen.out)
        have hq : ((n2 : Int) != (n2 : Int)) = false := by simp
        go_enter Tryz.func34, Tryz.ntmps34
        go_wp2_with (go_at_call 13; refine (l4Marked_six _).mono ?_; rintro e w1 ⟨rfl, rfl⟩)
        go_loop [3] (fun i => ∃ k : Nat, k ≤ n2 ∧ i = .int .i64 k ∧ Hid (∀ j, j < k → 0 ≤ ys.getD j 0 ∧ ys.getD j 0 ≤ 1)) (fun i => n2 - (intOf i).toNat)
        case atStart => exact ⟨0, Nat.zero_le _, rfl, fun j hj => absurd hj (Nat.not_lt_zero _)⟩
        case round =>
          obtain ⟨k, hk, rfl, HA⟩ := hrel
          by_cases hlt : k < n2
          · obtain ⟨b, off, rfl, hbk, hc⟩ := a2.out.at_ hlt
            have hlt' : (k : Int) < (n2 : Int) := by omega
            by_cases hin : 0 ≤ ys.getD k 0 ∧ ys.getD k 0 ≤ 1
            · have HN : Hid (∀ j, j < k + 1 → 0 ≤ ys.getD j 0 ∧ ys.getD j 0 ≤ 1) := fun j hj => by
                by_cases e : j < k
                · exact HA.out j e
                · obtain rfl : j = k := by omega
                  exact hin
              generalize ys.getD k 0 = x at hc hin
              obtain ⟨i1, i2⟩ := hin
              go_wp2_with (first | (go_at_call 28; refine (l1In_yes _ _ _ _ (by omega) (by omega)).mono ?_; rintro e w' ⟨rfl, rfl⟩) | (go_at_call 28; refine (l1In_no _ _ _ _ (by omega)).mono ?_; rintro e w' ⟨rfl, rfl⟩))
              go_round
              case rel => first | exact ⟨k + 1, by omega, by go_num, HN⟩ | ((repeat apply Exists.intro); refine ⟨?_, rfl⟩; exact ⟨k + 1, by omega, by go_num, HN⟩)
              case measure => first | (simp [intOf]; done) | (simp [intOf]; omega)
            · have HF := hide (HM.out.trans (inAll_no (by rw [hlen.out]; exact hlt) hin))
              generalize ys.getD k 0 = x at hc hin
              go_wp2_with (first | (go_at_call 28; refine (l1In_yes _ _ _ _ (by omega) (by omega)).mono ?_; rintro e w' ⟨rfl, rfl⟩) | (go_at_call 28; refine (l1In_no _ _ _ _ (by omega)).mono ?_; rintro e w' ⟨rfl, rfl⟩))
              go_ret
              exact ⟨ret_bool HF.out.symm, (by repeat (first | exact Below.refl _ _ | (refine below_drewN ?_ _) | (refine Below.drew ?_) | (refine Below.alloc ?_ (by first | exact Nat.le_refl _ | (simp; done) | (simp; omega) | omega) _) | (refine Below.setCell ?_ (by first | exact Nat.le_refl _ | (simp; done) | (simp; omega) | omega) _) | (refine Below.trans ?_ (Below.mono (by assumption) (by first | exact Nat.le_refl _ | (simp; done) | (simp; omega) | omega)))))⟩
          · obtain rfl : k = n2 := by omega
            have HF := hide (HM.out.trans (inAll_yes (by rw [hlen.out]; exact HA.out)))
            go_wp2
            go_ret
            exact ⟨ret_bool HF.out.symm, (by repeat (first | exact Below.refl _ _ | (refine below_drewN ?_ _) | (refine Below.drew ?_) | (refine Below.alloc ?_ (by first | exact Nat.le_refl _ | (simp; done) | (simp; omega) | omega) _) | (refine Below.setCell ?_ (by first | exact Nat.le_refl _ | (simp; done) | (simp; omega) | omega) _) | (refine Below.trans ?_ (Below.mono (by assumption) (by first | exact Nat.le_refl _ | (simp; done) | (simp; omega) | omega)))))⟩
      · have HF := hide (marks_len (p := 6) (n1 := n1) (ys := ys) (.inr rfl) (by rw [hlen.out]; exact hnn))
        have hq : ((n2 : Int) != (n1 : Int)) = true := by simp; omega
        go_enter Tryz.func34, Tryz.ntmps34
        go_wp2_with (go_at_call 13; refine (l4Marked_six _).mono ?_; rintro e w1 ⟨rfl, rfl⟩)
        go_ret
        exact ⟨ret_bool HF.out.symm, (by repeat (first | exact Below.refl _ _ | (refine below_drewN ?_ _) | (refine Below.drew ?_) | (refine Below.alloc ?_ (by first | exact Nat.le_refl _ | (simp; done) | (simp; omega) | omega) _) | (refine Below.setCell ?_ (by first | exact Nat.le_refl _ | (simp; done) | (simp; omega) | omega) _) | (refine Below.trans ?_ (Below.mono (by assumption) (by first | exact Nat.le_refl _ | (simp; done) | (simp; omega) | omega)))))⟩
    · have HM := hide (marks0 (n1 := n1) (ys := ys) h5 h6)
      have hm0 := l4Marked_no p h5 h6
      have e5 : (p == 5) = false := by simpa using h5
      have e6 : (p == 6) = false := by simpa using h6
      by_cases h0 : n2 = 0
      · have HF : Hid (marksB p n1 ys = true) := by unfold Hid; rw [HM.out, hlen.out, h0]; rfl
        subst h0
        go_enter Tryz.func34, Tryz.ntmps34
        go_wp2_with (go_at_call 13; refine (hm0 _).mono ?_; rintro e w1 ⟨rfl, rfl⟩)
        go_ret
        exact ⟨ret_bool HF.out.symm, (by repeat (first | exact Below.refl _ _ | (refine below_drewN ?_ _) | (refine Below.drew ?_) | (refine Below.alloc ?_ (by first | exact Nat.le_refl _ | (simp; done) | (simp; omega) | omega) _) | (refine Below.setCell ?_ (by first | exact Nat.le_refl _ | (simp; done) | (simp; omega) | omega) _) | (refine Below.trans ?_ (Below.mono (by assumption) (by first | exact Nat.le_refl _ | (simp; done) | (simp; omega) | omega)))))⟩
      · have HF : Hid (marksB p n1 ys = false) := by unfold Hid; rw [HM.out, hlen.out]; simp [h0]
        have hq : ((n2 : Int) == 0) = false := by simp; omega
        go_enter Tryz.func34, Tryz.ntmps34
        go_wp2_with (go_at_call 13; refine (hm0 _).mono ?_; rintro e w1 ⟨rfl, rfl⟩)
        go_ret
        exact ⟨ret_bool HF.out.symm, (by repeat (first | exact Below.refl _ _ | (refine below_drewN ?_ _) | (refine Below.drew ?_) | (refine Below.alloc ?_ (by first | exact Nat.le_refl _ | (simp; done) | (simp; omega) | omega) _) | (refine Below.setCell ?_ (by first | exact Nat.le_refl _ | (simp; done) | (simp; omega) | omega) _) | (refine Below.trans ?_ (Below.mono (by assumption) (by first | exact Nat.le_refl _ | (simp; done) | (simp; omega) | omega)))))⟩
end Go.Proofs.YtkimbgehnhcmaaaGreatDoor
