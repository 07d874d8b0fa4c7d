/- Whether a cache is valid, by the reference (l4Good); for lists of at most 2^20 numbers. -/
import Derived.Test.YtkimbgehnhcmaaaGreatDoorCacheS
import Derived.Test.YtkimbgehnhcmaaaGreatDoorReqs
import Derived.Test.YtkimbgehnhcmaaaGreatDoorRise
import Derived.Deep.Cut
namespace Go.Proofs.YtkimbgehnhcmaaaGreatDoor
open Go.RowKit

def handB (p s : Int) (n1 : Nat) (h : Int) : Bool := if p = 6 ∧ (n1 : Int) = s then decide (0 ≤ h ∧ h ≤ s - 1) else decide (h = 0)
/-- A cache is valid. -/
def cacheB (n p s : Int) (xs ys : List Int) (h : Int) : Bool :=
  decide (1 ≤ n ∧ n ≤ 8) && (decide ((1 ≤ p ∧ p ≤ 7) ∧ (1 ≤ s ∧ s ≤ 6)) && (decide ((xs.length : Int) ≤ s) && (belowB n xs && (decide ((riseL xs).length = xs.length) && (marksB p xs.length ys && handB p s xs.length h)))))
theorem cb_n {n p s h : Int} {xs ys : List Int} (c : ¬ (1 ≤ n ∧ n ≤ 8)) : cacheB n p s xs ys h = false := by unfold cacheB; rw [decide_eq_false c, Bool.false_and]
theorem cb_s {n p s h : Int} {xs ys : List Int} (c : ¬ ((1 ≤ p ∧ p ≤ 7) ∧ (1 ≤ s ∧ s ≤ 6))) : cacheB n p s xs ys h = false := by unfold cacheB; rw [decide_eq_false c, Bool.false_and, Bool.and_false]
theorem cb_l {n p s h : Int} {xs ys : List Int} (c : ¬ ((xs.length : Int) ≤ s)) : cacheB n p s xs ys h = false := by unfold cacheB; rw [decide_eq_false c, Bool.false_and, Bool.and_false, Bool.and_false]
theorem cb_b {n p s h : Int} {xs ys : List Int} (c : belowB n xs = false) : cacheB n p s xs ys h = false := by unfold cacheB; rw [c, Bool.false_and, Bool.and_false, Bool.and_false, Bool.and_false]
theorem cb_r {n p s h : Int} {xs ys : List Int} (c : ¬ (riseL xs).length = xs.length) : cacheB n p s xs ys h = false := by unfold cacheB; rw [decide_eq_false c]; simp
theorem cb_m {n p s h : Int} {xs ys : List Int} (c : marksB p xs.length ys = false) : cacheB n p s xs ys h = false := by unfold cacheB; rw [c]; simp
theorem cb_h {n p s h : Int} {xs ys : List Int} (c1 : 1 ≤ n ∧ n ≤ 8) (c2 : (1 ≤ p ∧ p ≤ 7) ∧ (1 ≤ s ∧ s ≤ 6)) (c3 : (xs.length : Int) ≤ s) (c4 : belowB n xs = true) (c5 : (riseL xs).length = xs.length) (c6 : marksB p xs.length ys = true) : cacheB n p s xs ys h = handB p s xs.length h := by
  unfold cacheB; rw [decide_eq_true c1, decide_eq_true c2, decide_eq_true c3, c4, decide_eq_true c5, c6]; simp

theorem l3Items_yes (n : Int) (w : World) (h1 : 1 ≤ n) (h2 : n ≤ 8) : Calls Tryz.prog 30 #[.int .i64 n] w fun e w' => e = .returned (.bool true) ∧ w = w' := by
  go_enter Tryz.func30, Tryz.ntmps30
  go_wp2_with (first | (go_at_call 28; refine (l1In_yes _ _ _ _ (by omega) (by omega)).mono ?_; rintro e w' ⟨rfl, rfl⟩) | (go_at_call 28; refine (l1In_no _ _ _ _ (by omega)).mono ?_; rintro e w' ⟨rfl, rfl⟩))
  go_ret
  exact ⟨rfl, rfl⟩
theorem l3Items_no (n : Int) (w : World) (h : ¬ (1 ≤ n ∧ n ≤ 8)) : Calls Tryz.prog 30 #[.int .i64 n] w fun e w' => e = .returned (.bool false) ∧ w = w' := by
  have h1 := l1In_no n 1 8 w h
  go_enter Tryz.func30, Tryz.ntmps30
  go_wp2_with (go_at_call 28; refine h1.mono ?_; rintro e w1 ⟨rfl, rfl⟩)
  go_ret
  exact ⟨rfl, rfl⟩
theorem l4Sizes_yes (p s : Int) (w : World) (h : (1 ≤ p ∧ p ≤ 7) ∧ (1 ≤ s ∧ s ≤ 6)) : Calls Tryz.prog 31 #[.int .i64 p, .int .i64 s] w fun e w' => e = .returned (.bool true) ∧ w = w' := by
  obtain ⟨⟨h1, h2⟩, h3, h4⟩ := h
  go_enter Tryz.func31, Tryz.ntmps31
  go_wp2_with (first | (go_at_call 28; refine (l1In_yes _ _ _ _ (by omega) (by omega)).mono ?_; rintro e w' ⟨rfl, rfl⟩) | (go_at_call 28; refine (l1In_no _ _ _ _ (by omega)).mono ?_; rintro e w' ⟨rfl, rfl⟩))
  go_ret
  exact ⟨rfl, rfl⟩
theorem l4Sizes_no (p s : Int) (w : World) (h : ¬ ((1 ≤ p ∧ p ≤ 7) ∧ (1 ≤ s ∧ s ≤ 6))) : Calls Tryz.prog 31 #[.int .i64 p, .int .i64 s] w fun e w' => e = .returned (.bool false) ∧ w = w' := by
  by_cases hp : 1 ≤ p ∧ p ≤ 7
  · have hs : ¬ (1 ≤ s ∧ s ≤ 6) := fun c => h ⟨hp, c⟩
    obtain ⟨h1, h2⟩ := hp
    clear h
    go_enter Tryz.func31, Tryz.ntmps31
    go_wp2_with (first | (go_at_call 28; refine (l1In_yes _ _ _ _ (by omega) (by omega)).mono ?_; rintro e w' ⟨rfl, rfl⟩) | (go_at_call 28; refine (l1In_no _ _ _ _ (by omega)).mono ?_; rintro e w' ⟨rfl, rfl⟩))
    go_ret
    exact ⟨rfl, rfl⟩
  · clear h
    go_enter Tryz.func31, Tryz.ntmps31
    go_wp2_with (first | (go_at_call 28; refine (l1In_yes _ _ _ _ (by omega) (by omega)).mono ?_; rintro e w' ⟨rfl, rfl⟩) | (go_at_call 28; refine (l1In_no _ _ _ _ (by omega)).mono ?_; rintro e w' ⟨rfl, rfl⟩))
    go_ret
    exact ⟨rfl, rfl⟩
end Go.Proofs.YtkimbgehnhcmaaaGreatDoor
