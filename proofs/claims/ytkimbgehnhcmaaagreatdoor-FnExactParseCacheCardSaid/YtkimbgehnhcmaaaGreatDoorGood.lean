/- Whether a cache is valid, by the reference (l4Good), walked; for lists of at most 2^20 numbers. -/
import Derived.Test.YtkimbgehnhcmaaaGreatDoorCacheG
namespace Go.Proofs.YtkimbgehnhcmaaaGreatDoor
open Go.RowKit

/-- The cells of the parameter's box, and that all below still stands. -/
def BoxS (B : Nat) (W0 : World) (v0 v1 v2 v3 v4 : Value) (w' : World) : Prop :=
  w'.cell? ⟨B, 0, none⟩ = some v0 ∧ w'.cell? ⟨B, 1, none⟩ = some v1 ∧ w'.cell? ⟨B, 2, none⟩ = some v2 ∧ w'.cell? ⟨B, 3, none⟩ = some v3 ∧ w'.cell? ⟨B, 4, none⟩ = some v4 ∧ Kept W0.heap.size W0 w'

set_option maxRecDepth 100000 in
set_option maxHeartbeats 12800000 in
theorem good_items (n p s h : Int) (A1 : Option Addr) (n1 c1 : Nat) (A2 : Option Addr) (n2 c2 : Nat) (w : World) (c : ¬ (1 ≤ n ∧ n ≤ 8)) :
    Calls Tryz.prog 14 #[.int .i64 n, .agg #[.int .i64 p, .int .i64 s, .slice A1 n1 c1, .slice A2 n2 c2, .int .i64 h]] w fun e w' => e = .returned (.bool false) ∧ Below w.heap.size w w' := by
  have k1 := fun w => l3Items_no n w c
  obtain ⟨W0, HW⟩ : ∃ W0, W0 = w.alloc (.cells #[.int .i64 p, .int .i64 s, .slice A1 n1 c1, .slice A2 n2 c2, .int .i64 h] 24) := ⟨_, rfl⟩
  have q0 : W0.cell? ⟨w.heap.size, 0, none⟩ = some (.int .i64 p) := by subst HW; go_simp
  have q1 : W0.cell? ⟨w.heap.size, 1, none⟩ = some (.int .i64 s) := by subst HW; go_simp
  have q2 : W0.cell? ⟨w.heap.size, 2, none⟩ = some (.slice A1 n1 c1) := by subst HW; go_simp
  have q3 : W0.cell? ⟨w.heap.size, 3, none⟩ = some (.slice A2 n2 c2) := by subst HW; go_simp
  have q4 : W0.cell? ⟨w.heap.size, 4, none⟩ = some (.int .i64 h) := by subst HW; go_simp
  have hz : w.heap.size + 1 ≤ W0.heap.size := by subst HW; simp
  have hbe : Below w.heap.size w W0 := by subst HW; exact (by repeat (first | exact Below.refl _ _ | (refine below_drewN ?_ _) | (refine Below.drew ?_) | (refine Below.alloc ?_ (by first | exact Nat.le_refl _ | (simp; done) | (simp; omega) | omega) _) | (refine Below.setCell ?_ (by first | exact Nat.le_refl _ | (simp; done) | (simp; omega) | omega) _) | (refine Below.trans ?_ (Below.mono (by assumption) (by first | exact Nat.le_refl _ | (simp; done) | (simp; omega) | omega)))))
  replace HW := hide HW
  replace hbe := hide hbe
  clear c
  go_enter Tryz.func14, Tryz.ntmps14
  go_upto_region 1 with (fail)
  rw [← HW.out]
  go_wp2_with fail
  go_quiet (first
    | (go_at_call 30; exact quiet_left (k1 _))
    | fail)
  go_wp2_with fail
  go_ret
  exact ⟨rfl, below_drewN hbe.out _⟩

set_option maxRecDepth 100000 in
set_option maxHeartbeats 12800000 in
theorem good_sizes (n p s h : Int) (A1 : Option Addr) (n1 c1 : Nat) (A2 : Option Addr) (n2 c2 : Nat) (w : World) (c : 1 ≤ n ∧ n ≤ 8) (d : ¬ ((1 ≤ p ∧ p ≤ 7) ∧ (1 ≤ s ∧ s ≤ 6))) :
    Calls Tryz.prog 14 #[.int .i64 n, .agg #[.int .i64 p, .int .i64 s, .slice A1 n1 c1, .slice A2 n2 c2, .int .i64 h]] w fun e w' => e = .returned (.bool false) ∧ Below w.heap.size w w' := by
  have k1 := fun w => l3Items_yes n w c.1 c.2
  have k2 := fun w => l4Sizes_no p s w d
  obtain ⟨W0, HW⟩ : ∃ W0, W0 = w.alloc (.cells #[.int .i64 p, .int .i64 s, .slice A1 n1 c1, .slice A2 n2 c2, .int .i64 h] 24) := ⟨_, rfl⟩
  have q0 : W0.cell? ⟨w.heap.size, 0, none⟩ = some (.int .i64 p) := by subst HW; go_simp
  have q1 : W0.cell? ⟨w.heap.size, 1, none⟩ = some (.int .i64 s) := by subst HW; go_simp
  have q2 : W0.cell? ⟨w.heap.size, 2, none⟩ = some (.slice A1 n1 c1) := by subst HW; go_simp
  have q3 : W0.cell? ⟨w.heap.size, 3, none⟩ = some (.slice A2 n2 c2) := by subst HW; go_simp
  have q4 : W0.cell? ⟨w.heap.size, 4, none⟩ = some (.int .i64 h) := by subst HW; go_simp
  have hz : w.heap.size + 1 ≤ W0.heap.size := by subst HW; simp
  have hbe : Below w.heap.size w W0 := by subst HW; exact (by repeat (first | exact Below.refl _ _ | (refine below_drewN ?_ _) | (refine Below.drew ?_) | (refine Below.alloc ?_ (by first | exact Nat.le_refl _ | (simp; done) | (simp; omega) | omega) _) | (refine Below.setCell ?_ (by first | exact Nat.le_refl _ | (simp; done) | (simp; omega) | omega) _) | (refine Below.trans ?_ (Below.mono (by assumption) (by first | exact Nat.le_refl _ | (simp; done) | (simp; omega) | omega)))))
  replace HW := hide HW
  replace hbe := hide hbe
  clear c d
  go_enter Tryz.func14, Tryz.ntmps14
  go_upto_region 1 with (fail)
  rw [← HW.out]
  go_wp2_with fail
  go_quiet (first
    | (go_at_call 30; exact quiet_left (k1 _))
    | (go_at_call 31; exact quiet_left (k2 _))
    | fail)
  go_wp2_with fail
  go_ret
  exact ⟨rfl, below_drewN hbe.out _⟩

set_option maxRecDepth 100000 in
set_option maxHeartbeats 12800000 in
theorem good_len (n p s h : Int) (A1 : Option Addr) (n1 c1 : Nat) (A2 : Option Addr) (n2 c2 : Nat) (w : World) (c : 1 ≤ n ∧ n ≤ 8) (d : (1 ≤ p ∧ p ≤ 7) ∧ (1 ≤ s ∧ s ≤ 6)) (e : ¬ (n1 : Int) ≤ s) :
    Calls Tryz.prog 14 #[.int .i64 n, .agg #[.int .i64 p, .int .i64 s, .slice A1 n1 c1, .slice A2 n2 c2, .int .i64 h]] w fun e w' => e = .returned (.bool false) ∧ Below w.heap.size w w' := by
  have k1 := fun w => l3Items_yes n w c.1 c.2
  have k2 := fun w => l4Sizes_yes p s w d
  have hgt : s < (n1 : Int) := by omega
  obtain ⟨W0, HW⟩ : ∃ W0, W0 = w.alloc (.cells #[.int .i64 p, .int .i64 s, .slice A1 n1 c1, .slice A2 n2 c2, .int .i64 h] 24) := ⟨_, rfl⟩
  have q0 : W0.cell? ⟨w.heap.size, 0, none⟩ = some (.int .i64 p) := by subst HW; go_simp
  have q1 : W0.cell? ⟨w.heap.size, 1, none⟩ = some (.int .i64 s) := by subst HW; go_simp
  have q2 : W0.cell? ⟨w.heap.size, 2, none⟩ = some (.slice A1 n1 c1) := by subst HW; go_simp
  have q3 : W0.cell? ⟨w.heap.size, 3, none⟩ = some (.slice A2 n2 c2) := by subst HW; go_simp
  have q4 : W0.cell? ⟨w.heap.size, 4, none⟩ = some (.int .i64 h) := by subst HW; go_simp
  have hz : w.heap.size + 1 ≤ W0.heap.size := by subst HW; simp
  have hbe : Below w.heap.size w W0 := by subst HW; exact (by repeat (first | exact Below.refl _ _ | (refine below_drewN ?_ _) | (refine Below.drew ?_) | (refine Below.alloc ?_ (by first | exact Nat.le_refl _ | (simp; done) | (simp; omega) | omega) _) | (refine Below.setCell ?_ (by first | exact Nat.le_refl _ | (simp; done) | (simp; omega) | omega) _) | (refine Below.trans ?_ (Below.mono (by assumption) (by first | exact Nat.le_refl _ | (simp; done) | (simp; omega) | omega)))))
  replace HW := hide HW
  replace hbe := hide hbe
  clear c d e
  go_enter Tryz.func14, Tryz.ntmps14
  go_upto_region 1 with (fail)
  rw [← HW.out]
  go_wp2_with fail
  go_quiet (first
    | (go_at_call 30; exact quiet_left (k1 _))
    | (go_at_call 31; exact quiet_left (k2 _))
    | fail)
  go_wp2_with fail
  go_ret
  exact ⟨rfl, below_drewN hbe.out _⟩

set_option maxRecDepth 100000 in
set_option maxHeartbeats 12800000 in
theorem good_below (n p s h : Int) (A1 : Option Addr) (n1 c1 : Nat) (A2 : Option Addr) (n2 c2 : Nat) (w : World) (xs : List Int) (a1 : RdI w A1 n1 xs) (c : 1 ≤ n ∧ n ≤ 8) (d : (1 ≤ p ∧ p ≤ 7) ∧ (1 ≤ s ∧ s ≤ 6)) (e : (n1 : Int) ≤ s) (f : belowB n xs = false) :
    Calls Tryz.prog 14 #[.int .i64 n, .agg #[.int .i64 p, .int .i64 s, .slice A1 n1 c1, .slice A2 n2 c2, .int .i64 h]] w fun e w' => e = .returned (.bool false) ∧ Below w.heap.size w w' := by
  have k1 := fun w => l3Items_yes n w c.1 c.2
  have k2 := fun w => l4Sizes_yes p s w d
  have hgt : ¬ s < (n1 : Int) := by omega
  obtain ⟨W0, HW⟩ : ∃ W0, W0 = w.alloc (.cells #[.int .i64 p, .int .i64 s, .slice A1 n1 c1, .slice A2 n2 c2, .int .i64 h] 24) := ⟨_, rfl⟩
  have q0 : W0.cell? ⟨w.heap.size, 0, none⟩ = some (.int .i64 p) := by subst HW; go_simp
  have q1 : W0.cell? ⟨w.heap.size, 1, none⟩ = some (.int .i64 s) := by subst HW; go_simp
  have q2 : W0.cell? ⟨w.heap.size, 2, none⟩ = some (.slice A1 n1 c1) := by subst HW; go_simp
  have q3 : W0.cell? ⟨w.heap.size, 3, none⟩ = some (.slice A2 n2 c2) := by subst HW; go_simp
  have q4 : W0.cell? ⟨w.heap.size, 4, none⟩ = some (.int .i64 h) := by subst HW; go_simp
  have hz : w.heap.size + 1 ≤ W0.heap.size := by subst HW; simp
  have hbe : Below w.heap.size w W0 := by subst HW; exact (by repeat (first | exact Below.refl _ _ | (refine below_drewN ?_ _) | (refine Below.drew ?_) | (refine Below.alloc ?_ (by first | exact Nat.le_refl _ | (simp; done) | (simp; omega) | omega) _) | (refine Below.setCell ?_ (by first | exact Nat.le_refl _ | (simp; done) | (simp; omega) | omega) _) | (refine Below.trans ?_ (Below.mono (by assumption) (by first | exact Nat.le_refl _ | (simp; done) | (simp; omega) | omega)))))
  have a1 := a1.below hbe
  have k3 : ∀ w1, RdI w1 A1 n1 xs → Calls Tryz.prog 32 #[.int .i64 n, .slice A1 n1 c1] w1 fun e w' => e = .returned (.bool false) ∧ w1 = w' := fun w1 h1 => by
    have := l3List_any A1 n1 c1 xs n w1 h1 (by omega) (by omega) (by omega)
    rwa [f] at this
  replace a1 := hide a1
  replace HW := hide HW
  replace hbe := hide hbe
  clear c d e f
  go_enter Tryz.func14, Tryz.ntmps14
  go_upto_region 1 with (fail)
  rw [← HW.out]
  go_wp2_with fail
  go_quiet (first
    | (go_at_call 30; exact quiet_left (k1 _))
    | (go_at_call 31; exact quiet_left (k2 _))
    | (go_at_call 32; exact quiet_left (k3 _ (RdI.drewN (unhide a1) _)))
    | fail)
  go_wp2_with fail
  go_ret
  exact ⟨rfl, below_drewN hbe.out _⟩
end Go.Proofs.YtkimbgehnhcmaaaGreatDoor
