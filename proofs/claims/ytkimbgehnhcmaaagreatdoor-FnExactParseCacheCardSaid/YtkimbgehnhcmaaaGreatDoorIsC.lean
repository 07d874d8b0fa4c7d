/- The program's IsCache, walked where an early test fails; for lists of at most 2^20 numbers. -/
import Derived.Test.YtkimbgehnhcmaaaGreatDoorCacheI
import Derived.Test.YtkimbgehnhcmaaaGreatDoorCacheG
namespace Go.Proofs.YtkimbgehnhcmaaaGreatDoor
open Go.RowKit

set_option maxRecDepth 100000 in
set_option maxHeartbeats 12800000 in
theorem isc_items (n p s h : Int) (A1 : Option Addr) (n1 c1 : Nat) (A2 : Option Addr) (n2 c2 : Nat) (w : World) (c : ¬ (1 ≤ n ∧ n ≤ 8)) :
    Calls Tryz.prog 21 #[.int .i64 n, .agg #[.int .i64 p, .int .i64 s, .slice A1 n1 c1, .slice A2 n2 c2, .int .i64 h]] w fun e w' => e = .returned (.bool false) ∧ Below w.heap.size w w' := by
  have k1 := fun w => isItems_no n w c
  obtain ⟨W0, HW⟩ : ∃ W0, W0 = w.alloc (.cells #[.int .i64 p, .int .i64 s, .slice A1 n1 c1, .slice A2 n2 c2, .int .i64 h] 24) := ⟨_, rfl⟩
  have q0 : W0.cell? ⟨w.heap.size, 0, none⟩ = some (.int .i64 p) := by subst HW; go_simp
  have q1 : W0.cell? ⟨w.heap.size, 1, none⟩ = some (.int .i64 s) := by subst HW; go_simp
  have q2 : W0.cell? ⟨w.heap.size, 2, none⟩ = some (.slice A1 n1 c1) := by subst HW; go_simp
  have q3 : W0.cell? ⟨w.heap.size, 3, none⟩ = some (.slice A2 n2 c2) := by subst HW; go_simp
  have q4 : W0.cell? ⟨w.heap.size, 4, none⟩ = some (.int .i64 h) := by subst HW; go_simp
  have hz : w.heap.size + 1 ≤ W0.heap.size := by subst HW; simp
  have hbe : Below w.heap.size w W0 := by subst HW; exact (by repeat (first | exact Below.refl _ _ | (refine below_drewN ?_ _) | (refine Below.drew ?_) | (refine Below.alloc ?_ (by first | exact Nat.le_refl _ | (simp; done) | (simp; omega) | omega) _) | (refine Below.setCell ?_ (by first | exact Nat.le_refl _ | (simp; done) | (simp; omega) | omega) _) | (refine Below.trans ?_ (Below.mono (by assumption) (by first | exact Nat.le_refl _ | (simp; done) | (simp; omega) | omega)))))
  replace HW := hide HW
  replace hbe := hide hbe
  clear c
  go_enter Tryz.func21, Tryz.ntmps21
  go_upto_region 1 with (fail)
  rw [← HW.out]
  go_wp2_with fail
  go_quiet (first
    | (go_at_call 41; exact quiet_left (k1 _))
    | fail)
  go_wp2_with fail
  go_ret
  exact ⟨rfl, below_drewN hbe.out _⟩

set_option maxRecDepth 100000 in
set_option maxHeartbeats 12800000 in
theorem isc_policy (n p s h : Int) (A1 : Option Addr) (n1 c1 : Nat) (A2 : Option Addr) (n2 c2 : Nat) (w : World) (c : 1 ≤ n ∧ n ≤ 8) (d : ¬ (1 ≤ p ∧ p ≤ 7)) :
    Calls Tryz.prog 21 #[.int .i64 n, .agg #[.int .i64 p, .int .i64 s, .slice A1 n1 c1, .slice A2 n2 c2, .int .i64 h]] w fun e w' => e = .returned (.bool false) ∧ Below w.heap.size w w' := by
  have k1 := fun w => isItems_yes n w c.1 c.2
  have k2 := fun w => isPolicy_no p w d
  obtain ⟨W0, HW⟩ : ∃ W0, W0 = w.alloc (.cells #[.int .i64 p, .int .i64 s, .slice A1 n1 c1, .slice A2 n2 c2, .int .i64 h] 24) := ⟨_, rfl⟩
  have q0 : W0.cell? ⟨w.heap.size, 0, none⟩ = some (.int .i64 p) := by subst HW; go_simp
  have q1 : W0.cell? ⟨w.heap.size, 1, none⟩ = some (.int .i64 s) := by subst HW; go_simp
  have q2 : W0.cell? ⟨w.heap.size, 2, none⟩ = some (.slice A1 n1 c1) := by subst HW; go_simp
  have q3 : W0.cell? ⟨w.heap.size, 3, none⟩ = some (.slice A2 n2 c2) := by subst HW; go_simp
  have q4 : W0.cell? ⟨w.heap.size, 4, none⟩ = some (.int .i64 h) := by subst HW; go_simp
  have hz : w.heap.size + 1 ≤ W0.heap.size := by subst HW; simp
  have hbe : Below w.heap.size w W0 := by subst HW; exact (by repeat (first | exact Below.refl _ _ | (refine below_drewN ?_ _) | (refine Below.drew ?_) | (refine Below.alloc ?_ (by first | exact Nat.le_refl _ | (simp; done) | (simp; omega) | omega) _) | (refine Below.setCell ?_ (by first | exact Nat.le_refl _ | (simp; done) | (simp; omega) | omega) _) | (refine Below.trans ?_ (Below.mono (by assumption) (by first | exact Nat.le_refl _ | (simp; done) | (simp; omega) | omega)))))
  replace HW := hide HW
  replace hbe := hide hbe
  clear c d
  go_enter Tryz.func21, Tryz.ntmps21
  go_upto_region 1 with (fail)
  rw [← HW.out]
  go_wp2_with fail
  go_quiet (first
    | (go_at_call 41; exact quiet_left (k1 _))
    | (go_at_call 42; exact quiet_left (k2 _))
    | fail)
  go_wp2_with fail
  go_ret
  exact ⟨rfl, below_drewN hbe.out _⟩

set_option maxRecDepth 100000 in
set_option maxHeartbeats 12800000 in
theorem isc_size (n p s h : Int) (A1 : Option Addr) (n1 c1 : Nat) (A2 : Option Addr) (n2 c2 : Nat) (w : World) (c : 1 ≤ n ∧ n ≤ 8) (d : 1 ≤ p ∧ p ≤ 7) (d2 : ¬ (1 ≤ s ∧ s ≤ 6)) :
    Calls Tryz.prog 21 #[.int .i64 n, .agg #[.int .i64 p, .int .i64 s, .slice A1 n1 c1, .slice A2 n2 c2, .int .i64 h]] w fun e w' => e = .returned (.bool false) ∧ Below w.heap.size w w' := by
  have k1 := fun w => isItems_yes n w c.1 c.2
  have k2 := fun w => isPolicy_yes p w d.1 d.2
  have k3 := fun w => isSize_no s w d2
  obtain ⟨W0, HW⟩ : ∃ W0, W0 = w.alloc (.cells #[.int .i64 p, .int .i64 s, .slice A1 n1 c1, .slice A2 n2 c2, .int .i64 h] 24) := ⟨_, rfl⟩
  have q0 : W0.cell? ⟨w.heap.size, 0, none⟩ = some (.int .i64 p) := by subst HW; go_simp
  have q1 : W0.cell? ⟨w.heap.size, 1, none⟩ = some (.int .i64 s) := by subst HW; go_simp
  have q2 : W0.cell? ⟨w.heap.size, 2, none⟩ = some (.slice A1 n1 c1) := by subst HW; go_simp
  have q3 : W0.cell? ⟨w.heap.size, 3, none⟩ = some (.slice A2 n2 c2) := by subst HW; go_simp
  have q4 : W0.cell? ⟨w.heap.size, 4, none⟩ = some (.int .i64 h) := by subst HW; go_simp
  have hz : w.heap.size + 1 ≤ W0.heap.size := by subst HW; simp
  have hbe : Below w.heap.size w W0 := by subst HW; exact (by repeat (first | exact Below.refl _ _ | (refine below_drewN ?_ _) | (refine Below.drew ?_) | (refine Below.alloc ?_ (by first | exact Nat.le_refl _ | (simp; done) | (simp; omega) | omega) _) | (refine Below.setCell ?_ (by first | exact Nat.le_refl _ | (simp; done) | (simp; omega) | omega) _) | (refine Below.trans ?_ (Below.mono (by assumption) (by first | exact Nat.le_refl _ | (simp; done) | (simp; omega) | omega)))))
  replace HW := hide HW
  replace hbe := hide hbe
  clear c d d2
  go_enter Tryz.func21, Tryz.ntmps21
  go_upto_region 1 with (fail)
  rw [← HW.out]
  go_wp2_with fail
  go_quiet (first
    | (go_at_call 41; exact quiet_left (k1 _))
    | (go_at_call 42; exact quiet_left (k2 _))
    | (go_at_call 43; exact quiet_left (k3 _))
    | fail)
  go_wp2_with fail
  go_ret
  exact ⟨rfl, below_drewN hbe.out _⟩

set_option maxRecDepth 100000 in
set_option maxHeartbeats 12800000 in
theorem isc_len (n p s h : Int) (A1 : Option Addr) (n1 c1 : Nat) (A2 : Option Addr) (n2 c2 : Nat) (w : World) (c : 1 ≤ n ∧ n ≤ 8) (d : 1 ≤ p ∧ p ≤ 7) (d2 : 1 ≤ s ∧ s ≤ 6) (e : ¬ (n1 : Int) ≤ s) :
    Calls Tryz.prog 21 #[.int .i64 n, .agg #[.int .i64 p, .int .i64 s, .slice A1 n1 c1, .slice A2 n2 c2, .int .i64 h]] w fun e w' => e = .returned (.bool false) ∧ Below w.heap.size w w' := by
  have k1 := fun w => isItems_yes n w c.1 c.2
  have k2 := fun w => isPolicy_yes p w d.1 d.2
  have k3 := fun w => isSize_yes s w d2.1 d2.2
  have hgt : s < (n1 : Int) := by omega
  obtain ⟨W0, HW⟩ : ∃ W0, W0 = w.alloc (.cells #[.int .i64 p, .int .i64 s, .slice A1 n1 c1, .slice A2 n2 c2, .int .i64 h] 24) := ⟨_, rfl⟩
  have q0 : W0.cell? ⟨w.heap.size, 0, none⟩ = some (.int .i64 p) := by subst HW; go_simp
  have q1 : W0.cell? ⟨w.heap.size, 1, none⟩ = some (.int .i64 s) := by subst HW; go_simp
  have q2 : W0.cell? ⟨w.heap.size, 2, none⟩ = some (.slice A1 n1 c1) := by subst HW; go_simp
  have q3 : W0.cell? ⟨w.heap.size, 3, none⟩ = some (.slice A2 n2 c2) := by subst HW; go_simp
  have q4 : W0.cell? ⟨w.heap.size, 4, none⟩ = some (.int .i64 h) := by subst HW; go_simp
  have hz : w.heap.size + 1 ≤ W0.heap.size := by subst HW; simp
  have hbe : Below w.heap.size w W0 := by subst HW; exact (by repeat (first | exact Below.refl _ _ | (refine below_drewN ?_ _) | (refine Below.drew ?_) | (refine Below.alloc ?_ (by first | exact Nat.le_refl _ | (simp; done) | (simp; omega) | omega) _) | (refine Below.setCell ?_ (by first | exact Nat.le_refl _ | (simp; done) | (simp; omega) | omega) _) | (refine Below.trans ?_ (Below.mono (by assumption) (by first | exact Nat.le_refl _ | (simp; done) | (simp; omega) | omega)))))
  replace HW := hide HW
  replace hbe := hide hbe
  clear c d d2 e
  go_enter Tryz.func21, Tryz.ntmps21
  go_upto_region 1 with (fail)
  rw [← HW.out]
  go_wp2_with fail
  go_quiet (first
    | (go_at_call 41; exact quiet_left (k1 _))
    | (go_at_call 42; exact quiet_left (k2 _))
    | (go_at_call 43; exact quiet_left (k3 _))
    | fail)
  go_wp2_with fail
  go_ret
  exact ⟨rfl, below_drewN hbe.out _⟩
end Go.Proofs.YtkimbgehnhcmaaaGreatDoor
