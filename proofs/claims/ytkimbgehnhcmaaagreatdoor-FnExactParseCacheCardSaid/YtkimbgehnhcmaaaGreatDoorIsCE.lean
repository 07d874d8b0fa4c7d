/- The program's IsCache, walked: some page is not below the number of items; for lists of at most 2^20 numbers. -/
import Derived.Test.YtkimbgehnhcmaaaGreatDoorIsCA
import Derived.Test.YtkimbgehnhcmaaaGreatDoorQuietK
namespace Go.Proofs.YtkimbgehnhcmaaaGreatDoor
open Go.RowKit

set_option maxRecDepth 100000 in
set_option maxHeartbeats 12800000 in
theorem isc_below (n p s h : Int) (A1 : Option Addr) (n1 c1 : Nat) (A2 : Option Addr) (n2 c2 : Nat) (w : World) (xs ys : List Int) (a1 : RdI w A1 n1 xs) (a2 : RdI w A2 n2 ys) (hn2 : n2 ≤ 1048576) (c : 1 ≤ n ∧ n ≤ 8) (d : 1 ≤ p ∧ p ≤ 7) (d2 : 1 ≤ s ∧ s ≤ 6) (e : (n1 : Int) ≤ s) (f : belowB n xs = false) :
    Calls Tryz.prog 21 #[.int .i64 n, .agg #[.int .i64 p, .int .i64 s, .slice A1 n1 c1, .slice A2 n2 c2, .int .i64 h]] w fun e w' => e = .returned (.bool false) ∧ Below w.heap.size w w' := by
  have k1 := fun w => isItems_yes n w c.1 c.2
  have k2 := fun w => isPolicy_yes p w d.1 d.2
  have k3 := fun w => isSize_yes s w d2.1 d2.2
  have hgt : ¬ s < (n1 : Int) := by omega
  obtain ⟨W0, HW⟩ : ∃ W0, W0 = w.alloc (.cells #[.int .i64 p, .int .i64 s, .slice A1 n1 c1, .slice A2 n2 c2, .int .i64 h] 24) := ⟨_, rfl⟩
  have q0 : W0.cell? ⟨w.heap.size, 0, none⟩ = some (.int .i64 p) := by subst HW; go_simp
  have q1 : W0.cell? ⟨w.heap.size, 1, none⟩ = some (.int .i64 s) := by subst HW; go_simp
  have q2 : W0.cell? ⟨w.heap.size, 2, none⟩ = some (.slice A1 n1 c1) := by subst HW; go_simp
  have q3 : W0.cell? ⟨w.heap.size, 3, none⟩ = some (.slice A2 n2 c2) := by subst HW; go_simp
  have q4 : W0.cell? ⟨w.heap.size, 4, none⟩ = some (.int .i64 h) := by subst HW; go_simp
  have hz : w.heap.size + 1 ≤ W0.heap.size := by subst HW; simp
  have hbe : Below w.heap.size w W0 := by subst HW; exact (by repeat (first | exact Below.refl _ _ | (refine below_drewN ?_ _) | (refine Below.drew ?_) | (refine Below.alloc ?_ (by first | exact Nat.le_refl _ | (simp; done) | (simp; omega) | omega) _) | (refine Below.setCell ?_ (by first | exact Nat.le_refl _ | (simp; done) | (simp; omega) | omega) _) | (refine Below.trans ?_ (Below.mono (by assumption) (by first | exact Nat.le_refl _ | (simp; done) | (simp; omega) | omega)))))
  have b1 := a1.below hbe
  have b2 := a2.below hbe
  have k4 : ∀ w1, Kept W0.heap.size W0 w1 → Calls Tryz.prog 44 #[.int .i64 n, .slice A1 n1 c1] w1 fun e w' => e = .returned (.bool (belowB n xs)) ∧ Below w1.heap.size w1 w' := fun w1 hk => areBelow_any A1 n1 c1 xs n w1 (b1.below hk.1) (by omega) (by omega) (by omega)
  have k5 : ∀ w1, Kept W0.heap.size W0 w1 → Calls Tryz.prog 45 #[.slice A1 n1 c1] w1 (RetO w1 (riseL xs)) := fun w1 hk => rising_any A1 n1 c1 xs w1 (b1.below hk.1) (by omega)
  have k6 : ∀ w1, Kept W0.heap.size W0 w1 → Calls Tryz.prog 46 #[.agg #[.int .i64 p, .int .i64 s, .slice A1 n1 c1, .slice A2 n2 c2, .int .i64 h]] w1 fun e w' => e = .returned (.bool (marksB p n1 ys)) ∧ Below w1.heap.size w1 w' := fun w1 hk => areMarks_any p s h A1 n1 c1 A2 n2 c2 ys w1 (b2.below hk.1) hn2
  have hd1 : decide (s < (n1 : Int)) = false := by simp; omega
  have hd2 : ((n1 : Int) != (n1 : Int)) = false := by simp
  rw [f] at k4
  clear k5 k6 a1 a2 hn2
  have mkS := hide (fun (w' : World) (k : Kept W0.heap.size W0 w') => (⟨(k.cells _ _ (by omega)).trans q0, (k.cells _ _ (by omega)).trans q1, (k.cells _ _ (by omega)).trans q2, (k.cells _ _ (by omega)).trans q3, (k.cells _ _ (by omega)).trans q4, k⟩ : w'.cell? ⟨w.heap.size, 0, none⟩ = some (.int .i64 p) ∧ w'.cell? ⟨w.heap.size, 1, none⟩ = some (.int .i64 s) ∧ w'.cell? ⟨w.heap.size, 2, none⟩ = some (.slice A1 n1 c1) ∧ w'.cell? ⟨w.heap.size, 3, none⟩ = some (.slice A2 n2 c2) ∧ w'.cell? ⟨w.heap.size, 4, none⟩ = some (.int .i64 h) ∧ Kept W0.heap.size W0 w'))
  have HK := Kept.start (Nat.le_refl W0.heap.size)
  have u0 := KeptBy.cell (by omega) q0
  have u1 := KeptBy.cell (by omega) q1
  have u2 := KeptBy.cell (by omega) q2
  have u3 := KeptBy.cell (by omega) q3
  have u4 := KeptBy.cell (by omega) q4
  replace HW := hide HW
  replace hbe := hide hbe
  clear c d f
  go_enter Tryz.func21, Tryz.ntmps21
  go_upto_region 1 with (fail)
  rw [← HW.out]
  go_wp2_with fail
  clear HK mkS
  refine wp_region_kept (by kernel_rfl) (by kernel_rfl) ?_
  repeat (quiet_step (first
      | (go_at_call 41; exact Calls.kept_same (k1 _))
      | (go_at_call 42; exact Calls.kept_same (k2 _))
      | (go_at_call 43; exact Calls.kept_same (k3 _))
      | (go_at_call 44; exact Calls.kept_of (k4 _ (KeptBy.kept _)))))
  refine wpQuiet_nil ?_
  intro _ hw'
  obtain ⟨kq, hw''⟩ := hw'
  subst hw''
  go_wp2_with fail
  go_ret
  exact ⟨rfl, kq.kept.below hbe.out (by omega)⟩
end Go.Proofs.YtkimbgehnhcmaaaGreatDoor
