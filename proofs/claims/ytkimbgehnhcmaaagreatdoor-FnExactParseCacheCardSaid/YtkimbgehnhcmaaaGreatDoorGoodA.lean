/- Whether a cache is valid, by the reference (l4Good), walked where all tests are made; for lists of at most 2^20 numbers. -/
import Derived.Test.YtkimbgehnhcmaaaGreatDoorGood
namespace Go.Proofs.YtkimbgehnhcmaaaGreatDoor
open Go.RowKit
theorem hand_yes {p s h : Int} {n1 : Nat} (a : p = 6) (b : (n1 : Int) = s) : handB p s n1 h = decide (0 ≤ h ∧ h ≤ s - 1) := by unfold handB; rw [if_pos ⟨a, b⟩]
theorem hand_no {p s h : Int} {n1 : Nat} (a : ¬ (p = 6 ∧ (n1 : Int) = s)) : handB p s n1 h = decide (h = 0) := by unfold handB; rw [if_neg a]

set_option maxRecDepth 100000 in
set_option maxHeartbeats 12800000 in
theorem good_marks (n p s h : Int) (A1 : Option Addr) (n1 c1 : Nat) (A2 : Option Addr) (n2 c2 : Nat) (w : World) (xs ys : List Int) (a1 : RdI w A1 n1 xs) (a2 : RdI w A2 n2 ys) (hn2 : n2 ≤ 1048576) (c : 1 ≤ n ∧ n ≤ 8) (d : (1 ≤ p ∧ p ≤ 7) ∧ (1 ≤ s ∧ s ≤ 6)) (e : (n1 : Int) ≤ s) (f : belowB n xs = true) (g : (riseL xs).length = n1) (m : marksB p n1 ys = false) :
    Calls Tryz.prog 14 #[.int .i64 n, .agg #[.int .i64 p, .int .i64 s, .slice A1 n1 c1, .slice A2 n2 c2, .int .i64 h]] w fun e w' => e = .returned (.bool false) ∧ Below w.heap.size w w' := by
  have k1 := fun w => l3Items_yes n w c.1 c.2
  have k2 := fun w => l4Sizes_yes p s w d
  have hgt : ¬ s < (n1 : Int) := by omega
  obtain ⟨W0, HW⟩ : ∃ W0, W0 = w.alloc (.cells #[.int .i64 p, .int .i64 s, .slice A1 n1 c1, .slice A2 n2 c2, .int .i64 h] 24) := ⟨_, rfl⟩
  have q0 : W0.cell? ⟨w.heap.size, 0, none⟩ = some (.int .i64 p) := by subst HW; go_simp
  have q1 : W0.cell? ⟨w.heap.size, 1, none⟩ = some (.int .i64 s) := by subst HW; go_simp
  have q2 : W0.cell? ⟨w.heap.size, 2, none⟩ = some (.slice A1 n1 c1) := by subst HW; go_simp
  have q3 : W0.cell? ⟨w.heap.size, 3, none⟩ = some (.slice A2 n2 c2) := by subst HW; go_simp
  have q4 : W0.cell? ⟨w.heap.size, 4, none⟩ = some (.int .i64 h) := by subst HW; go_simp
  have hz : w.heap.size + 1 ≤ W0.heap.size := by subst HW; simp
  have hbe : Below w.heap.size w W0 := by subst HW; exact (by repeat (first | exact Below.refl _ _ | (refine below_drewN ?_ _) | (refine Below.drew ?_) | (refine Below.alloc ?_ (by first | exact Nat.le_refl _ | (simp; done) | (simp; omega) | omega) _) | (refine Below.setCell ?_ (by first | exact Nat.le_refl _ | (simp; done) | (simp; omega) | omega) _) | (refine Below.trans ?_ (Below.mono (by assumption) (by first | exact Nat.le_refl _ | (simp; done) | (simp; omega) | omega)))))
  have b1 := a1.below hbe
  have b2 := a2.below hbe
  have k3 : ∀ w1, RdI w1 A1 n1 xs → Calls Tryz.prog 32 #[.int .i64 n, .slice A1 n1 c1] w1 fun e w' => e = .returned (.bool true) ∧ w1 = w' := fun w1 h1 => by
    have := l3List_any A1 n1 c1 xs n w1 h1 (by omega) (by omega) (by omega)
    rwa [f] at this
  have k4 : ∀ w1, Kept W0.heap.size W0 w1 → Calls Tryz.prog 33 #[.slice A1 n1 c1] w1 (RetO w1 (riseL xs)) := fun w1 hk => l3Different_any A1 n1 c1 xs w1 (b1.below hk.1) (by omega)
  have k5 : ∀ w1, Kept W0.heap.size W0 w1 → Calls Tryz.prog 34 #[.agg #[.int .i64 p, .int .i64 s, .slice A1 n1 c1, .slice A2 n2 c2, .int .i64 h]] w1 fun e w' => e = .returned (.bool (marksB p n1 ys)) ∧ Below w1.heap.size w1 w' := fun w1 hk => l4Marks_any p s h A1 n1 c1 A2 n2 c2 ys w1 (b2.below hk.1) (by omega) hn2
  have hd1 : decide (s < (n1 : Int)) = false := by simp; omega
  have hd2 : ((n1 : Int) != (n1 : Int)) = false := by simp
  rw [m] at k5
  unfold RetO at k4
  rw [g] at k4
  have mkS := hide (fun (w' : World) (k : Kept W0.heap.size W0 w') => (⟨(k.cells _ _ (by omega)).trans q0, (k.cells _ _ (by omega)).trans q1, (k.cells _ _ (by omega)).trans q2, (k.cells _ _ (by omega)).trans q3, (k.cells _ _ (by omega)).trans q4, k⟩ : w'.cell? ⟨w.heap.size, 0, none⟩ = some (.int .i64 p) ∧ w'.cell? ⟨w.heap.size, 1, none⟩ = some (.int .i64 s) ∧ w'.cell? ⟨w.heap.size, 2, none⟩ = some (.slice A1 n1 c1) ∧ w'.cell? ⟨w.heap.size, 3, none⟩ = some (.slice A2 n2 c2) ∧ w'.cell? ⟨w.heap.size, 4, none⟩ = some (.int .i64 h) ∧ Kept W0.heap.size W0 w'))
  have HK := Kept.start (Nat.le_refl W0.heap.size)
  replace HW := hide HW
  replace hbe := hide hbe
  clear c d f m
  go_enter Tryz.func14, Tryz.ntmps14
  go_upto_region 1 with (fail)
  rw [← HW.out]
  go_wp2_with fail
  go_region_held3 (fun w' => w'.cell? ⟨w.heap.size, 0, none⟩ = some (.int .i64 p) ∧ w'.cell? ⟨w.heap.size, 1, none⟩ = some (.int .i64 s) ∧ w'.cell? ⟨w.heap.size, 2, none⟩ = some (.slice A1 n1 c1) ∧ w'.cell? ⟨w.heap.size, 3, none⟩ = some (.slice A2 n2 c2) ∧ w'.cell? ⟨w.heap.size, 4, none⟩ = some (.int .i64 h) ∧ Kept W0.heap.size W0 w')
    (first | exact mkS.out _ HK | exact mkS.out _ HK.drew)
    (first
      | (go_at_call 30; refine (k1 _).mono ?_; rintro e w1 ⟨rfl, rfl⟩)
      | (go_at_call 31; refine (k2 _).mono ?_; rintro e w1 ⟨rfl, rfl⟩)
      | (go_at_call 32; refine (k3 _ (by first | exact b1.below HK.1 | exact b1.below HK.drew.1)).mono ?_; rintro e w1 ⟨rfl, rfl⟩)
      | (go_at_call 33; refine (k4 _ (by first | exact HK | exact HK.drew)).mono ?_; rintro e w1 ⟨Ad, cd, rfl, _, hb⟩; go_must (have HK := Kept.step (by first | exact HK | exact HK.drew) hb))
      | (go_at_call 34; refine (k5 _ (by first | exact HK | exact HK.drew)).mono ?_; rintro e w1 ⟨rfl, hb⟩; go_must (have HK := Kept.step (by first | exact HK | exact HK.drew) hb)))
  all_goals go_wp2_with fail
  all_goals go_ret
  all_goals (first | exact ⟨rfl, HK.below hbe.out (by omega)⟩ | exact ⟨rfl, HK.drew.below hbe.out (by omega)⟩)

set_option maxRecDepth 100000 in
set_option maxHeartbeats 12800000 in
theorem good_all (n p s h : Int) (A1 : Option Addr) (n1 c1 : Nat) (A2 : Option Addr) (n2 c2 : Nat) (w : World) (xs ys : List Int) (a1 : RdI w A1 n1 xs) (a2 : RdI w A2 n2 ys) (hn2 : n2 ≤ 1048576) (c : 1 ≤ n ∧ n ≤ 8) (d : (1 ≤ p ∧ p ≤ 7) ∧ (1 ≤ s ∧ s ≤ 6)) (e : (n1 : Int) ≤ s) (f : belowB n xs = true) (g : (riseL xs).length = n1) (m : marksB p n1 ys = true) :
    Calls Tryz.prog 14 #[.int .i64 n, .agg #[.int .i64 p, .int .i64 s, .slice A1 n1 c1, .slice A2 n2 c2, .int .i64 h]] w fun e w' => e = .returned (.bool (handB p s n1 h)) ∧ Below w.heap.size w w' := by
  have k1 := fun w => l3Items_yes n w c.1 c.2
  have k2 := fun w => l4Sizes_yes p s w d
  have hgt : ¬ s < (n1 : Int) := by omega
  obtain ⟨W0, HW⟩ : ∃ W0, W0 = w.alloc (.cells #[.int .i64 p, .int .i64 s, .slice A1 n1 c1, .slice A2 n2 c2, .int .i64 h] 24) := ⟨_, rfl⟩
  have q0 : W0.cell? ⟨w.heap.size, 0, none⟩ = some (.int .i64 p) := by subst HW; go_simp
  have q1 : W0.cell? ⟨w.heap.size, 1, none⟩ = some (.int .i64 s) := by subst HW; go_simp
  have q2 : W0.cell? ⟨w.heap.size, 2, none⟩ = some (.slice A1 n1 c1) := by subst HW; go_simp
  have q3 : W0.cell? ⟨w.heap.size, 3, none⟩ = some (.slice A2 n2 c2) := by subst HW; go_simp
  have q4 : W0.cell? ⟨w.heap.size, 4, none⟩ = some (.int .i64 h) := by subst HW; go_simp
  have hz : w.heap.size + 1 ≤ W0.heap.size := by subst HW; simp
  have hbe : Below w.heap.size w W0 := by subst HW; exact (by repeat (first | exact Below.refl _ _ | (refine below_drewN ?_ _) | (refine Below.drew ?_) | (refine Below.alloc ?_ (by first | exact Nat.le_refl _ | (simp; done) | (simp; omega) | omega) _) | (refine Below.setCell ?_ (by first | exact Nat.le_refl _ | (simp; done) | (simp; omega) | omega) _) | (refine Below.trans ?_ (Below.mono (by assumption) (by first | exact Nat.le_refl _ | (simp; done) | (simp; omega) | omega)))))
  have b1 := a1.below hbe
  have b2 := a2.below hbe
  have k3 : ∀ w1, RdI w1 A1 n1 xs → Calls Tryz.prog 32 #[.int .i64 n, .slice A1 n1 c1] w1 fun e w' => e = .returned (.bool true) ∧ w1 = w' := fun w1 h1 => by
    have := l3List_any A1 n1 c1 xs n w1 h1 (by omega) (by omega) (by omega)
    rwa [f] at this
  have k4 : ∀ w1, Kept W0.heap.size W0 w1 → Calls Tryz.prog 33 #[.slice A1 n1 c1] w1 (RetO w1 (riseL xs)) := fun w1 hk => l3Different_any A1 n1 c1 xs w1 (b1.below hk.1) (by omega)
  have k5 : ∀ w1, Kept W0.heap.size W0 w1 → Calls Tryz.prog 34 #[.agg #[.int .i64 p, .int .i64 s, .slice A1 n1 c1, .slice A2 n2 c2, .int .i64 h]] w1 fun e w' => e = .returned (.bool (marksB p n1 ys)) ∧ Below w1.heap.size w1 w' := fun w1 hk => l4Marks_any p s h A1 n1 c1 A2 n2 c2 ys w1 (b2.below hk.1) (by omega) hn2
  have hd1 : decide (s < (n1 : Int)) = false := by simp; omega
  have hd2 : ((n1 : Int) != (n1 : Int)) = false := by simp
  rw [m] at k5
  unfold RetO at k4
  rw [g] at k4
  have hs16 := d.2
  have mkS := hide (fun (w' : World) (k : Kept W0.heap.size W0 w') => (⟨(k.cells _ _ (by omega)).trans q0, (k.cells _ _ (by omega)).trans q1, (k.cells _ _ (by omega)).trans q2, (k.cells _ _ (by omega)).trans q3, (k.cells _ _ (by omega)).trans q4, k⟩ : w'.cell? ⟨w.heap.size, 0, none⟩ = some (.int .i64 p) ∧ w'.cell? ⟨w.heap.size, 1, none⟩ = some (.int .i64 s) ∧ w'.cell? ⟨w.heap.size, 2, none⟩ = some (.slice A1 n1 c1) ∧ w'.cell? ⟨w.heap.size, 3, none⟩ = some (.slice A2 n2 c2) ∧ w'.cell? ⟨w.heap.size, 4, none⟩ = some (.int .i64 h) ∧ Kept W0.heap.size W0 w'))
  have HK := Kept.start (Nat.le_refl W0.heap.size)
  replace HW := hide HW
  replace hbe := hide hbe
  clear c d f m
  go_enter Tryz.func14, Tryz.ntmps14
  go_upto_region 1 with (fail)
  rw [← HW.out]
  go_wp2_with fail
  go_region_held3 (fun w' => w'.cell? ⟨w.heap.size, 0, none⟩ = some (.int .i64 p) ∧ w'.cell? ⟨w.heap.size, 1, none⟩ = some (.int .i64 s) ∧ w'.cell? ⟨w.heap.size, 2, none⟩ = some (.slice A1 n1 c1) ∧ w'.cell? ⟨w.heap.size, 3, none⟩ = some (.slice A2 n2 c2) ∧ w'.cell? ⟨w.heap.size, 4, none⟩ = some (.int .i64 h) ∧ Kept W0.heap.size W0 w')
    (first | exact mkS.out _ HK | exact mkS.out _ HK.drew)
    (first
      | (go_at_call 30; refine (k1 _).mono ?_; rintro e w1 ⟨rfl, rfl⟩)
      | (go_at_call 31; refine (k2 _).mono ?_; rintro e w1 ⟨rfl, rfl⟩)
      | (go_at_call 32; refine (k3 _ (by first | exact b1.below HK.1 | exact b1.below HK.drew.1)).mono ?_; rintro e w1 ⟨rfl, rfl⟩)
      | (go_at_call 33; refine (k4 _ (by first | exact HK | exact HK.drew)).mono ?_; rintro e w1 ⟨Ad, cd, rfl, _, hb⟩; go_must (have HK := Kept.step (by first | exact HK | exact HK.drew) hb))
      | (go_at_call 34; refine (k5 _ (by first | exact HK | exact HK.drew)).mono ?_; rintro e w1 ⟨rfl, hb⟩; go_must (have HK := Kept.step (by first | exact HK | exact HK.drew) hb)))
  all_goals obtain ⟨x0, x1, x2, x3, x4, _⟩ := mkS.out _ HK
  all_goals
    by_cases hp6 : p = 6
    · have hb6 : (p == 6) = true := by simpa using hp6
      by_cases hns : (n1 : Int) = s
      · have hbn : ((n1 : Int) == s) = true := by simpa using hns
        have HV := hide (hand_yes (h := h) hp6 hns)
        by_cases hh : 0 ≤ h ∧ h ≤ s - 1
        · have HW2 := hide (HV.out.trans (decide_eq_true hh))
          obtain ⟨hh1, hh2⟩ := hh
          clear hp6 hns
          go_wp2_with (first | (go_at_call 28; refine (l1In_yes _ _ _ _ (by omega) (by omega)).mono ?_; rintro e w' ⟨rfl, rfl⟩) | (go_at_call 28; refine (l1In_no _ _ _ _ (by omega)).mono ?_; rintro e w' ⟨rfl, rfl⟩))
          go_ret
          (first | exact ⟨ret_bool HW2.out.symm, HK.below hbe.out (by omega)⟩ | exact ⟨ret_bool HW2.out.symm, HK.drew.below hbe.out (by omega)⟩)
        · have HW2 := hide (HV.out.trans (decide_eq_false hh))
          clear hp6 hns
          go_wp2_with (first | (go_at_call 28; refine (l1In_yes _ _ _ _ (by omega) (by omega)).mono ?_; rintro e w' ⟨rfl, rfl⟩) | (go_at_call 28; refine (l1In_no _ _ _ _ (by omega)).mono ?_; rintro e w' ⟨rfl, rfl⟩))
          go_ret
          (first | exact ⟨ret_bool HW2.out.symm, HK.below hbe.out (by omega)⟩ | exact ⟨ret_bool HW2.out.symm, HK.drew.below hbe.out (by omega)⟩)
      · have hbn : ((n1 : Int) == s) = false := by simpa using hns
        have HV := hide (hand_no (h := h) (p := p) (fun q => hns q.2))
        by_cases hh : h = 0
        · have HW2 := hide (HV.out.trans (decide_eq_true hh))
          have hbh : (h == 0) = true := by simpa using hh
          clear hp6 hns hh
          go_wp2_with (first | (go_at_call 28; refine (l1In_yes _ _ _ _ (by omega) (by omega)).mono ?_; rintro e w' ⟨rfl, rfl⟩) | (go_at_call 28; refine (l1In_no _ _ _ _ (by omega)).mono ?_; rintro e w' ⟨rfl, rfl⟩))
          go_ret
          (first | exact ⟨ret_bool HW2.out.symm, HK.below hbe.out (by omega)⟩ | exact ⟨ret_bool HW2.out.symm, HK.drew.below hbe.out (by omega)⟩)
        · have HW2 := hide (HV.out.trans (decide_eq_false hh))
          have hbh : (h == 0) = false := by simpa using hh
          clear hp6 hns hh
          go_wp2_with (first | (go_at_call 28; refine (l1In_yes _ _ _ _ (by omega) (by omega)).mono ?_; rintro e w' ⟨rfl, rfl⟩) | (go_at_call 28; refine (l1In_no _ _ _ _ (by omega)).mono ?_; rintro e w' ⟨rfl, rfl⟩))
          go_ret
          (first | exact ⟨ret_bool HW2.out.symm, HK.below hbe.out (by omega)⟩ | exact ⟨ret_bool HW2.out.symm, HK.drew.below hbe.out (by omega)⟩)
    · have hb6 : (p == 6) = false := by simpa using hp6
      have HV := hide (hand_no (n1 := n1) (s := s) (h := h) (p := p) (fun q => hp6 q.1))
      by_cases hh : h = 0
      · have HW2 := hide (HV.out.trans (decide_eq_true hh))
        have hbh : (h == 0) = true := by simpa using hh
        clear hp6 hh
        go_wp2_with (first | (go_at_call 28; refine (l1In_yes _ _ _ _ (by omega) (by omega)).mono ?_; rintro e w' ⟨rfl, rfl⟩) | (go_at_call 28; refine (l1In_no _ _ _ _ (by omega)).mono ?_; rintro e w' ⟨rfl, rfl⟩))
        go_ret
        (first | exact ⟨ret_bool HW2.out.symm, HK.below hbe.out (by omega)⟩ | exact ⟨ret_bool HW2.out.symm, HK.drew.below hbe.out (by omega)⟩)
      · have HW2 := hide (HV.out.trans (decide_eq_false hh))
        have hbh : (h == 0) = false := by simpa using hh
        clear hp6 hh
        go_wp2_with (first | (go_at_call 28; refine (l1In_yes _ _ _ _ (by omega) (by omega)).mono ?_; rintro e w' ⟨rfl, rfl⟩) | (go_at_call 28; refine (l1In_no _ _ _ _ (by omega)).mono ?_; rintro e w' ⟨rfl, rfl⟩))
        go_ret
        (first | exact ⟨ret_bool HW2.out.symm, HK.below hbe.out (by omega)⟩ | exact ⟨ret_bool HW2.out.symm, HK.drew.below hbe.out (by omega)⟩)
end Go.Proofs.YtkimbgehnhcmaaaGreatDoor
