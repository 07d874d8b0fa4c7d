/- For every two fractions FnExactFracBetween returns true, and nothing that was in memory changes; no conditions beyond what the given row says. -/
import Derived.Test.YtainbffcnaafkaaBetw
import Derived.Deep.RegionHeld3
import Derived.Deep.DeepCutAuto
namespace Go.Proofs.Ytainbffcnaafkaa.fnExactFracBetween
open Go.ChangeShapes Go.WideShapes Go.ChangeAt Go.RowKit
open Go.ChangeMaps (open_string shut_string)
set_option linter.unusedVariables false

set_option maxHeartbeats 3200000 in
set_option maxRecDepth 100000 in
theorem walk_no (w : World) (a b c d : Int) (hg : (fracB a b && fracB c d) = false) :
    Calls Try.prog 13 #[.agg #[.int .i64 a, .int .i64 b], .agg #[.int .i64 c, .int .i64 d]] w fun e w' => e = .returned (.bool true) ∧ Below w.heap.size w w' := by
  replace hg := hide hg
  obtain ⟨W0, HW⟩ : ∃ W0, W0 = ((w.alloc (.cells #[.int .i64 a, .int .i64 b] 23)).alloc (.cells #[.int .i64 c, .int .i64 d] 23)) := ⟨_, rfl⟩
  have q0 : W0.cell? ⟨w.heap.size, 0, none⟩ = some (.int .i64 a) := by subst HW; go_simp
  have q1 : W0.cell? ⟨w.heap.size, 1, none⟩ = some (.int .i64 b) := by subst HW; go_simp
  have q2 : W0.cell? ⟨w.heap.size + 1, 0, none⟩ = some (.int .i64 c) := by subst HW; go_simp
  have q3 : W0.cell? ⟨w.heap.size + 1, 1, none⟩ = some (.int .i64 d) := by subst HW; go_simp
  have hz : w.heap.size + 2 ≤ W0.heap.size := by subst HW; simp
  have hB : Hid (Below w.heap.size w W0) := by subst HW; exact (by repeat (first | exact Below.refl _ _ | (refine below_drewN ?_ _) | (refine Below.drew ?_) | (refine Below.alloc ?_ (by first | exact Nat.le_refl _ | (simp; done) | (simp; omega) | omega) _) | (refine Below.setCell ?_ (by first | exact Nat.le_refl _ | (simp; done) | (simp; omega) | omega) _) | (refine Below.trans ?_ (Below.mono (by assumption) (by first | exact Nat.le_refl _ | (simp; done) | (simp; omega) | omega)))))
  have mkS := hide (fun (w' : World) (h : Kept W0.heap.size W0 w') => (⟨(h.cells _ _ (by omega)).trans q0, (h.cells _ _ (by omega)).trans q1, (h.cells _ _ (by omega)).trans q2, (h.cells _ _ (by omega)).trans q3, h⟩ : w'.cell? ⟨w.heap.size, 0, none⟩ = some (.int .i64 a) ∧ w'.cell? ⟨w.heap.size, 1, none⟩ = some (.int .i64 b) ∧ w'.cell? ⟨w.heap.size + 1, 0, none⟩ = some (.int .i64 c) ∧ w'.cell? ⟨w.heap.size + 1, 1, none⟩ = some (.int .i64 d) ∧ Kept W0.heap.size W0 w'))
  have HK := Kept.start (Nat.le_refl W0.heap.size)
  have hq := trivial
  replace HW := hide HW
  go_enter Try.func13, Try.ntmps13
  go_upto_region 1 with (fail)
  rw [← HW.out]
  go_cut [5, 6] (fun s5 s6 wr => FracAt W0.heap.size W0 wr s5 0 0 ∧ s6 = .bool false)
  case first =>
    go_region_held3 (fun w' => w'.cell? ⟨w.heap.size, 0, none⟩ = some (.int .i64 a) ∧ w'.cell? ⟨w.heap.size, 1, none⟩ = some (.int .i64 b) ∧ w'.cell? ⟨w.heap.size + 1, 0, none⟩ = some (.int .i64 c) ∧ w'.cell? ⟨w.heap.size + 1, 1, none⟩ = some (.int .i64 d) ∧ Kept W0.heap.size W0 w')
      (first | exact mkS.out _ HK | exact mkS.out _ HK.drew | exact mkS.out _ (HK.alloc _) | exact mkS.out _ (HK.drew.alloc _) | exact mkS.out _ (Kept.setCell (Kept.setCell (by first | exact HK | exact HK.alloc _ | exact HK.drew.alloc _) (by have := HK.size; first | omega | (simp; done) | (simp; omega)) _) (by have := HK.size; first | omega | (simp; done) | (simp; omega)) _))
      (first
        | (go_at_call 16; refine (toFrac_any _ _ _).mono ?_; rintro e w1 ⟨rfl, hb⟩; go_must (have HK := Kept.step (by first | assumption | exact HK.drew | exact HK.alloc _ | exact HK.drew.alloc _) hb); (first | (have hq := two_newd hb) | (have hq := two_new hb) | (have hq := two_on hq hb) | skip); have hs := HK.size)
        | (go_at_call 39; refine (specFracBetween_no _ _ _ _ _ hg.out).mono ?_; rintro e w1 ⟨rfl, hb⟩; go_must (have HK := Kept.step (by first | assumption | exact HK.drew | exact HK.alloc _ | exact HK.drew.alloc _) hb); (first | (have hq := two_newd hb) | (have hq := two_new hb) | (have hq := two_on hq hb) | skip); have hs := HK.size))
    all_goals (go_wp2_with fail; go_meet)
    all_goals (first | exact ⟨fracAt_alloc HK, rfl⟩ | exact ⟨fracAt_store hq HK (by omega), rfl⟩)
  case rest =>
    obtain ⟨⟨n, rfl, hn1, hn2, hn3, hn4, HK1⟩, rfl⟩ := hcut
    obtain ⟨wa, rfl⟩ : ∃ wa : World, wa = wc := ⟨_, rfl⟩
    clear HK mkS hq
    have mkS := hide (fun (w' : World) (h : Kept wa.heap.size wa w') => (⟨(h.cells _ _ (by have := HK1.size; omega)).trans ((HK1.cells _ _ (by omega)).trans q0), (h.cells _ _ (by have := HK1.size; omega)).trans ((HK1.cells _ _ (by omega)).trans q1), (h.cells _ _ (by have := HK1.size; omega)).trans ((HK1.cells _ _ (by omega)).trans q2), (h.cells _ _ (by have := HK1.size; omega)).trans ((HK1.cells _ _ (by omega)).trans q3), h⟩ : w'.cell? ⟨w.heap.size, 0, none⟩ = some (.int .i64 a) ∧ w'.cell? ⟨w.heap.size, 1, none⟩ = some (.int .i64 b) ∧ w'.cell? ⟨w.heap.size + 1, 0, none⟩ = some (.int .i64 c) ∧ w'.cell? ⟨w.heap.size + 1, 1, none⟩ = some (.int .i64 d) ∧ Kept wa.heap.size wa w'))
    have HK := Kept.start (Nat.le_refl wa.heap.size)
    have hq := trivial
    have hz' : w.heap.size + 2 ≤ wa.heap.size := by have := HK1.size; omega
    go_upto_region 2 with (fail)
    skip
    go_cut [7, 8] (fun s5 s6 wr => FracAt wa.heap.size wa wr s5 0 0 ∧ s6 = .bool false)
    case first =>
      go_region_held3 (fun w' => w'.cell? ⟨w.heap.size, 0, none⟩ = some (.int .i64 a) ∧ w'.cell? ⟨w.heap.size, 1, none⟩ = some (.int .i64 b) ∧ w'.cell? ⟨w.heap.size + 1, 0, none⟩ = some (.int .i64 c) ∧ w'.cell? ⟨w.heap.size + 1, 1, none⟩ = some (.int .i64 d) ∧ Kept wa.heap.size wa w')
        (first | exact mkS.out _ HK | exact mkS.out _ HK.drew | exact mkS.out _ (HK.alloc _) | exact mkS.out _ (HK.drew.alloc _) | exact mkS.out _ (Kept.setCell (Kept.setCell (by first | exact HK | exact HK.alloc _ | exact HK.drew.alloc _) (by have := HK.size; first | omega | (simp; done) | (simp; omega)) _) (by have := HK.size; first | omega | (simp; done) | (simp; omega)) _))
        (first
          | (go_at_call 16; refine (toFrac_any _ _ _).mono ?_; rintro e w1 ⟨rfl, hb⟩; go_must (have HK := Kept.step (by first | assumption | exact HK.drew | exact HK.alloc _ | exact HK.drew.alloc _) hb); (first | (have hq := two_newd hb) | (have hq := two_new hb) | (have hq := two_on hq hb) | skip); have hs := HK.size)
          | (go_at_call 40; refine (implFracBetween_no _ _ _ _ _ hg.out).mono ?_; rintro e w1 ⟨rfl, hb⟩; go_must (have HK := Kept.step (by first | assumption | exact HK.drew | exact HK.alloc _ | exact HK.drew.alloc _) hb); (first | (have hq := two_newd hb) | (have hq := two_new hb) | (have hq := two_on hq hb) | skip); have hs := HK.size))
      all_goals (go_wp2_with fail; go_meet)
      all_goals (first | exact ⟨fracAt_alloc HK, rfl⟩ | exact ⟨fracAt_store hq HK (by omega), rfl⟩)
    case rest =>
      obtain ⟨⟨n', rfl, hm1, hm2, hm3, hm4, HK2⟩, rfl⟩ := hcut
      have hn3' := (HK2.cells _ _ hn2).trans hn3
      have hn4' := (HK2.cells _ _ hn2).trans hn4
      clear hn3 hn4 q0 q1 q2 q3 mkS hq HK
      go_wp2_with fail
      refine (eqFrac_same _ _ _).mono ?_
      rintro e w5 ⟨rfl, hb⟩
      go_wp2
      go_ret
      exact ⟨rfl, ((hB.out.trans (HK1.1.mono (by omega))).trans (HK2.1.mono (by omega))).trans (hb.mono (by have := HK2.size; omega))⟩

set_option maxHeartbeats 3200000 in
set_option maxRecDepth 100000 in
theorem walk_none (w : World) (a b c d : Int) (hg : (fracB a b && fracB c d) = true ∧ ∀ j, 1 ≤ j → j ≤ 100000 → bc a b c d j → fracB (bf a b j) j = false) :
    Calls Try.prog 13 #[.agg #[.int .i64 a, .int .i64 b], .agg #[.int .i64 c, .int .i64 d]] w fun e w' => e = .returned (.bool true) ∧ Below w.heap.size w w' := by
  replace hg := hide hg
  obtain ⟨W0, HW⟩ : ∃ W0, W0 = ((w.alloc (.cells #[.int .i64 a, .int .i64 b] 23)).alloc (.cells #[.int .i64 c, .int .i64 d] 23)) := ⟨_, rfl⟩
  have q0 : W0.cell? ⟨w.heap.size, 0, none⟩ = some (.int .i64 a) := by subst HW; go_simp
  have q1 : W0.cell? ⟨w.heap.size, 1, none⟩ = some (.int .i64 b) := by subst HW; go_simp
  have q2 : W0.cell? ⟨w.heap.size + 1, 0, none⟩ = some (.int .i64 c) := by subst HW; go_simp
  have q3 : W0.cell? ⟨w.heap.size + 1, 1, none⟩ = some (.int .i64 d) := by subst HW; go_simp
  have hz : w.heap.size + 2 ≤ W0.heap.size := by subst HW; simp
  have hB : Hid (Below w.heap.size w W0) := by subst HW; exact (by repeat (first | exact Below.refl _ _ | (refine below_drewN ?_ _) | (refine Below.drew ?_) | (refine Below.alloc ?_ (by first | exact Nat.le_refl _ | (simp; done) | (simp; omega) | omega) _) | (refine Below.setCell ?_ (by first | exact Nat.le_refl _ | (simp; done) | (simp; omega) | omega) _) | (refine Below.trans ?_ (Below.mono (by assumption) (by first | exact Nat.le_refl _ | (simp; done) | (simp; omega) | omega)))))
  have mkS := hide (fun (w' : World) (h : Kept W0.heap.size W0 w') => (⟨(h.cells _ _ (by omega)).trans q0, (h.cells _ _ (by omega)).trans q1, (h.cells _ _ (by omega)).trans q2, (h.cells _ _ (by omega)).trans q3, h⟩ : w'.cell? ⟨w.heap.size, 0, none⟩ = some (.int .i64 a) ∧ w'.cell? ⟨w.heap.size, 1, none⟩ = some (.int .i64 b) ∧ w'.cell? ⟨w.heap.size + 1, 0, none⟩ = some (.int .i64 c) ∧ w'.cell? ⟨w.heap.size + 1, 1, none⟩ = some (.int .i64 d) ∧ Kept W0.heap.size W0 w'))
  have HK := Kept.start (Nat.le_refl W0.heap.size)
  have hq := trivial
  replace HW := hide HW
  go_enter Try.func13, Try.ntmps13
  go_upto_region 1 with (fail)
  rw [← HW.out]
  go_cut [5, 6] (fun s5 s6 wr => FracAt W0.heap.size W0 wr s5 0 0 ∧ s6 = .bool false)
  case first =>
    go_region_held3 (fun w' => w'.cell? ⟨w.heap.size, 0, none⟩ = some (.int .i64 a) ∧ w'.cell? ⟨w.heap.size, 1, none⟩ = some (.int .i64 b) ∧ w'.cell? ⟨w.heap.size + 1, 0, none⟩ = some (.int .i64 c) ∧ w'.cell? ⟨w.heap.size + 1, 1, none⟩ = some (.int .i64 d) ∧ Kept W0.heap.size W0 w')
      (first | exact mkS.out _ HK | exact mkS.out _ HK.drew | exact mkS.out _ (HK.alloc _) | exact mkS.out _ (HK.drew.alloc _) | exact mkS.out _ (Kept.setCell (Kept.setCell (by first | exact HK | exact HK.alloc _ | exact HK.drew.alloc _) (by have := HK.size; first | omega | (simp; done) | (simp; omega)) _) (by have := HK.size; first | omega | (simp; done) | (simp; omega)) _))
      (first
        | (go_at_call 16; refine (toFrac_any _ _ _).mono ?_; rintro e w1 ⟨rfl, hb⟩; go_must (have HK := Kept.step (by first | assumption | exact HK.drew | exact HK.alloc _ | exact HK.drew.alloc _) hb); (first | (have hq := two_newd hb) | (have hq := two_new hb) | (have hq := two_on hq hb) | skip); have hs := HK.size)
        | (go_at_call 39; refine (specFracBetween_none _ _ _ _ _ hg.out.1 hg.out.2).mono ?_; rintro e w1 ⟨rfl, hb⟩; go_must (have HK := Kept.step (by first | assumption | exact HK.drew | exact HK.alloc _ | exact HK.drew.alloc _) hb); (first | (have hq := two_newd hb) | (have hq := two_new hb) | (have hq := two_on hq hb) | skip); have hs := HK.size))
    all_goals (go_wp2_with fail; go_meet)
    all_goals (first | exact ⟨fracAt_alloc HK, rfl⟩ | exact ⟨fracAt_store hq HK (by omega), rfl⟩)
  case rest =>
    obtain ⟨⟨n, rfl, hn1, hn2, hn3, hn4, HK1⟩, rfl⟩ := hcut
    obtain ⟨wa, rfl⟩ : ∃ wa : World, wa = wc := ⟨_, rfl⟩
    clear HK mkS hq
    have mkS := hide (fun (w' : World) (h : Kept wa.heap.size wa w') => (⟨(h.cells _ _ (by have := HK1.size; omega)).trans ((HK1.cells _ _ (by omega)).trans q0), (h.cells _ _ (by have := HK1.size; omega)).trans ((HK1.cells _ _ (by omega)).trans q1), (h.cells _ _ (by have := HK1.size; omega)).trans ((HK1.cells _ _ (by omega)).trans q2), (h.cells _ _ (by have := HK1.size; omega)).trans ((HK1.cells _ _ (by omega)).trans q3), h⟩ : w'.cell? ⟨w.heap.size, 0, none⟩ = some (.int .i64 a) ∧ w'.cell? ⟨w.heap.size, 1, none⟩ = some (.int .i64 b) ∧ w'.cell? ⟨w.heap.size + 1, 0, none⟩ = some (.int .i64 c) ∧ w'.cell? ⟨w.heap.size + 1, 1, none⟩ = some (.int .i64 d) ∧ Kept wa.heap.size wa w'))
    have HK := Kept.start (Nat.le_refl wa.heap.size)
    have hq := trivial
    have hz' : w.heap.size + 2 ≤ wa.heap.size := by have := HK1.size; omega
    go_upto_region 2 with (fail)
    skip
    go_cut [7, 8] (fun s5 s6 wr => FracAt wa.heap.size wa wr s5 0 0 ∧ s6 = .bool false)
    case first =>
      go_region_held3 (fun w' => w'.cell? ⟨w.heap.size, 0, none⟩ = some (.int .i64 a) ∧ w'.cell? ⟨w.heap.size, 1, none⟩ = some (.int .i64 b) ∧ w'.cell? ⟨w.heap.size + 1, 0, none⟩ = some (.int .i64 c) ∧ w'.cell? ⟨w.heap.size + 1, 1, none⟩ = some (.int .i64 d) ∧ Kept wa.heap.size wa w')
        (first | exact mkS.out _ HK | exact mkS.out _ HK.drew | exact mkS.out _ (HK.alloc _) | exact mkS.out _ (HK.drew.alloc _) | exact mkS.out _ (Kept.setCell (Kept.setCell (by first | exact HK | exact HK.alloc _ | exact HK.drew.alloc _) (by have := HK.size; first | omega | (simp; done) | (simp; omega)) _) (by have := HK.size; first | omega | (simp; done) | (simp; omega)) _))
        (first
          | (go_at_call 16; refine (toFrac_any _ _ _).mono ?_; rintro e w1 ⟨rfl, hb⟩; go_must (have HK := Kept.step (by first | assumption | exact HK.drew | exact HK.alloc _ | exact HK.drew.alloc _) hb); (first | (have hq := two_newd hb) | (have hq := two_new hb) | (have hq := two_on hq hb) | skip); have hs := HK.size)
          | (go_at_call 40; refine (implFracBetween_none _ _ _ _ _ hg.out.1 hg.out.2).mono ?_; rintro e w1 ⟨rfl, hb⟩; go_must (have HK := Kept.step (by first | assumption | exact HK.drew | exact HK.alloc _ | exact HK.drew.alloc _) hb); (first | (have hq := two_newd hb) | (have hq := two_new hb) | (have hq := two_on hq hb) | skip); have hs := HK.size))
      all_goals (go_wp2_with fail; go_meet)
      all_goals (first | exact ⟨fracAt_alloc HK, rfl⟩ | exact ⟨fracAt_store hq HK (by omega), rfl⟩)
    case rest =>
      obtain ⟨⟨n', rfl, hm1, hm2, hm3, hm4, HK2⟩, rfl⟩ := hcut
      have hn3' := (HK2.cells _ _ hn2).trans hn3
      have hn4' := (HK2.cells _ _ hn2).trans hn4
      clear hn3 hn4 q0 q1 q2 q3 mkS hq HK
      go_wp2_with fail
      refine (eqFrac_same _ _ _).mono ?_
      rintro e w5 ⟨rfl, hb⟩
      go_wp2
      go_ret
      exact ⟨rfl, ((hB.out.trans (HK1.1.mono (by omega))).trans (HK2.1.mono (by omega))).trans (hb.mono (by have := HK2.size; omega))⟩

set_option maxHeartbeats 3200000 in
set_option maxRecDepth 100000 in
theorem walk_yes (w : World) (a b c d D : Int) (hg : (fracB a b && fracB c d) = true ∧ 1 ≤ D ∧ D ≤ 100000 ∧ bc a b c d D ∧ (∀ j, 1 ≤ j → j < D → ¬ bc a b c d j) ∧ fracB (bf a b D) D = true) :
    Calls Try.prog 13 #[.agg #[.int .i64 a, .int .i64 b], .agg #[.int .i64 c, .int .i64 d]] w fun e w' => e = .returned (.bool true) ∧ Below w.heap.size w w' := by
  replace hg := hide hg
  obtain ⟨W0, HW⟩ : ∃ W0, W0 = ((w.alloc (.cells #[.int .i64 a, .int .i64 b] 23)).alloc (.cells #[.int .i64 c, .int .i64 d] 23)) := ⟨_, rfl⟩
  have q0 : W0.cell? ⟨w.heap.size, 0, none⟩ = some (.int .i64 a) := by subst HW; go_simp
  have q1 : W0.cell? ⟨w.heap.size, 1, none⟩ = some (.int .i64 b) := by subst HW; go_simp
  have q2 : W0.cell? ⟨w.heap.size + 1, 0, none⟩ = some (.int .i64 c) := by subst HW; go_simp
  have q3 : W0.cell? ⟨w.heap.size + 1, 1, none⟩ = some (.int .i64 d) := by subst HW; go_simp
  have hz : w.heap.size + 2 ≤ W0.heap.size := by subst HW; simp
  have hB : Hid (Below w.heap.size w W0) := by subst HW; exact (by repeat (first | exact Below.refl _ _ | (refine below_drewN ?_ _) | (refine Below.drew ?_) | (refine Below.alloc ?_ (by first | exact Nat.le_refl _ | (simp; done) | (simp; omega) | omega) _) | (refine Below.setCell ?_ (by first | exact Nat.le_refl _ | (simp; done) | (simp; omega) | omega) _) | (refine Below.trans ?_ (Below.mono (by assumption) (by first | exact Nat.le_refl _ | (simp; done) | (simp; omega) | omega)))))
  have mkS := hide (fun (w' : World) (h : Kept W0.heap.size W0 w') => (⟨(h.cells _ _ (by omega)).trans q0, (h.cells _ _ (by omega)).trans q1, (h.cells _ _ (by omega)).trans q2, (h.cells _ _ (by omega)).trans q3, h⟩ : w'.cell? ⟨w.heap.size, 0, none⟩ = some (.int .i64 a) ∧ w'.cell? ⟨w.heap.size, 1, none⟩ = some (.int .i64 b) ∧ w'.cell? ⟨w.heap.size + 1, 0, none⟩ = some (.int .i64 c) ∧ w'.cell? ⟨w.heap.size + 1, 1, none⟩ = some (.int .i64 d) ∧ Kept W0.heap.size W0 w'))
  have HK := Kept.start (Nat.le_refl W0.heap.size)
  have hq := trivial
  replace HW := hide HW
  go_enter Try.func13, Try.ntmps13
  go_upto_region 1 with (fail)
  rw [← HW.out]
  go_cut [5, 6] (fun s5 s6 wr => FracAt W0.heap.size W0 wr s5 (bf a b D) D ∧ s6 = .bool true)
  case first =>
    go_region_held3 (fun w' => w'.cell? ⟨w.heap.size, 0, none⟩ = some (.int .i64 a) ∧ w'.cell? ⟨w.heap.size, 1, none⟩ = some (.int .i64 b) ∧ w'.cell? ⟨w.heap.size + 1, 0, none⟩ = some (.int .i64 c) ∧ w'.cell? ⟨w.heap.size + 1, 1, none⟩ = some (.int .i64 d) ∧ Kept W0.heap.size W0 w')
      (first | exact mkS.out _ HK | exact mkS.out _ HK.drew | exact mkS.out _ (HK.alloc _) | exact mkS.out _ (HK.drew.alloc _) | exact mkS.out _ (Kept.setCell (Kept.setCell (by first | exact HK | exact HK.alloc _ | exact HK.drew.alloc _) (by have := HK.size; first | omega | (simp; done) | (simp; omega)) _) (by have := HK.size; first | omega | (simp; done) | (simp; omega)) _))
      (first
        | (go_at_call 16; refine (toFrac_any _ _ _).mono ?_; rintro e w1 ⟨rfl, hb⟩; go_must (have HK := Kept.step (by first | assumption | exact HK.drew | exact HK.alloc _ | exact HK.drew.alloc _) hb); (first | (have hq := two_newd hb) | (have hq := two_new hb) | (have hq := two_on hq hb) | skip); have hs := HK.size)
        | (go_at_call 39; refine (specFracBetween_yes _ _ _ _ _ hg.out.1 D hg.out.2.1 hg.out.2.2.1 hg.out.2.2.2.1 hg.out.2.2.2.2.1 hg.out.2.2.2.2.2).mono ?_; rintro e w1 ⟨rfl, hb⟩; go_must (have HK := Kept.step (by first | assumption | exact HK.drew | exact HK.alloc _ | exact HK.drew.alloc _) hb); (first | (have hq := two_newd hb) | (have hq := two_new hb) | (have hq := two_on hq hb) | skip); have hs := HK.size))
    all_goals (go_wp2_with fail; go_meet)
    all_goals (first | exact ⟨fracAt_alloc HK, rfl⟩ | exact ⟨fracAt_store hq HK (by omega), rfl⟩)
  case rest =>
    obtain ⟨⟨n, rfl, hn1, hn2, hn3, hn4, HK1⟩, rfl⟩ := hcut
    obtain ⟨wa, rfl⟩ : ∃ wa : World, wa = wc := ⟨_, rfl⟩
    clear HK mkS hq
    have mkS := hide (fun (w' : World) (h : Kept wa.heap.size wa w') => (⟨(h.cells _ _ (by have := HK1.size; omega)).trans ((HK1.cells _ _ (by omega)).trans q0), (h.cells _ _ (by have := HK1.size; omega)).trans ((HK1.cells _ _ (by omega)).trans q1), (h.cells _ _ (by have := HK1.size; omega)).trans ((HK1.cells _ _ (by omega)).trans q2), (h.cells _ _ (by have := HK1.size; omega)).trans ((HK1.cells _ _ (by omega)).trans q3), h⟩ : w'.cell? ⟨w.heap.size, 0, none⟩ = some (.int .i64 a) ∧ w'.cell? ⟨w.heap.size, 1, none⟩ = some (.int .i64 b) ∧ w'.cell? ⟨w.heap.size + 1, 0, none⟩ = some (.int .i64 c) ∧ w'.cell? ⟨w.heap.size + 1, 1, none⟩ = some (.int .i64 d) ∧ Kept wa.heap.size wa w'))
    have HK := Kept.start (Nat.le_refl wa.heap.size)
    have hq := trivial
    have hz' : w.heap.size + 2 ≤ wa.heap.size := by have := HK1.size; omega
    go_upto_region 2 with (fail)
    skip
    go_cut [7, 8] (fun s5 s6 wr => FracAt wa.heap.size wa wr s5 (bf a b D) D ∧ s6 = .bool true)
    case first =>
      go_region_held3 (fun w' => w'.cell? ⟨w.heap.size, 0, none⟩ = some (.int .i64 a) ∧ w'.cell? ⟨w.heap.size, 1, none⟩ = some (.int .i64 b) ∧ w'.cell? ⟨w.heap.size + 1, 0, none⟩ = some (.int .i64 c) ∧ w'.cell? ⟨w.heap.size + 1, 1, none⟩ = some (.int .i64 d) ∧ Kept wa.heap.size wa w')
        (first | exact mkS.out _ HK | exact mkS.out _ HK.drew | exact mkS.out _ (HK.alloc _) | exact mkS.out _ (HK.drew.alloc _) | exact mkS.out _ (Kept.setCell (Kept.setCell (by first | exact HK | exact HK.alloc _ | exact HK.drew.alloc _) (by have := HK.size; first | omega | (simp; done) | (simp; omega)) _) (by have := HK.size; first | omega | (simp; done) | (simp; omega)) _))
        (first
          | (go_at_call 16; refine (toFrac_any _ _ _).mono ?_; rintro e w1 ⟨rfl, hb⟩; go_must (have HK := Kept.step (by first | assumption | exact HK.drew | exact HK.alloc _ | exact HK.drew.alloc _) hb); (first | (have hq := two_newd hb) | (have hq := two_new hb) | (have hq := two_on hq hb) | skip); have hs := HK.size)
          | (go_at_call 40; refine (implFracBetween_yes _ _ _ _ _ hg.out.1 D hg.out.2.1 hg.out.2.2.1 hg.out.2.2.2.1 hg.out.2.2.2.2.1 hg.out.2.2.2.2.2).mono ?_; rintro e w1 ⟨rfl, hb⟩; go_must (have HK := Kept.step (by first | assumption | exact HK.drew | exact HK.alloc _ | exact HK.drew.alloc _) hb); (first | (have hq := two_newd hb) | (have hq := two_new hb) | (have hq := two_on hq hb) | skip); have hs := HK.size))
      all_goals (go_wp2_with fail; go_meet)
      all_goals (first | exact ⟨fracAt_alloc HK, rfl⟩ | exact ⟨fracAt_store hq HK (by omega), rfl⟩)
    case rest =>
      obtain ⟨⟨n', rfl, hm1, hm2, hm3, hm4, HK2⟩, rfl⟩ := hcut
      have hn3' := (HK2.cells _ _ hn2).trans hn3
      have hn4' := (HK2.cells _ _ hn2).trans hn4
      clear hn3 hn4 q0 q1 q2 q3 mkS hq HK
      go_wp2_with fail
      refine (eqFrac_same _ _ _).mono ?_
      rintro e w5 ⟨rfl, hb⟩
      go_wp2
      go_ret
      exact ⟨rfl, ((hB.out.trans (HK1.1.mono (by omega))).trans (HK2.1.mono (by omega))).trans (hb.mono (by have := HK2.size; omega))⟩

theorem walk (w : World) (a b : Int) (w0 : (Lit.int .i64 a).wf = true) (x0 : (Lit.int .i64 b).wf = true) (c d : Int) (w1 : (Lit.int .i64 c).wf = true) (x1 : (Lit.int .i64 d).wf = true) :
    Calls Try.prog 13 #[.agg #[.int .i64 a, .int .i64 b], .agg #[.int .i64 c, .int .i64 d]] w fun e w' => e = .returned (.bool true) ∧ Below w.heap.size w w' := by
  cases hg : (fracB a b && fracB c d)
  · exact walk_no w a b c d hg
  · obtain ⟨a1, _, _, _, c1, _, _, _⟩ := two_bd hg
    rcases between_cases a b c d a1 c1 with ⟨D, h1, h2, h3, h4, h5⟩ | h
    · exact walk_yes w a b c d D ⟨hg, h1, h2, h3, h4, h5⟩
    · exact walk_none w a b c d ⟨hg, h⟩

set_option maxRecDepth 100000 in
theorem lifted (os : Os) (started : os.Started) (H : Type) (enc : TypeId × Value → H) :
    ReturnsInHanded {} Try.checked os 13 .any (Rows.fnExactFracBetweenSpec.pre6 enc Try.prog Try.f13 Rows.fnExactFracBetweenRow.domain false) (Rows.fnExactFracBetweenSpec.post enc Try.prog Try.f13 false true false false) := by
  refine returnsInHanded_of_change (C := Try.checked) own started (by kernel_rfl) Try.func13
    (ChangeSpec.witness6 (enc := enc) (C := Try.checked) false ⟨#[], #[.agg #[.int .i64 0, .int .i64 0], .agg #[.int .i64 0, .int .i64 0]], []⟩ 8 (by kernel_rfl) (by kernel_rfl) (by kernel_rfl) (by kernel_rfl)) ?_
  intro W base args ds gs before hval0 hW hcnd _
  have hval : ∀ (j : Nat) t v, Try.f13.params[j]? = some t → args[j]? = some v → Value.okWide Try.prog W .any base t v := hval0
  have hW' := hW
  obtain ⟨p, q, hA0, hV, rfl, hfz, hnd⟩ := hW
  have hA : DataW.TrodAll enc Try.prog W 0 (fun _ => true) true Try.f13.params.toList args.toList ds p := hA0
  rw [Try.params13] at hA hval
  obtain ⟨v0, vs0, d0, ds0, p0, q0, hargs, rfl, rfl, h0, r0⟩ := trodAll_cons hA
  obtain ⟨v1, vs1, d1, ds1, p1, q1, rfl, rfl, rfl, h1, r1⟩ := trodAll_cons r0
  obtain ⟨rfl, rfl, rfl⟩ := trodAll_nil r1
  obtain rfl : args = #[v0, v1] := by cases args; simp_all
  obtain ⟨rfl, rfl⟩ := trodVars_none hV
  have k0 := h0
  have lt0 : ∀ x ∈ p0, x.block < W.heap.size := by obtain ⟨m, hm⟩ := k0; exact DataW.trod_lt m _ _ _ hm
  obtain ⟨a0, b0, rfl, w0, x0⟩ := frac_of (hval 0 23 v0 rfl rfl) h0
  have k1 := h1
  have lt1 : ∀ x ∈ p1, x.block < W.heap.size := by obtain ⟨m, hm⟩ := k1; exact DataW.trod_lt m _ _ _ hm
  obtain ⟨a1, b1, rfl, w1, x1⟩ := frac_of (hval 1 23 v1 rfl rfl) h1
  clear hA0 hval0
  refine (walk W a0 b0 w0 x0 a1 b1 w1 x1).mono fun e W' ⟨he, bel⟩ => ?_
  subst he
  exact ⟨_, rfl, _, _, _, [], _, [], hW', trodAll_mk1 (shut_bool Try.underlying4 _), (trodAll_cons_mk (Below.trod laidOut (by kernel_rfl) (of_decide_eq_true (by kernel_rfl)) k0 bel lt0) (trodAll_cons_mk (Below.trod laidOut (by kernel_rfl) (of_decide_eq_true (by kernel_rfl)) k1 bel lt1) trodAll_mk0)), rfl, bel.frame _, fun h => by cases h⟩

theorem over : Rows.fnExactFracBetweenRow.holds Try.pinned (OpenSpec.ofChange Rows.fnExactFracBetweenSpec) :=
  OpenClaim.holds_of_wide 13 Try.f13 rfl rfl rfl rfl rfl rfl rfl ⟨rfl, rfl, rfl, rfl, rfl⟩ rfl rfl rfl rfl rfl (by kernel_rfl) Try.func13 (by kernel_rfl)
    (of_decide_eq_true (by kernel_rfl)) (by unfold Func.isWrapper; first | (rw [if_pos (by decide +kernel)]; kernel_rfl) | (rw [if_neg (by decide +kernel)]; exact ⟨rfl, rfl⟩))
    (fun os started H enc _ => lifted os started H enc)

theorem proved : Rows.FnExactFracBetweenSaid := over
#print axioms proved
end Go.Proofs.Ytainbffcnaafkaa.fnExactFracBetween
