/- The difference and the quotient of two fractions, exported by the reference and by the program: what they return; no conditions. -/
import Derived.Test.YtainbffcnaafkaaAddMul
import Derived.Deep.RegionHeld3
namespace Go.Proofs.Ytainbffcnaafkaa
open Go.RowKit

theorem l2Neg_any (c d : Int) (w : World) (h1 : -100000000 ≤ c) (h2 : c ≤ 100000000) :
    Calls Try.prog 67 #[.agg #[.int .i64 c, .int .i64 d]] w fun e w' => e = .returned (.agg #[.int .i64 (-c), .int .i64 d]) ∧ Below w.heap.size w w' := by
  go_enter Try.func67, Try.ntmps67
  go_wp2
  refine bodyPost_ret (v := .agg #[.int .i64 (-c), .int .i64 d]) (by simp [results, Try.results67, go_sem]) rfl ⟨rfl, (by repeat (first | exact Below.refl _ _ | (refine below_drewN ?_ _) | (refine Below.drew ?_) | (refine Below.alloc ?_ (by first | exact Nat.le_refl _ | (simp; done) | (simp; omega) | omega) _) | (refine Below.setCell ?_ (by first | exact Nat.le_refl _ | (simp; done) | (simp; omega) | omega) _) | (refine Below.trans ?_ (Below.mono (by assumption) (by first | exact Nat.le_refl _ | (simp; done) | (simp; omega) | omega)))))⟩

set_option maxRecDepth 100000 in
theorem l2Sub_any (a b c d : Int) (w : World) (h1 : -10000000000000000 ≤ a * d) (h2 : a * d ≤ 10000000000000000) (h3 : -10000000000000000 ≤ c * b) (h4 : c * b ≤ 10000000000000000) (h5 : 1 ≤ b * d) (h6 : b * d ≤ 10000000000000000) (h7 : -100000000 ≤ c) (h8 : c ≤ 100000000) :
    Calls Try.prog 58 #[.agg #[.int .i64 a, .int .i64 b], .agg #[.int .i64 c, .int .i64 d]] w fun e w' => e = .returned (.tuple #[.agg #[.int .i64 (mkN (a * d - c * b) (b * d)), .int .i64 (mkD (a * d - c * b) (b * d))], .bool (mkB (a * d - c * b) (b * d))]) ∧ Below w.heap.size w w' := by
  have HE : Hid (a * d + -c * b = a * d - c * b) := by unfold Hid; rw [Int.neg_mul]; omega
  have h3' : -100000000000000000 ≤ -c * b := by rw [Int.neg_mul]; omega
  have h4' : -c * b ≤ 100000000000000000 := by rw [Int.neg_mul]; omega
  obtain ⟨W0, HW⟩ : ∃ W0, W0 = ((w.alloc (.cells #[.int .i64 a, .int .i64 b] 26)).alloc (.cells #[.int .i64 c, .int .i64 d] 26)) := ⟨_, rfl⟩
  have q0 : W0.cell? ⟨w.heap.size, 0, none⟩ = some (.int .i64 a) := by subst HW; go_simp
  have q1 : W0.cell? ⟨w.heap.size, 1, none⟩ = some (.int .i64 b) := by subst HW; go_simp
  have q2 : W0.cell? ⟨w.heap.size + 1, 0, none⟩ = some (.int .i64 c) := by subst HW; go_simp
  have q3 : W0.cell? ⟨w.heap.size + 1, 1, none⟩ = some (.int .i64 d) := by subst HW; go_simp
  have hz : Hid (W0.heap.size = w.heap.size + 1 + 1) := by subst HW; simp [Hid]
  have hB : Hid (Below w.heap.size w W0) := by subst HW; exact (by repeat (first | exact Below.refl _ _ | (refine below_drewN ?_ _) | (refine Below.drew ?_) | (refine Below.alloc ?_ (by first | exact Nat.le_refl _ | (simp; done) | (simp; omega) | omega) _) | (refine Below.setCell ?_ (by first | exact Nat.le_refl _ | (simp; done) | (simp; omega) | omega) _) | (refine Below.trans ?_ (Below.mono (by assumption) (by first | exact Nat.le_refl _ | (simp; done) | (simp; omega) | omega)))))
  have mkS := hide (fun (w' : World) (h : Kept W0.heap.size W0 w') => (⟨(h.cells _ _ (by rw [hz.out]; omega)).trans q0, (h.cells _ _ (by rw [hz.out]; omega)).trans q1, (h.cells _ _ (by rw [hz.out]; omega)).trans q2, (h.cells _ _ (by rw [hz.out]; omega)).trans q3, h⟩ : w'.cell? ⟨w.heap.size, 0, none⟩ = some (.int .i64 a) ∧ w'.cell? ⟨w.heap.size, 1, none⟩ = some (.int .i64 b) ∧ w'.cell? ⟨w.heap.size + 1, 0, none⟩ = some (.int .i64 c) ∧ w'.cell? ⟨w.heap.size + 1, 1, none⟩ = some (.int .i64 d) ∧ Kept W0.heap.size W0 w'))
  have HK : Kept W0.heap.size W0 (W0.alloc (.cells #[.int .i64 0, .int .i64 0] 26)) := (Kept.start (Nat.le_refl W0.heap.size)).alloc _
  obtain ⟨W1, HW1⟩ : ∃ W1, W1 = W0.alloc (.cells #[.int .i64 0, .int .i64 0] 26) := ⟨_, rfl⟩
  have hq : W1.cell? ⟨w.heap.size + 1 + 1, 0, none⟩ = some (.int .i64 0) ∧ W1.cell? ⟨w.heap.size + 1 + 1, 1, none⟩ = some (.int .i64 0) ∧ W1.frozen? ⟨w.heap.size + 1 + 1, 0, none⟩ = false ∧ W1.frozen? ⟨w.heap.size + 1 + 1, 1, none⟩ = false ∧ w.heap.size + 1 + 1 < W1.heap.size := by
    subst HW1
    rw [← hz.out]
    refine ⟨?_, ?_, ?_, ?_, by simp⟩ <;> go_simp
  rw [← HW1] at HK
  replace HW := hide HW
  replace HW1 := hide HW1
  have hz2 : w.heap.size + 1 + 1 ≤ W0.heap.size := Nat.le_of_eq hz.out.symm
  have hz3 : W0.heap.size ≤ w.heap.size + 1 + 1 := Nat.le_of_eq hz.out
  go_enter Try.func58, Try.ntmps58
  go_wp2_with fail
  rw [← HW.out, ← HW1.out]
  go_region_held3 (fun w' => w'.cell? ⟨w.heap.size, 0, none⟩ = some (.int .i64 a) ∧ w'.cell? ⟨w.heap.size, 1, none⟩ = some (.int .i64 b) ∧ w'.cell? ⟨w.heap.size + 1, 0, none⟩ = some (.int .i64 c) ∧ w'.cell? ⟨w.heap.size + 1, 1, none⟩ = some (.int .i64 d) ∧ Kept W0.heap.size W0 w')
    (first | exact mkS.out _ HK | exact mkS.out _ HK.drew | exact mkS.out _ (Kept.setCell (Kept.setCell HK (by first | omega | (simp; omega)) _) (by first | omega | (simp; omega)) _))
    (first
      | (go_at_call 67; refine (l2Neg_any _ _ _ (by omega) (by omega)).mono ?_; rintro e w1 ⟨rfl, hb⟩; go_must (have HK := Kept.step (by first | assumption | exact HK.drew) hb); go_must ((first | (have hq := two_on hq hb) | (have hq := two_on (w1 := W1.drew) hq hb))))
      | (go_at_call 57; refine (l2Add_any _ _ _ _ _ (by omega) (by omega) (by omega) (by omega) (by omega) (by omega)).mono ?_; rintro e w1 ⟨rfl, hb⟩; go_must (have HK := Kept.step (by first | assumption | exact HK.drew) hb); go_must ((first | (have hq := two_on hq hb) | (have hq := two_on (w1 := W1.drew) hq hb)))))
  obtain ⟨r0, r1⟩ := two_cells hq.1 hq.2.1
  go_wp2
  rw [← HE.out]
  refine bodyPost_ret (v := .tuple #[.agg #[.int .i64 (mkN (a * d + -c * b) (b * d)), .int .i64 (mkD (a * d + -c * b) (b * d))], .bool (mkB (a * d + -c * b) (b * d))]) (by simp [results, Try.results58, go_sem, r0, r1]) rfl ⟨rfl, ?_⟩
  exact Below.setCell (Below.setCell (hB.out.trans (HK.1.mono (by omega))) (by first | omega | (simp; omega)) _) (by first | omega | (simp; omega)) _

theorem specSubFracs_no (a b c d : Int) (w : World) (hg : (fracB a b && fracB c d) = false) :
    Calls Try.prog 27 #[.agg #[.int .i64 a, .int .i64 b], .agg #[.int .i64 c, .int .i64 d]] w fun e w' => e = .returned (.tuple #[.agg #[.int .i64 0, .int .i64 0], .bool false]) ∧ Below w.heap.size w w' := by
  replace hg := hide hg
  have HK := Kept.start (Nat.le_refl (((w.alloc (.cells #[.int .i64 a, .int .i64 b] 26)).alloc (.cells #[.int .i64 c, .int .i64 d] 26)).alloc (.cells #[.int .i64 0, .int .i64 0] 26)).heap.size)
  have hc := trivial
  have hf := trivial
  go_enter Try.func27, Try.ntmps27
  go_wp2_with fail
  refine (l2Two_any _ _ _ _ _).mono ?_
  rintro e w1 ⟨rfl, hb⟩
  rw [hg.out]
  replace HK := HK.step hb
  clear hb hc hf
  have hc := HK.cells
  have hf := HK.frozen
  obtain ⟨r0, r1⟩ := two_cells (w := w1) (b := w.heap.size + 1 + 1) (x := .int .i64 0) (y := .int .i64 0) (by rw [hc _ _ (by first | (simp; done) | (simp; omega) | omega)]; go_simp) (by rw [hc _ _ (by first | (simp; done) | (simp; omega) | omega)]; go_simp)
  go_wp2
  refine bodyPost_ret (v := .tuple #[.agg #[.int .i64 0, .int .i64 0], .bool false]) (by simp [results, Try.results27, go_sem, r0, r1]) rfl ⟨rfl, ?_⟩
  exact Below.setCell (Below.setCell (HK.below (by repeat (first | exact Below.refl _ _ | (refine below_drewN ?_ _) | (refine Below.drew ?_) | (refine Below.alloc ?_ (by first | exact Nat.le_refl _ | (simp; done) | (simp; omega) | omega) _) | (refine Below.setCell ?_ (by first | exact Nat.le_refl _ | (simp; done) | (simp; omega) | omega) _) | (refine Below.trans ?_ (Below.mono (by assumption) (by first | exact Nat.le_refl _ | (simp; done) | (simp; omega) | omega))))) (by first | (simp; done) | (simp; omega) | omega)) (by first | (simp; done) | (simp; omega) | omega) _) (by first | (simp; done) | (simp; omega) | omega) _

theorem specSubFracs_yes (a b c d : Int) (w : World) (hg : (fracB a b && fracB c d) = true) :
    Calls Try.prog 27 #[.agg #[.int .i64 a, .int .i64 b], .agg #[.int .i64 c, .int .i64 d]] w fun e w' => e = .returned (.tuple #[.agg #[.int .i64 (mkN (a * d - c * b) (b * d)), .int .i64 (mkD (a * d - c * b) (b * d))], .bool (mkB (a * d - c * b) (b * d))]) ∧ Below w.heap.size w w' := by
  obtain ⟨a1, a2, a3, a4, c1, c2, c3, c4⟩ := two_bd hg
  obtain ⟨p1, p2⟩ := prod_bd a d 100000000 100000 (by omega) (by omega) (by omega) (by omega)
  obtain ⟨p3, p4⟩ := prod_bd c b 100000000 100000 (by omega) (by omega) (by omega) (by omega)
  obtain ⟨p5, p6⟩ := prod_bd b d 100000 100000 (by omega) (by omega) (by omega) (by omega)
  obtain ⟨p7, p8⟩ := prod_bd a c 100000000 100000000 (by omega) (by omega) (by omega) (by omega)
  have p9 := prod_pos b d (by omega) (by omega)
  replace hg := hide hg
  have HK := Kept.start (Nat.le_refl (((w.alloc (.cells #[.int .i64 a, .int .i64 b] 26)).alloc (.cells #[.int .i64 c, .int .i64 d] 26)).alloc (.cells #[.int .i64 0, .int .i64 0] 26)).heap.size)
  have hc := trivial
  have hf := trivial
  go_enter Try.func27, Try.ntmps27
  go_wp2_with fail
  refine (l2Two_any _ _ _ _ _).mono ?_
  rintro e w1 ⟨rfl, hb⟩
  rw [hg.out]
  replace HK := HK.step hb
  clear hb hc hf
  have hc := HK.cells
  have hf := HK.frozen
  go_wp2_with fail
  refine (l2Sub_any _ _ _ _ _ (by omega) (by omega) (by omega) (by omega) (by omega) (by omega) (by omega) (by omega)).mono ?_
  rintro e w2 ⟨rfl, hb⟩
  replace HK := HK.step hb
  clear hb hc hf
  have hc := HK.cells
  have hf := HK.frozen
  obtain ⟨r0, r1⟩ := two_cells (w := w2) (b := w.heap.size + 1 + 1) (x := .int .i64 0) (y := .int .i64 0) (by rw [hc _ _ (by first | (simp; done) | (simp; omega) | omega)]; go_simp) (by rw [hc _ _ (by first | (simp; done) | (simp; omega) | omega)]; go_simp)
  go_wp2
  refine bodyPost_ret (v := .tuple #[.agg #[.int .i64 (mkN (a * d - c * b) (b * d)), .int .i64 (mkD (a * d - c * b) (b * d))], .bool (mkB (a * d - c * b) (b * d))]) (by simp [results, Try.results27, go_sem, r0, r1]) rfl ⟨rfl, ?_⟩
  exact Below.setCell (Below.setCell (HK.below (by repeat (first | exact Below.refl _ _ | (refine below_drewN ?_ _) | (refine Below.drew ?_) | (refine Below.alloc ?_ (by first | exact Nat.le_refl _ | (simp; done) | (simp; omega) | omega) _) | (refine Below.setCell ?_ (by first | exact Nat.le_refl _ | (simp; done) | (simp; omega) | omega) _) | (refine Below.trans ?_ (Below.mono (by assumption) (by first | exact Nat.le_refl _ | (simp; done) | (simp; omega) | omega))))) (by first | (simp; done) | (simp; omega) | omega)) (by first | (simp; done) | (simp; omega) | omega) _) (by first | (simp; done) | (simp; omega) | omega) _

theorem implSubFracs_no (a b c d : Int) (w : World) (hg : (fracB a b && fracB c d) = false) :
    Calls Try.prog 28 #[.agg #[.int .i64 a, .int .i64 b], .agg #[.int .i64 c, .int .i64 d]] w fun e w' => e = .returned (.tuple #[.agg #[.int .i64 0, .int .i64 0], .bool false]) ∧ Below w.heap.size w w' := by
  replace hg := hide hg
  have HK := Kept.start (Nat.le_refl (((w.alloc (.cells #[.int .i64 a, .int .i64 b] 26)).alloc (.cells #[.int .i64 c, .int .i64 d] 26)).alloc (.cells #[.int .i64 0, .int .i64 0] 26)).heap.size)
  have hc := trivial
  have hf := trivial
  go_enter Try.func28, Try.ntmps28
  go_wp2_with fail
  refine (areFracs_any _ _ _ _ _).mono ?_
  rintro e w1 ⟨rfl, hb⟩
  rw [hg.out]
  replace HK := HK.step hb
  clear hb hc hf
  have hc := HK.cells
  have hf := HK.frozen
  obtain ⟨r0, r1⟩ := two_cells (w := w1) (b := w.heap.size + 1 + 1) (x := .int .i64 0) (y := .int .i64 0) (by rw [hc _ _ (by first | (simp; done) | (simp; omega) | omega)]; go_simp) (by rw [hc _ _ (by first | (simp; done) | (simp; omega) | omega)]; go_simp)
  go_wp2
  refine bodyPost_ret (v := .tuple #[.agg #[.int .i64 0, .int .i64 0], .bool false]) (by simp [results, Try.results28, go_sem, r0, r1]) rfl ⟨rfl, ?_⟩
  exact Below.setCell (Below.setCell (HK.below (by repeat (first | exact Below.refl _ _ | (refine below_drewN ?_ _) | (refine Below.drew ?_) | (refine Below.alloc ?_ (by first | exact Nat.le_refl _ | (simp; done) | (simp; omega) | omega) _) | (refine Below.setCell ?_ (by first | exact Nat.le_refl _ | (simp; done) | (simp; omega) | omega) _) | (refine Below.trans ?_ (Below.mono (by assumption) (by first | exact Nat.le_refl _ | (simp; done) | (simp; omega) | omega))))) (by first | (simp; done) | (simp; omega) | omega)) (by first | (simp; done) | (simp; omega) | omega) _) (by first | (simp; done) | (simp; omega) | omega) _

theorem implSubFracs_yes (a b c d : Int) (w : World) (hg : (fracB a b && fracB c d) = true) :
    Calls Try.prog 28 #[.agg #[.int .i64 a, .int .i64 b], .agg #[.int .i64 c, .int .i64 d]] w fun e w' => e = .returned (.tuple #[.agg #[.int .i64 (mkN (a * d - c * b) (b * d)), .int .i64 (mkD (a * d - c * b) (b * d))], .bool (mkB (a * d - c * b) (b * d))]) ∧ Below w.heap.size w w' := by
  obtain ⟨a1, a2, a3, a4, c1, c2, c3, c4⟩ := two_bd hg
  obtain ⟨p1, p2⟩ := prod_bd a d 100000000 100000 (by omega) (by omega) (by omega) (by omega)
  obtain ⟨p3, p4⟩ := prod_bd c b 100000000 100000 (by omega) (by omega) (by omega) (by omega)
  obtain ⟨p5, p6⟩ := prod_bd b d 100000 100000 (by omega) (by omega) (by omega) (by omega)
  obtain ⟨p7, p8⟩ := prod_bd a c 100000000 100000000 (by omega) (by omega) (by omega) (by omega)
  have p9 := prod_pos b d (by omega) (by omega)
  replace hg := hide hg
  have HK := Kept.start (Nat.le_refl (((w.alloc (.cells #[.int .i64 a, .int .i64 b] 26)).alloc (.cells #[.int .i64 c, .int .i64 d] 26)).alloc (.cells #[.int .i64 0, .int .i64 0] 26)).heap.size)
  have hc := trivial
  have hf := trivial
  go_enter Try.func28, Try.ntmps28
  go_wp2_with fail
  refine (areFracs_any _ _ _ _ _).mono ?_
  rintro e w1 ⟨rfl, hb⟩
  rw [hg.out]
  replace HK := HK.step hb
  clear hb hc hf
  have hc := HK.cells
  have hf := HK.frozen
  go_wp2_with fail
  refine (makeFrac_any _ _ _ (by omega) (by omega) (by omega) (by omega)).mono ?_
  rintro e w2 ⟨rfl, hb⟩
  replace HK := HK.step hb
  clear hb hc hf
  have hc := HK.cells
  have hf := HK.frozen
  obtain ⟨r0, r1⟩ := two_cells (w := w2) (b := w.heap.size + 1 + 1) (x := .int .i64 0) (y := .int .i64 0) (by rw [hc _ _ (by first | (simp; done) | (simp; omega) | omega)]; go_simp) (by rw [hc _ _ (by first | (simp; done) | (simp; omega) | omega)]; go_simp)
  go_wp2
  refine bodyPost_ret (v := .tuple #[.agg #[.int .i64 (mkN (a * d - c * b) (b * d)), .int .i64 (mkD (a * d - c * b) (b * d))], .bool (mkB (a * d - c * b) (b * d))]) (by simp [results, Try.results28, go_sem, r0, r1]) rfl ⟨rfl, ?_⟩
  exact Below.setCell (Below.setCell (HK.below (by repeat (first | exact Below.refl _ _ | (refine below_drewN ?_ _) | (refine Below.drew ?_) | (refine Below.alloc ?_ (by first | exact Nat.le_refl _ | (simp; done) | (simp; omega) | omega) _) | (refine Below.setCell ?_ (by first | exact Nat.le_refl _ | (simp; done) | (simp; omega) | omega) _) | (refine Below.trans ?_ (Below.mono (by assumption) (by first | exact Nat.le_refl _ | (simp; done) | (simp; omega) | omega))))) (by first | (simp; done) | (simp; omega) | omega)) (by first | (simp; done) | (simp; omega) | omega) _) (by first | (simp; done) | (simp; omega) | omega) _
end Go.Proofs.Ytainbffcnaafkaa
