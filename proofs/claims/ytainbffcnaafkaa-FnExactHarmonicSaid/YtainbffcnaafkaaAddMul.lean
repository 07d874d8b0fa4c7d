/- The sum and the product of two fractions, exported by the reference and by the program: what they return; no conditions. -/
import Derived.Test.YtainbffcnaafkaaTwo
namespace Go.Proofs.Ytainbffcnaafkaa
open Go.RowKit

theorem prod_bd (a d M K : Int) (h1 : -M ≤ a) (h2 : a ≤ M) (h3 : -K ≤ d) (h4 : d ≤ K) : -(M * K) ≤ a * d ∧ a * d ≤ M * K := by
  have hm : 0 ≤ M := by omega
  have hk : 0 ≤ K := by omega
  have e1 : (a * d).natAbs ≤ (M * K).natAbs := by
    rw [Int.natAbs_mul, Int.natAbs_mul]
    exact Nat.mul_le_mul (by omega) (by omega)
  have e2 : 0 ≤ M * K := Int.mul_nonneg hm hk
  omega
theorem prod_pos (b d : Int) (h1 : 1 ≤ b) (h2 : 1 ≤ d) : 1 ≤ b * d := Int.mul_pos (by omega) (by omega)
theorem two_bd {a b c d : Int} (h : (fracB a b && fracB c d) = true) : 1 ≤ b ∧ b ≤ 100000 ∧ -100000000 ≤ a ∧ a ≤ 100000000 ∧ 1 ≤ d ∧ d ≤ 100000 ∧ -100000000 ≤ c ∧ c ≤ 100000000 := by
  rw [Bool.and_eq_true] at h
  have := frac_bd h.1
  have := frac_bd h.2
  omega

theorem specAddFracs_no (a b c d : Int) (w : World) (hg : (fracB a b && fracB c d) = false) :
    Calls Try.prog 25 #[.agg #[.int .i64 a, .int .i64 b], .agg #[.int .i64 c, .int .i64 d]] w fun e w' => e = .returned (.tuple #[.agg #[.int .i64 0, .int .i64 0], .bool false]) ∧ Below w.heap.size w w' := by
  replace hg := hide hg
  have HK := Kept.start (Nat.le_refl (((w.alloc (.cells #[.int .i64 a, .int .i64 b] 26)).alloc (.cells #[.int .i64 c, .int .i64 d] 26)).alloc (.cells #[.int .i64 0, .int .i64 0] 26)).heap.size)
  have hc := trivial
  have hf := trivial
  go_enter Try.func25, Try.ntmps25
  go_wp2_with fail
  refine (l2Two_any _ _ _ _ _).mono ?_
  rintro e w1 ⟨rfl, hb⟩
  rw [hg.out]
  replace HK := HK.step hb
  clear hb hc hf
  have hc := HK.cells
  have hf := HK.frozen
  obtain ⟨r0, r1⟩ := two_cells (w := w1) (b := w.heap.size + 1 + 1) (x := .int .i64 0) (y := .int .i64 0) (by rw [hc _ _ (by first | (simp; done) | (simp; omega) | omega)]; go_simp) (by rw [hc _ _ (by first | (simp; done) | (simp; omega) | omega)]; go_simp)
  go_wp2
  refine bodyPost_ret (v := .tuple #[.agg #[.int .i64 0, .int .i64 0], .bool false]) (by simp [results, Try.results25, go_sem, r0, r1]) rfl ⟨rfl, ?_⟩
  exact Below.setCell (Below.setCell (HK.below (by repeat (first | exact Below.refl _ _ | (refine below_drewN ?_ _) | (refine Below.drew ?_) | (refine Below.alloc ?_ (by first | exact Nat.le_refl _ | (simp; done) | (simp; omega) | omega) _) | (refine Below.setCell ?_ (by first | exact Nat.le_refl _ | (simp; done) | (simp; omega) | omega) _) | (refine Below.trans ?_ (Below.mono (by assumption) (by first | exact Nat.le_refl _ | (simp; done) | (simp; omega) | omega))))) (by first | (simp; done) | (simp; omega) | omega)) (by first | (simp; done) | (simp; omega) | omega) _) (by first | (simp; done) | (simp; omega) | omega) _

theorem specAddFracs_yes (a b c d : Int) (w : World) (hg : (fracB a b && fracB c d) = true) :
    Calls Try.prog 25 #[.agg #[.int .i64 a, .int .i64 b], .agg #[.int .i64 c, .int .i64 d]] w fun e w' => e = .returned (.tuple #[.agg #[.int .i64 (mkN (a * d + c * b) (b * d)), .int .i64 (mkD (a * d + c * b) (b * d))], .bool (mkB (a * d + c * b) (b * d))]) ∧ Below w.heap.size w w' := by
  obtain ⟨a1, a2, a3, a4, c1, c2, c3, c4⟩ := two_bd hg
  obtain ⟨p1, p2⟩ := prod_bd a d 100000000 100000 (by omega) (by omega) (by omega) (by omega)
  obtain ⟨p3, p4⟩ := prod_bd c b 100000000 100000 (by omega) (by omega) (by omega) (by omega)
  obtain ⟨p5, p6⟩ := prod_bd b d 100000 100000 (by omega) (by omega) (by omega) (by omega)
  obtain ⟨p7, p8⟩ := prod_bd a c 100000000 100000000 (by omega) (by omega) (by omega) (by omega)
  have p9 := prod_pos b d (by omega) (by omega)
  replace hg := hide hg
  have HK := Kept.start (Nat.le_refl (((w.alloc (.cells #[.int .i64 a, .int .i64 b] 26)).alloc (.cells #[.int .i64 c, .int .i64 d] 26)).alloc (.cells #[.int .i64 0, .int .i64 0] 26)).heap.size)
  have hc := trivial
  have hf := trivial
  go_enter Try.func25, Try.ntmps25
  go_wp2_with fail
  refine (l2Two_any _ _ _ _ _).mono ?_
  rintro e w1 ⟨rfl, hb⟩
  rw [hg.out]
  replace HK := HK.step hb
  clear hb hc hf
  have hc := HK.cells
  have hf := HK.frozen
  go_wp2_with fail
  refine (l2Add_any _ _ _ _ _ (by omega) (by omega) (by omega) (by omega) (by omega) (by omega)).mono ?_
  rintro e w2 ⟨rfl, hb⟩
  replace HK := HK.step hb
  clear hb hc hf
  have hc := HK.cells
  have hf := HK.frozen
  obtain ⟨r0, r1⟩ := two_cells (w := w2) (b := w.heap.size + 1 + 1) (x := .int .i64 0) (y := .int .i64 0) (by rw [hc _ _ (by first | (simp; done) | (simp; omega) | omega)]; go_simp) (by rw [hc _ _ (by first | (simp; done) | (simp; omega) | omega)]; go_simp)
  go_wp2
  refine bodyPost_ret (v := .tuple #[.agg #[.int .i64 (mkN (a * d + c * b) (b * d)), .int .i64 (mkD (a * d + c * b) (b * d))], .bool (mkB (a * d + c * b) (b * d))]) (by simp [results, Try.results25, go_sem, r0, r1]) rfl ⟨rfl, ?_⟩
  exact Below.setCell (Below.setCell (HK.below (by repeat (first | exact Below.refl _ _ | (refine below_drewN ?_ _) | (refine Below.drew ?_) | (refine Below.alloc ?_ (by first | exact Nat.le_refl _ | (simp; done) | (simp; omega) | omega) _) | (refine Below.setCell ?_ (by first | exact Nat.le_refl _ | (simp; done) | (simp; omega) | omega) _) | (refine Below.trans ?_ (Below.mono (by assumption) (by first | exact Nat.le_refl _ | (simp; done) | (simp; omega) | omega))))) (by first | (simp; done) | (simp; omega) | omega)) (by first | (simp; done) | (simp; omega) | omega) _) (by first | (simp; done) | (simp; omega) | omega) _

theorem implAddFracs_no (a b c d : Int) (w : World) (hg : (fracB a b && fracB c d) = false) :
    Calls Try.prog 26 #[.agg #[.int .i64 a, .int .i64 b], .agg #[.int .i64 c, .int .i64 d]] w fun e w' => e = .returned (.tuple #[.agg #[.int .i64 0, .int .i64 0], .bool false]) ∧ Below w.heap.size w w' := by
  replace hg := hide hg
  have HK := Kept.start (Nat.le_refl (((w.alloc (.cells #[.int .i64 a, .int .i64 b] 26)).alloc (.cells #[.int .i64 c, .int .i64 d] 26)).alloc (.cells #[.int .i64 0, .int .i64 0] 26)).heap.size)
  have hc := trivial
  have hf := trivial
  go_enter Try.func26, Try.ntmps26
  go_wp2_with fail
  refine (areFracs_any _ _ _ _ _).mono ?_
  rintro e w1 ⟨rfl, hb⟩
  rw [hg.out]
  replace HK := HK.step hb
  clear hb hc hf
  have hc := HK.cells
  have hf := HK.frozen
  obtain ⟨r0, r1⟩ := two_cells (w := w1) (b := w.heap.size + 1 + 1) (x := .int .i64 0) (y := .int .i64 0) (by rw [hc _ _ (by first | (simp; done) | (simp; omega) | omega)]; go_simp) (by rw [hc _ _ (by first | (simp; done) | (simp; omega) | omega)]; go_simp)
  go_wp2
  refine bodyPost_ret (v := .tuple #[.agg #[.int .i64 0, .int .i64 0], .bool false]) (by simp [results, Try.results26, go_sem, r0, r1]) rfl ⟨rfl, ?_⟩
  exact Below.setCell (Below.setCell (HK.below (by repeat (first | exact Below.refl _ _ | (refine below_drewN ?_ _) | (refine Below.drew ?_) | (refine Below.alloc ?_ (by first | exact Nat.le_refl _ | (simp; done) | (simp; omega) | omega) _) | (refine Below.setCell ?_ (by first | exact Nat.le_refl _ | (simp; done) | (simp; omega) | omega) _) | (refine Below.trans ?_ (Below.mono (by assumption) (by first | exact Nat.le_refl _ | (simp; done) | (simp; omega) | omega))))) (by first | (simp; done) | (simp; omega) | omega)) (by first | (simp; done) | (simp; omega) | omega) _) (by first | (simp; done) | (simp; omega) | omega) _

theorem implAddFracs_yes (a b c d : Int) (w : World) (hg : (fracB a b && fracB c d) = true) :
    Calls Try.prog 26 #[.agg #[.int .i64 a, .int .i64 b], .agg #[.int .i64 c, .int .i64 d]] w fun e w' => e = .returned (.tuple #[.agg #[.int .i64 (mkN (a * d + c * b) (b * d)), .int .i64 (mkD (a * d + c * b) (b * d))], .bool (mkB (a * d + c * b) (b * d))]) ∧ Below w.heap.size w w' := by
  obtain ⟨a1, a2, a3, a4, c1, c2, c3, c4⟩ := two_bd hg
  obtain ⟨p1, p2⟩ := prod_bd a d 100000000 100000 (by omega) (by omega) (by omega) (by omega)
  obtain ⟨p3, p4⟩ := prod_bd c b 100000000 100000 (by omega) (by omega) (by omega) (by omega)
  obtain ⟨p5, p6⟩ := prod_bd b d 100000 100000 (by omega) (by omega) (by omega) (by omega)
  obtain ⟨p7, p8⟩ := prod_bd a c 100000000 100000000 (by omega) (by omega) (by omega) (by omega)
  have p9 := prod_pos b d (by omega) (by omega)
  replace hg := hide hg
  have HK := Kept.start (Nat.le_refl (((w.alloc (.cells #[.int .i64 a, .int .i64 b] 26)).alloc (.cells #[.int .i64 c, .int .i64 d] 26)).alloc (.cells #[.int .i64 0, .int .i64 0] 26)).heap.size)
  have hc := trivial
  have hf := trivial
  go_enter Try.func26, Try.ntmps26
  go_wp2_with fail
  refine (areFracs_any _ _ _ _ _).mono ?_
  rintro e w1 ⟨rfl, hb⟩
  rw [hg.out]
  replace HK := HK.step hb
  clear hb hc hf
  have hc := HK.cells
  have hf := HK.frozen
  go_wp2_with fail
  refine (makeFrac_any _ _ _ (by omega) (by omega) (by omega) (by omega)).mono ?_
  rintro e w2 ⟨rfl, hb⟩
  replace HK := HK.step hb
  clear hb hc hf
  have hc := HK.cells
  have hf := HK.frozen
  obtain ⟨r0, r1⟩ := two_cells (w := w2) (b := w.heap.size + 1 + 1) (x := .int .i64 0) (y := .int .i64 0) (by rw [hc _ _ (by first | (simp; done) | (simp; omega) | omega)]; go_simp) (by rw [hc _ _ (by first | (simp; done) | (simp; omega) | omega)]; go_simp)
  go_wp2
  refine bodyPost_ret (v := .tuple #[.agg #[.int .i64 (mkN (a * d + c * b) (b * d)), .int .i64 (mkD (a * d + c * b) (b * d))], .bool (mkB (a * d + c * b) (b * d))]) (by simp [results, Try.results26, go_sem, r0, r1]) rfl ⟨rfl, ?_⟩
  exact Below.setCell (Below.setCell (HK.below (by repeat (first | exact Below.refl _ _ | (refine below_drewN ?_ _) | (refine Below.drew ?_) | (refine Below.alloc ?_ (by first | exact Nat.le_refl _ | (simp; done) | (simp; omega) | omega) _) | (refine Below.setCell ?_ (by first | exact Nat.le_refl _ | (simp; done) | (simp; omega) | omega) _) | (refine Below.trans ?_ (Below.mono (by assumption) (by first | exact Nat.le_refl _ | (simp; done) | (simp; omega) | omega))))) (by first | (simp; done) | (simp; omega) | omega)) (by first | (simp; done) | (simp; omega) | omega) _) (by first | (simp; done) | (simp; omega) | omega) _

theorem specMulFracs_no (a b c d : Int) (w : World) (hg : (fracB a b && fracB c d) = false) :
    Calls Try.prog 23 #[.agg #[.int .i64 a, .int .i64 b], .agg #[.int .i64 c, .int .i64 d]] w fun e w' => e = .returned (.tuple #[.agg #[.int .i64 0, .int .i64 0], .bool false]) ∧ Below w.heap.size w w' := by
  replace hg := hide hg
  have HK := Kept.start (Nat.le_refl (((w.alloc (.cells #[.int .i64 a, .int .i64 b] 26)).alloc (.cells #[.int .i64 c, .int .i64 d] 26)).alloc (.cells #[.int .i64 0, .int .i64 0] 26)).heap.size)
  have hc := trivial
  have hf := trivial
  go_enter Try.func23, Try.ntmps23
  go_wp2_with fail
  refine (l2Two_any _ _ _ _ _).mono ?_
  rintro e w1 ⟨rfl, hb⟩
  rw [hg.out]
  replace HK := HK.step hb
  clear hb hc hf
  have hc := HK.cells
  have hf := HK.frozen
  obtain ⟨r0, r1⟩ := two_cells (w := w1) (b := w.heap.size + 1 + 1) (x := .int .i64 0) (y := .int .i64 0) (by rw [hc _ _ (by first | (simp; done) | (simp; omega) | omega)]; go_simp) (by rw [hc _ _ (by first | (simp; done) | (simp; omega) | omega)]; go_simp)
  go_wp2
  refine bodyPost_ret (v := .tuple #[.agg #[.int .i64 0, .int .i64 0], .bool false]) (by simp [results, Try.results23, go_sem, r0, r1]) rfl ⟨rfl, ?_⟩
  exact Below.setCell (Below.setCell (HK.below (by repeat (first | exact Below.refl _ _ | (refine below_drewN ?_ _) | (refine Below.drew ?_) | (refine Below.alloc ?_ (by first | exact Nat.le_refl _ | (simp; done) | (simp; omega) | omega) _) | (refine Below.setCell ?_ (by first | exact Nat.le_refl _ | (simp; done) | (simp; omega) | omega) _) | (refine Below.trans ?_ (Below.mono (by assumption) (by first | exact Nat.le_refl _ | (simp; done) | (simp; omega) | omega))))) (by first | (simp; done) | (simp; omega) | omega)) (by first | (simp; done) | (simp; omega) | omega) _) (by first | (simp; done) | (simp; omega) | omega) _

theorem specMulFracs_yes (a b c d : Int) (w : World) (hg : (fracB a b && fracB c d) = true) :
    Calls Try.prog 23 #[.agg #[.int .i64 a, .int .i64 b], .agg #[.int .i64 c, .int .i64 d]] w fun e w' => e = .returned (.tuple #[.agg #[.int .i64 (mkN (a * c) (b * d)), .int .i64 (mkD (a * c) (b * d))], .bool (mkB (a * c) (b * d))]) ∧ Below w.heap.size w w' := by
  obtain ⟨a1, a2, a3, a4, c1, c2, c3, c4⟩ := two_bd hg
  obtain ⟨p1, p2⟩ := prod_bd a d 100000000 100000 (by omega) (by omega) (by omega) (by omega)
  obtain ⟨p3, p4⟩ := prod_bd c b 100000000 100000 (by omega) (by omega) (by omega) (by omega)
  obtain ⟨p5, p6⟩ := prod_bd b d 100000 100000 (by omega) (by omega) (by omega) (by omega)
  obtain ⟨p7, p8⟩ := prod_bd a c 100000000 100000000 (by omega) (by omega) (by omega) (by omega)
  have p9 := prod_pos b d (by omega) (by omega)
  replace hg := hide hg
  have HK := Kept.start (Nat.le_refl (((w.alloc (.cells #[.int .i64 a, .int .i64 b] 26)).alloc (.cells #[.int .i64 c, .int .i64 d] 26)).alloc (.cells #[.int .i64 0, .int .i64 0] 26)).heap.size)
  have hc := trivial
  have hf := trivial
  go_enter Try.func23, Try.ntmps23
  go_wp2_with fail
  refine (l2Two_any _ _ _ _ _).mono ?_
  rintro e w1 ⟨rfl, hb⟩
  rw [hg.out]
  replace HK := HK.step hb
  clear hb hc hf
  have hc := HK.cells
  have hf := HK.frozen
  go_wp2_with fail
  refine (l2Mul_any _ _ _ _ _ (by omega) (by omega) (by omega) (by omega)).mono ?_
  rintro e w2 ⟨rfl, hb⟩
  replace HK := HK.step hb
  clear hb hc hf
  have hc := HK.cells
  have hf := HK.frozen
  obtain ⟨r0, r1⟩ := two_cells (w := w2) (b := w.heap.size + 1 + 1) (x := .int .i64 0) (y := .int .i64 0) (by rw [hc _ _ (by first | (simp; done) | (simp; omega) | omega)]; go_simp) (by rw [hc _ _ (by first | (simp; done) | (simp; omega) | omega)]; go_simp)
  go_wp2
  refine bodyPost_ret (v := .tuple #[.agg #[.int .i64 (mkN (a * c) (b * d)), .int .i64 (mkD (a * c) (b * d))], .bool (mkB (a * c) (b * d))]) (by simp [results, Try.results23, go_sem, r0, r1]) rfl ⟨rfl, ?_⟩
  exact Below.setCell (Below.setCell (HK.below (by repeat (first | exact Below.refl _ _ | (refine below_drewN ?_ _) | (refine Below.drew ?_) | (refine Below.alloc ?_ (by first | exact Nat.le_refl _ | (simp; done) | (simp; omega) | omega) _) | (refine Below.setCell ?_ (by first | exact Nat.le_refl _ | (simp; done) | (simp; omega) | omega) _) | (refine Below.trans ?_ (Below.mono (by assumption) (by first | exact Nat.le_refl _ | (simp; done) | (simp; omega) | omega))))) (by first | (simp; done) | (simp; omega) | omega)) (by first | (simp; done) | (simp; omega) | omega) _) (by first | (simp; done) | (simp; omega) | omega) _

theorem implMulFracs_no (a b c d : Int) (w : World) (hg : (fracB a b && fracB c d) = false) :
    Calls Try.prog 24 #[.agg #[.int .i64 a, .int .i64 b], .agg #[.int .i64 c, .int .i64 d]] w fun e w' => e = .returned (.tuple #[.agg #[.int .i64 0, .int .i64 0], .bool false]) ∧ Below w.heap.size w w' := by
  replace hg := hide hg
  have HK := Kept.start (Nat.le_refl (((w.alloc (.cells #[.int .i64 a, .int .i64 b] 26)).alloc (.cells #[.int .i64 c, .int .i64 d] 26)).alloc (.cells #[.int .i64 0, .int .i64 0] 26)).heap.size)
  have hc := trivial
  have hf := trivial
  go_enter Try.func24, Try.ntmps24
  go_wp2_with fail
  refine (areFracs_any _ _ _ _ _).mono ?_
  rintro e w1 ⟨rfl, hb⟩
  rw [hg.out]
  replace HK := HK.step hb
  clear hb hc hf
  have hc := HK.cells
  have hf := HK.frozen
  obtain ⟨r0, r1⟩ := two_cells (w := w1) (b := w.heap.size + 1 + 1) (x := .int .i64 0) (y := .int .i64 0) (by rw [hc _ _ (by first | (simp; done) | (simp; omega) | omega)]; go_simp) (by rw [hc _ _ (by first | (simp; done) | (simp; omega) | omega)]; go_simp)
  go_wp2
  refine bodyPost_ret (v := .tuple #[.agg #[.int .i64 0, .int .i64 0], .bool false]) (by simp [results, Try.results24, go_sem, r0, r1]) rfl ⟨rfl, ?_⟩
  exact Below.setCell (Below.setCell (HK.below (by repeat (first | exact Below.refl _ _ | (refine below_drewN ?_ _) | (refine Below.drew ?_) | (refine Below.alloc ?_ (by first | exact Nat.le_refl _ | (simp; done) | (simp; omega) | omega) _) | (refine Below.setCell ?_ (by first | exact Nat.le_refl _ | (simp; done) | (simp; omega) | omega) _) | (refine Below.trans ?_ (Below.mono (by assumption) (by first | exact Nat.le_refl _ | (simp; done) | (simp; omega) | omega))))) (by first | (simp; done) | (simp; omega) | omega)) (by first | (simp; done) | (simp; omega) | omega) _) (by first | (simp; done) | (simp; omega) | omega) _

theorem implMulFracs_yes (a b c d : Int) (w : World) (hg : (fracB a b && fracB c d) = true) :
    Calls Try.prog 24 #[.agg #[.int .i64 a, .int .i64 b], .agg #[.int .i64 c, .int .i64 d]] w fun e w' => e = .returned (.tuple #[.agg #[.int .i64 (mkN (a * c) (b * d)), .int .i64 (mkD (a * c) (b * d))], .bool (mkB (a * c) (b * d))]) ∧ Below w.heap.size w w' := by
  obtain ⟨a1, a2, a3, a4, c1, c2, c3, c4⟩ := two_bd hg
  obtain ⟨p1, p2⟩ := prod_bd a d 100000000 100000 (by omega) (by omega) (by omega) (by omega)
  obtain ⟨p3, p4⟩ := prod_bd c b 100000000 100000 (by omega) (by omega) (by omega) (by omega)
  obtain ⟨p5, p6⟩ := prod_bd b d 100000 100000 (by omega) (by omega) (by omega) (by omega)
  obtain ⟨p7, p8⟩ := prod_bd a c 100000000 100000000 (by omega) (by omega) (by omega) (by omega)
  have p9 := prod_pos b d (by omega) (by omega)
  replace hg := hide hg
  have HK := Kept.start (Nat.le_refl (((w.alloc (.cells #[.int .i64 a, .int .i64 b] 26)).alloc (.cells #[.int .i64 c, .int .i64 d] 26)).alloc (.cells #[.int .i64 0, .int .i64 0] 26)).heap.size)
  have hc := trivial
  have hf := trivial
  go_enter Try.func24, Try.ntmps24
  go_wp2_with fail
  refine (areFracs_any _ _ _ _ _).mono ?_
  rintro e w1 ⟨rfl, hb⟩
  rw [hg.out]
  replace HK := HK.step hb
  clear hb hc hf
  have hc := HK.cells
  have hf := HK.frozen
  go_wp2_with fail
  refine (makeFrac_any _ _ _ (by omega) (by omega) (by omega) (by omega)).mono ?_
  rintro e w2 ⟨rfl, hb⟩
  replace HK := HK.step hb
  clear hb hc hf
  have hc := HK.cells
  have hf := HK.frozen
  obtain ⟨r0, r1⟩ := two_cells (w := w2) (b := w.heap.size + 1 + 1) (x := .int .i64 0) (y := .int .i64 0) (by rw [hc _ _ (by first | (simp; done) | (simp; omega) | omega)]; go_simp) (by rw [hc _ _ (by first | (simp; done) | (simp; omega) | omega)]; go_simp)
  go_wp2
  refine bodyPost_ret (v := .tuple #[.agg #[.int .i64 (mkN (a * c) (b * d)), .int .i64 (mkD (a * c) (b * d))], .bool (mkB (a * c) (b * d))]) (by simp [results, Try.results24, go_sem, r0, r1]) rfl ⟨rfl, ?_⟩
  exact Below.setCell (Below.setCell (HK.below (by repeat (first | exact Below.refl _ _ | (refine below_drewN ?_ _) | (refine Below.drew ?_) | (refine Below.alloc ?_ (by first | exact Nat.le_refl _ | (simp; done) | (simp; omega) | omega) _) | (refine Below.setCell ?_ (by first | exact Nat.le_refl _ | (simp; done) | (simp; omega) | omega) _) | (refine Below.trans ?_ (Below.mono (by assumption) (by first | exact Nat.le_refl _ | (simp; done) | (simp; omega) | omega))))) (by first | (simp; done) | (simp; omega) | omega)) (by first | (simp; done) | (simp; omega) | omega) _) (by first | (simp; done) | (simp; omega) | omega) _
end Go.Proofs.Ytainbffcnaafkaa
