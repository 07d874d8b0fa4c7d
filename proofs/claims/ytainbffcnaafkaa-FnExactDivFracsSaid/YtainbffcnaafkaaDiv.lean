/- The quotient of two fractions, exported by the reference and by the program: what they return; no conditions. -/
import Derived.Test.YtainbffcnaafkaaAddMul
namespace Go.Proofs.Ytainbffcnaafkaa
open Go.RowKit

theorem l2Div_zero (a b d : Int) (w : World) :
    Calls Try.prog 61 #[.agg #[.int .i64 a, .int .i64 b], .agg #[.int .i64 0, .int .i64 d]] w fun e w' => e = .returned (.tuple #[.agg #[.int .i64 0, .int .i64 0], .bool false]) ∧ Below w.heap.size w w' := by
  go_enter Try.func61, Try.ntmps61
  go_wp2
  refine bodyPost_ret (v := .tuple #[.agg #[.int .i64 0, .int .i64 0], .bool false]) (by simp [results, Try.results61, go_sem]) rfl ⟨rfl, (by repeat (first | exact Below.refl _ _ | (refine below_drewN ?_ _) | (refine Below.drew ?_) | (refine Below.alloc ?_ (by first | exact Nat.le_refl _ | (simp; done) | (simp; omega) | omega) _) | (refine Below.setCell ?_ (by first | exact Nat.le_refl _ | (simp; done) | (simp; omega) | omega) _) | (refine Below.trans ?_ (Below.mono (by assumption) (by first | exact Nat.le_refl _ | (simp; done) | (simp; omega) | omega)))))⟩

theorem l2Div_neg (a b c d : Int) (w : World) (h0 : c < 0) (h0' : -100000000 ≤ c) (ha : -100000000 ≤ a) (ha' : a ≤ 100000000) (h1 : -100000000000000000 ≤ -a * d) (h2 : -a * d ≤ 100000000000000000) (h5 : 1 ≤ b * -c) (h6 : b * -c ≤ 100000000000000000) :
    Calls Try.prog 61 #[.agg #[.int .i64 a, .int .i64 b], .agg #[.int .i64 c, .int .i64 d]] w fun e w' => e = .returned (.tuple #[.agg #[.int .i64 (mkN (-a * d) (b * -c)), .int .i64 (mkD (-a * d) (b * -c))], .bool (mkB (-a * d) (b * -c))]) ∧ Below w.heap.size w w' := by
  have hz : (c == 0) = false := by simp; omega
  go_enter Try.func61, Try.ntmps61
  go_wp2_with (go_at_call 51; refine (l2Make_any _ _ _ (by omega) (by omega) (by omega) (by omega)).mono ?_; rintro e w1 ⟨rfl, hb⟩; obtain ⟨hc, hf⟩ := bcell hb)
  obtain ⟨r0, r1⟩ := two_cells (w := w1) (b := w.heap.size + 1 + 1) (x := .int .i64 0) (y := .int .i64 0) (by rw [hc _ _ (by first | (simp; done) | (simp; omega) | omega)]; go_simp) (by rw [hc _ _ (by first | (simp; done) | (simp; omega) | omega)]; go_simp)
  refine bodyPost_ret (v := .tuple #[.agg #[.int .i64 (mkN (-a * d) (b * -c)), .int .i64 (mkD (-a * d) (b * -c))], .bool (mkB (-a * d) (b * -c))]) (by simp [results, Try.results61, go_sem, r0, r1]) rfl ⟨rfl, (by repeat (first | exact Below.refl _ _ | (refine below_drewN ?_ _) | (refine Below.drew ?_) | (refine Below.alloc ?_ (by first | exact Nat.le_refl _ | (simp; done) | (simp; omega) | omega) _) | (refine Below.setCell ?_ (by first | exact Nat.le_refl _ | (simp; done) | (simp; omega) | omega) _) | (refine Below.trans ?_ (Below.mono (by assumption) (by first | exact Nat.le_refl _ | (simp; done) | (simp; omega) | omega)))))⟩

theorem l2Div_pos (a b c d : Int) (w : World) (h0 : 0 < c) (h1 : -100000000000000000 ≤ a * d) (h2 : a * d ≤ 100000000000000000) (h5 : 1 ≤ b * c) (h6 : b * c ≤ 100000000000000000) :
    Calls Try.prog 61 #[.agg #[.int .i64 a, .int .i64 b], .agg #[.int .i64 c, .int .i64 d]] w fun e w' => e = .returned (.tuple #[.agg #[.int .i64 (mkN (a * d) (b * c)), .int .i64 (mkD (a * d) (b * c))], .bool (mkB (a * d) (b * c))]) ∧ Below w.heap.size w w' := by
  have hz : (c == 0) = false := by simp; omega
  go_enter Try.func61, Try.ntmps61
  go_wp2_with (go_at_call 51; refine (l2Make_any _ _ _ (by omega) (by omega) (by omega) (by omega)).mono ?_; rintro e w1 ⟨rfl, hb⟩; obtain ⟨hc, hf⟩ := bcell hb)
  obtain ⟨r0, r1⟩ := two_cells (w := w1) (b := w.heap.size + 1 + 1) (x := .int .i64 0) (y := .int .i64 0) (by rw [hc _ _ (by first | (simp; done) | (simp; omega) | omega)]; go_simp) (by rw [hc _ _ (by first | (simp; done) | (simp; omega) | omega)]; go_simp)
  refine bodyPost_ret (v := .tuple #[.agg #[.int .i64 (mkN (a * d) (b * c)), .int .i64 (mkD (a * d) (b * c))], .bool (mkB (a * d) (b * c))]) (by simp [results, Try.results61, go_sem, r0, r1]) rfl ⟨rfl, (by repeat (first | exact Below.refl _ _ | (refine below_drewN ?_ _) | (refine Below.drew ?_) | (refine Below.alloc ?_ (by first | exact Nat.le_refl _ | (simp; done) | (simp; omega) | omega) _) | (refine Below.setCell ?_ (by first | exact Nat.le_refl _ | (simp; done) | (simp; omega) | omega) _) | (refine Below.trans ?_ (Below.mono (by assumption) (by first | exact Nat.le_refl _ | (simp; done) | (simp; omega) | omega)))))⟩

theorem specDivFracs_no (a b c d : Int) (w : World) (hg : (fracB a b && fracB c d) = false) :
    Calls Try.prog 31 #[.agg #[.int .i64 a, .int .i64 b], .agg #[.int .i64 c, .int .i64 d]] w fun e w' => e = .returned (.tuple #[.agg #[.int .i64 0, .int .i64 0], .bool false]) ∧ Below w.heap.size w w' := by
  replace hg := hide hg
  have HK := Kept.start (Nat.le_refl (((w.alloc (.cells #[.int .i64 a, .int .i64 b] 26)).alloc (.cells #[.int .i64 c, .int .i64 d] 26)).alloc (.cells #[.int .i64 0, .int .i64 0] 26)).heap.size)
  have hc := trivial
  have hf := trivial
  go_enter Try.func31, Try.ntmps31
  go_wp2_with fail
  refine (l2Two_any _ _ _ _ _).mono ?_
  rintro e w1 ⟨rfl, hb⟩
  rw [hg.out]
  replace HK := HK.step hb
  clear hb hc hf
  have hc := HK.cells
  have hf := HK.frozen
  obtain ⟨r0, r1⟩ := two_cells (w := w1) (b := w.heap.size + 1 + 1) (x := .int .i64 0) (y := .int .i64 0) (by rw [hc _ _ (by first | (simp; done) | (simp; omega) | omega)]; go_simp) (by rw [hc _ _ (by first | (simp; done) | (simp; omega) | omega)]; go_simp)
  go_wp2
  refine bodyPost_ret (v := .tuple #[.agg #[.int .i64 0, .int .i64 0], .bool false]) (by simp [results, Try.results31, go_sem, r0, r1]) rfl ⟨rfl, ?_⟩
  exact Below.setCell (Below.setCell (HK.below (by repeat (first | exact Below.refl _ _ | (refine below_drewN ?_ _) | (refine Below.drew ?_) | (refine Below.alloc ?_ (by first | exact Nat.le_refl _ | (simp; done) | (simp; omega) | omega) _) | (refine Below.setCell ?_ (by first | exact Nat.le_refl _ | (simp; done) | (simp; omega) | omega) _) | (refine Below.trans ?_ (Below.mono (by assumption) (by first | exact Nat.le_refl _ | (simp; done) | (simp; omega) | omega))))) (by first | (simp; done) | (simp; omega) | omega)) (by first | (simp; done) | (simp; omega) | omega) _) (by first | (simp; done) | (simp; omega) | omega) _

theorem implDivFracs_no (a b c d : Int) (w : World) (hg : (fracB a b && fracB c d) = false) :
    Calls Try.prog 32 #[.agg #[.int .i64 a, .int .i64 b], .agg #[.int .i64 c, .int .i64 d]] w fun e w' => e = .returned (.tuple #[.agg #[.int .i64 0, .int .i64 0], .bool false]) ∧ Below w.heap.size w w' := by
  replace hg := hide hg
  have HK := Kept.start (Nat.le_refl (((w.alloc (.cells #[.int .i64 a, .int .i64 b] 26)).alloc (.cells #[.int .i64 c, .int .i64 d] 26)).alloc (.cells #[.int .i64 0, .int .i64 0] 26)).heap.size)
  have hc := trivial
  have hf := trivial
  go_enter Try.func32, Try.ntmps32
  go_wp2_with fail
  refine (areFracs_any _ _ _ _ _).mono ?_
  rintro e w1 ⟨rfl, hb⟩
  rw [hg.out]
  replace HK := HK.step hb
  clear hb hc hf
  have hc := HK.cells
  have hf := HK.frozen
  obtain ⟨r0, r1⟩ := two_cells (w := w1) (b := w.heap.size + 1 + 1) (x := .int .i64 0) (y := .int .i64 0) (by rw [hc _ _ (by first | (simp; done) | (simp; omega) | omega)]; go_simp) (by rw [hc _ _ (by first | (simp; done) | (simp; omega) | omega)]; go_simp)
  go_wp2
  refine bodyPost_ret (v := .tuple #[.agg #[.int .i64 0, .int .i64 0], .bool false]) (by simp [results, Try.results32, go_sem, r0, r1]) rfl ⟨rfl, ?_⟩
  exact Below.setCell (Below.setCell (HK.below (by repeat (first | exact Below.refl _ _ | (refine below_drewN ?_ _) | (refine Below.drew ?_) | (refine Below.alloc ?_ (by first | exact Nat.le_refl _ | (simp; done) | (simp; omega) | omega) _) | (refine Below.setCell ?_ (by first | exact Nat.le_refl _ | (simp; done) | (simp; omega) | omega) _) | (refine Below.trans ?_ (Below.mono (by assumption) (by first | exact Nat.le_refl _ | (simp; done) | (simp; omega) | omega))))) (by first | (simp; done) | (simp; omega) | omega)) (by first | (simp; done) | (simp; omega) | omega) _) (by first | (simp; done) | (simp; omega) | omega) _

theorem specDivFracs_zero (a b d : Int) (w : World) (hg : (fracB a b && fracB 0 d) = true) :
    Calls Try.prog 31 #[.agg #[.int .i64 a, .int .i64 b], .agg #[.int .i64 0, .int .i64 d]] w fun e w' => e = .returned (.tuple #[.agg #[.int .i64 0, .int .i64 0], .bool false]) ∧ Below w.heap.size w w' := by
  obtain ⟨a1, a2, a3, a4, c1, c2, c3, c4⟩ := two_bd hg
  replace hg := hide hg
  have HK := Kept.start (Nat.le_refl (((w.alloc (.cells #[.int .i64 a, .int .i64 b] 26)).alloc (.cells #[.int .i64 0, .int .i64 d] 26)).alloc (.cells #[.int .i64 0, .int .i64 0] 26)).heap.size)
  have hc := trivial
  have hf := trivial
  go_enter Try.func31, Try.ntmps31
  go_wp2_with fail
  refine (l2Two_any _ _ _ _ _).mono ?_
  rintro e w1 ⟨rfl, hb⟩
  rw [hg.out]
  replace HK := HK.step hb
  clear hb hc hf
  have hc := HK.cells
  have hf := HK.frozen
  go_wp2_with fail
  refine (l2Div_zero _ _ _ _).mono ?_
  rintro e w2 ⟨rfl, hb⟩
  replace HK := HK.step hb
  clear hb hc hf
  have hc := HK.cells
  have hf := HK.frozen
  obtain ⟨r0, r1⟩ := two_cells (w := w2) (b := w.heap.size + 1 + 1) (x := .int .i64 0) (y := .int .i64 0) (by rw [hc _ _ (by first | (simp; done) | (simp; omega) | omega)]; go_simp) (by rw [hc _ _ (by first | (simp; done) | (simp; omega) | omega)]; go_simp)
  go_wp2
  refine bodyPost_ret (v := .tuple #[.agg #[.int .i64 0, .int .i64 0], .bool false]) (by simp [results, Try.results31, go_sem, r0, r1]) rfl ⟨rfl, ?_⟩
  exact Below.setCell (Below.setCell (HK.below (by repeat (first | exact Below.refl _ _ | (refine below_drewN ?_ _) | (refine Below.drew ?_) | (refine Below.alloc ?_ (by first | exact Nat.le_refl _ | (simp; done) | (simp; omega) | omega) _) | (refine Below.setCell ?_ (by first | exact Nat.le_refl _ | (simp; done) | (simp; omega) | omega) _) | (refine Below.trans ?_ (Below.mono (by assumption) (by first | exact Nat.le_refl _ | (simp; done) | (simp; omega) | omega))))) (by first | (simp; done) | (simp; omega) | omega)) (by first | (simp; done) | (simp; omega) | omega) _) (by first | (simp; done) | (simp; omega) | omega) _

theorem implDivFracs_zero (a b d : Int) (w : World) (hg : (fracB a b && fracB 0 d) = true) :
    Calls Try.prog 32 #[.agg #[.int .i64 a, .int .i64 b], .agg #[.int .i64 0, .int .i64 d]] w fun e w' => e = .returned (.tuple #[.agg #[.int .i64 0, .int .i64 0], .bool false]) ∧ Below w.heap.size w w' := by
  obtain ⟨a1, a2, a3, a4, c1, c2, c3, c4⟩ := two_bd hg
  replace hg := hide hg
  have HK := Kept.start (Nat.le_refl (((w.alloc (.cells #[.int .i64 a, .int .i64 b] 26)).alloc (.cells #[.int .i64 0, .int .i64 d] 26)).alloc (.cells #[.int .i64 0, .int .i64 0] 26)).heap.size)
  have hc := trivial
  have hf := trivial
  go_enter Try.func32, Try.ntmps32
  go_wp2_with fail
  refine (areFracs_any _ _ _ _ _).mono ?_
  rintro e w1 ⟨rfl, hb⟩
  rw [hg.out]
  replace HK := HK.step hb
  clear hb hc hf
  have hc := HK.cells
  have hf := HK.frozen
  obtain ⟨r0, r1⟩ := two_cells (w := w1) (b := w.heap.size + 1 + 1) (x := .int .i64 0) (y := .int .i64 0) (by rw [hc _ _ (by first | (simp; done) | (simp; omega) | omega)]; go_simp) (by rw [hc _ _ (by first | (simp; done) | (simp; omega) | omega)]; go_simp)
  go_wp2
  refine bodyPost_ret (v := .tuple #[.agg #[.int .i64 0, .int .i64 0], .bool false]) (by simp [results, Try.results32, go_sem, r0, r1]) rfl ⟨rfl, ?_⟩
  exact Below.setCell (Below.setCell (HK.below (by repeat (first | exact Below.refl _ _ | (refine below_drewN ?_ _) | (refine Below.drew ?_) | (refine Below.alloc ?_ (by first | exact Nat.le_refl _ | (simp; done) | (simp; omega) | omega) _) | (refine Below.setCell ?_ (by first | exact Nat.le_refl _ | (simp; done) | (simp; omega) | omega) _) | (refine Below.trans ?_ (Below.mono (by assumption) (by first | exact Nat.le_refl _ | (simp; done) | (simp; omega) | omega))))) (by first | (simp; done) | (simp; omega) | omega)) (by first | (simp; done) | (simp; omega) | omega) _) (by first | (simp; done) | (simp; omega) | omega) _

theorem specDivFracs_neg (a b c d : Int) (w : World) (hg : (fracB a b && fracB c d) = true) (h0 : c < 0) :
    Calls Try.prog 31 #[.agg #[.int .i64 a, .int .i64 b], .agg #[.int .i64 c, .int .i64 d]] w fun e w' => e = .returned (.tuple #[.agg #[.int .i64 (mkN (-a * d) (b * -c)), .int .i64 (mkD (-a * d) (b * -c))], .bool (mkB (-a * d) (b * -c))]) ∧ Below w.heap.size w w' := by
  obtain ⟨a1, a2, a3, a4, c1, c2, c3, c4⟩ := two_bd hg
  obtain ⟨p1, p2⟩ := prod_bd (-a) d 100000000 100000 (by omega) (by omega) (by omega) (by omega)
  obtain ⟨p3, p4⟩ := prod_bd b (-c) 100000 100000000 (by omega) (by omega) (by omega) (by omega)
  have p5 := prod_pos b (-c) (by omega) (by omega)
  have hz0 : (c == 0) = false := by simp; omega
  replace hg := hide hg
  have HK := Kept.start (Nat.le_refl (((w.alloc (.cells #[.int .i64 a, .int .i64 b] 26)).alloc (.cells #[.int .i64 c, .int .i64 d] 26)).alloc (.cells #[.int .i64 0, .int .i64 0] 26)).heap.size)
  have hc := trivial
  have hf := trivial
  go_enter Try.func31, Try.ntmps31
  go_wp2_with fail
  refine (l2Two_any _ _ _ _ _).mono ?_
  rintro e w1 ⟨rfl, hb⟩
  rw [hg.out]
  replace HK := HK.step hb
  clear hb hc hf
  have hc := HK.cells
  have hf := HK.frozen
  go_wp2_with fail
  refine (l2Div_neg _ _ _ _ _ h0 (by omega) (by omega) (by omega) (by omega) (by omega) (by omega) (by omega)).mono ?_
  rintro e w2 ⟨rfl, hb⟩
  replace HK := HK.step hb
  clear hb hc hf
  have hc := HK.cells
  have hf := HK.frozen
  obtain ⟨r0, r1⟩ := two_cells (w := w2) (b := w.heap.size + 1 + 1) (x := .int .i64 0) (y := .int .i64 0) (by rw [hc _ _ (by first | (simp; done) | (simp; omega) | omega)]; go_simp) (by rw [hc _ _ (by first | (simp; done) | (simp; omega) | omega)]; go_simp)
  go_wp2
  refine bodyPost_ret (v := .tuple #[.agg #[.int .i64 (mkN (-a * d) (b * -c)), .int .i64 (mkD (-a * d) (b * -c))], .bool (mkB (-a * d) (b * -c))]) (by simp [results, Try.results31, go_sem, r0, r1]) rfl ⟨rfl, ?_⟩
  exact Below.setCell (Below.setCell (HK.below (by repeat (first | exact Below.refl _ _ | (refine below_drewN ?_ _) | (refine Below.drew ?_) | (refine Below.alloc ?_ (by first | exact Nat.le_refl _ | (simp; done) | (simp; omega) | omega) _) | (refine Below.setCell ?_ (by first | exact Nat.le_refl _ | (simp; done) | (simp; omega) | omega) _) | (refine Below.trans ?_ (Below.mono (by assumption) (by first | exact Nat.le_refl _ | (simp; done) | (simp; omega) | omega))))) (by first | (simp; done) | (simp; omega) | omega)) (by first | (simp; done) | (simp; omega) | omega) _) (by first | (simp; done) | (simp; omega) | omega) _

theorem specDivFracs_pos (a b c d : Int) (w : World) (hg : (fracB a b && fracB c d) = true) (h0 : 0 < c) :
    Calls Try.prog 31 #[.agg #[.int .i64 a, .int .i64 b], .agg #[.int .i64 c, .int .i64 d]] w fun e w' => e = .returned (.tuple #[.agg #[.int .i64 (mkN (a * d) (b * c)), .int .i64 (mkD (a * d) (b * c))], .bool (mkB (a * d) (b * c))]) ∧ Below w.heap.size w w' := by
  obtain ⟨a1, a2, a3, a4, c1, c2, c3, c4⟩ := two_bd hg
  obtain ⟨p1, p2⟩ := prod_bd a d 100000000 100000 (by omega) (by omega) (by omega) (by omega)
  obtain ⟨p3, p4⟩ := prod_bd b c 100000 100000000 (by omega) (by omega) (by omega) (by omega)
  have p5 := prod_pos b c (by omega) (by omega)
  have hz0 : (c == 0) = false := by simp; omega
  replace hg := hide hg
  have HK := Kept.start (Nat.le_refl (((w.alloc (.cells #[.int .i64 a, .int .i64 b] 26)).alloc (.cells #[.int .i64 c, .int .i64 d] 26)).alloc (.cells #[.int .i64 0, .int .i64 0] 26)).heap.size)
  have hc := trivial
  have hf := trivial
  go_enter Try.func31, Try.ntmps31
  go_wp2_with fail
  refine (l2Two_any _ _ _ _ _).mono ?_
  rintro e w1 ⟨rfl, hb⟩
  rw [hg.out]
  replace HK := HK.step hb
  clear hb hc hf
  have hc := HK.cells
  have hf := HK.frozen
  go_wp2_with fail
  refine (l2Div_pos _ _ _ _ _ h0 (by omega) (by omega) (by omega) (by omega)).mono ?_
  rintro e w2 ⟨rfl, hb⟩
  replace HK := HK.step hb
  clear hb hc hf
  have hc := HK.cells
  have hf := HK.frozen
  obtain ⟨r0, r1⟩ := two_cells (w := w2) (b := w.heap.size + 1 + 1) (x := .int .i64 0) (y := .int .i64 0) (by rw [hc _ _ (by first | (simp; done) | (simp; omega) | omega)]; go_simp) (by rw [hc _ _ (by first | (simp; done) | (simp; omega) | omega)]; go_simp)
  go_wp2
  refine bodyPost_ret (v := .tuple #[.agg #[.int .i64 (mkN (a * d) (b * c)), .int .i64 (mkD (a * d) (b * c))], .bool (mkB (a * d) (b * c))]) (by simp [results, Try.results31, go_sem, r0, r1]) rfl ⟨rfl, ?_⟩
  exact Below.setCell (Below.setCell (HK.below (by repeat (first | exact Below.refl _ _ | (refine below_drewN ?_ _) | (refine Below.drew ?_) | (refine Below.alloc ?_ (by first | exact Nat.le_refl _ | (simp; done) | (simp; omega) | omega) _) | (refine Below.setCell ?_ (by first | exact Nat.le_refl _ | (simp; done) | (simp; omega) | omega) _) | (refine Below.trans ?_ (Below.mono (by assumption) (by first | exact Nat.le_refl _ | (simp; done) | (simp; omega) | omega))))) (by first | (simp; done) | (simp; omega) | omega)) (by first | (simp; done) | (simp; omega) | omega) _) (by first | (simp; done) | (simp; omega) | omega) _

theorem implDivFracs_neg0 (a b c d : Int) (w : World) (hg : (fracB a b && fracB c d) = true) (h0 : c < 0) :
    Calls Try.prog 32 #[.agg #[.int .i64 a, .int .i64 b], .agg #[.int .i64 c, .int .i64 d]] w fun e w' => e = .returned (.tuple #[.agg #[.int .i64 (mkN (-a * d) (-b * c)), .int .i64 (mkD (-a * d) (-b * c))], .bool (mkB (-a * d) (-b * c))]) ∧ Below w.heap.size w w' := by
  obtain ⟨a1, a2, a3, a4, c1, c2, c3, c4⟩ := two_bd hg
  obtain ⟨p1, p2⟩ := prod_bd (-a) d 100000000 100000 (by omega) (by omega) (by omega) (by omega)
  obtain ⟨p3, p4⟩ := prod_bd (-b) c 100000 100000000 (by omega) (by omega) (by omega) (by omega)
  have p5 : 1 ≤ -b * c := by have := prod_pos b (-c) (by omega) (by omega); rw [Int.mul_neg] at this; rw [Int.neg_mul]; omega
  have hz0 : (c == 0) = false := by simp; omega
  replace hg := hide hg
  have HK := Kept.start (Nat.le_refl (((w.alloc (.cells #[.int .i64 a, .int .i64 b] 26)).alloc (.cells #[.int .i64 c, .int .i64 d] 26)).alloc (.cells #[.int .i64 0, .int .i64 0] 26)).heap.size)
  have hc := trivial
  have hf := trivial
  go_enter Try.func32, Try.ntmps32
  go_wp2_with fail
  refine (areFracs_any _ _ _ _ _).mono ?_
  rintro e w1 ⟨rfl, hb⟩
  rw [hg.out]
  replace HK := HK.step hb
  clear hb hc hf
  have hc := HK.cells
  have hf := HK.frozen
  go_wp2_with fail
  refine (makeFrac_any _ _ _ (by omega) (by omega) (by omega) (by omega)).mono ?_
  rintro e w2 ⟨rfl, hb⟩
  replace HK := HK.step hb
  clear hb hc hf
  have hc := HK.cells
  have hf := HK.frozen
  obtain ⟨r0, r1⟩ := two_cells (w := w2) (b := w.heap.size + 1 + 1) (x := .int .i64 0) (y := .int .i64 0) (by rw [hc _ _ (by first | (simp; done) | (simp; omega) | omega)]; go_simp) (by rw [hc _ _ (by first | (simp; done) | (simp; omega) | omega)]; go_simp)
  go_wp2
  refine bodyPost_ret (v := .tuple #[.agg #[.int .i64 (mkN (-a * d) (-b * c)), .int .i64 (mkD (-a * d) (-b * c))], .bool (mkB (-a * d) (-b * c))]) (by simp [results, Try.results32, go_sem, r0, r1]) rfl ⟨rfl, ?_⟩
  exact Below.setCell (Below.setCell (HK.below (by repeat (first | exact Below.refl _ _ | (refine below_drewN ?_ _) | (refine Below.drew ?_) | (refine Below.alloc ?_ (by first | exact Nat.le_refl _ | (simp; done) | (simp; omega) | omega) _) | (refine Below.setCell ?_ (by first | exact Nat.le_refl _ | (simp; done) | (simp; omega) | omega) _) | (refine Below.trans ?_ (Below.mono (by assumption) (by first | exact Nat.le_refl _ | (simp; done) | (simp; omega) | omega))))) (by first | (simp; done) | (simp; omega) | omega)) (by first | (simp; done) | (simp; omega) | omega) _) (by first | (simp; done) | (simp; omega) | omega) _

theorem implDivFracs_neg (a b c d : Int) (w : World) (hg : (fracB a b && fracB c d) = true) (h0 : c < 0) :
    Calls Try.prog 32 #[.agg #[.int .i64 a, .int .i64 b], .agg #[.int .i64 c, .int .i64 d]] w fun e w' => e = .returned (.tuple #[.agg #[.int .i64 (mkN (-a * d) (b * -c)), .int .i64 (mkD (-a * d) (b * -c))], .bool (mkB (-a * d) (b * -c))]) ∧ Below w.heap.size w w' := by
  have e : b * -c = -b * c := by rw [Int.mul_neg, Int.neg_mul]
  rw [e]
  exact implDivFracs_neg0 a b c d w hg h0

theorem implDivFracs_pos (a b c d : Int) (w : World) (hg : (fracB a b && fracB c d) = true) (h0 : 0 < c) :
    Calls Try.prog 32 #[.agg #[.int .i64 a, .int .i64 b], .agg #[.int .i64 c, .int .i64 d]] w fun e w' => e = .returned (.tuple #[.agg #[.int .i64 (mkN (a * d) (b * c)), .int .i64 (mkD (a * d) (b * c))], .bool (mkB (a * d) (b * c))]) ∧ Below w.heap.size w w' := by
  obtain ⟨a1, a2, a3, a4, c1, c2, c3, c4⟩ := two_bd hg
  obtain ⟨p1, p2⟩ := prod_bd a d 100000000 100000 (by omega) (by omega) (by omega) (by omega)
  obtain ⟨p3, p4⟩ := prod_bd b c 100000 100000000 (by omega) (by omega) (by omega) (by omega)
  have p5 := prod_pos b c (by omega) (by omega)
  have hz0 : (c == 0) = false := by simp; omega
  replace hg := hide hg
  have HK := Kept.start (Nat.le_refl (((w.alloc (.cells #[.int .i64 a, .int .i64 b] 26)).alloc (.cells #[.int .i64 c, .int .i64 d] 26)).alloc (.cells #[.int .i64 0, .int .i64 0] 26)).heap.size)
  have hc := trivial
  have hf := trivial
  go_enter Try.func32, Try.ntmps32
  go_wp2_with fail
  refine (areFracs_any _ _ _ _ _).mono ?_
  rintro e w1 ⟨rfl, hb⟩
  rw [hg.out]
  replace HK := HK.step hb
  clear hb hc hf
  have hc := HK.cells
  have hf := HK.frozen
  go_wp2_with fail
  refine (makeFrac_any _ _ _ (by omega) (by omega) (by omega) (by omega)).mono ?_
  rintro e w2 ⟨rfl, hb⟩
  replace HK := HK.step hb
  clear hb hc hf
  have hc := HK.cells
  have hf := HK.frozen
  obtain ⟨r0, r1⟩ := two_cells (w := w2) (b := w.heap.size + 1 + 1) (x := .int .i64 0) (y := .int .i64 0) (by rw [hc _ _ (by first | (simp; done) | (simp; omega) | omega)]; go_simp) (by rw [hc _ _ (by first | (simp; done) | (simp; omega) | omega)]; go_simp)
  go_wp2
  refine bodyPost_ret (v := .tuple #[.agg #[.int .i64 (mkN (a * d) (b * c)), .int .i64 (mkD (a * d) (b * c))], .bool (mkB (a * d) (b * c))]) (by simp [results, Try.results32, go_sem, r0, r1]) rfl ⟨rfl, ?_⟩
  exact Below.setCell (Below.setCell (HK.below (by repeat (first | exact Below.refl _ _ | (refine below_drewN ?_ _) | (refine Below.drew ?_) | (refine Below.alloc ?_ (by first | exact Nat.le_refl _ | (simp; done) | (simp; omega) | omega) _) | (refine Below.setCell ?_ (by first | exact Nat.le_refl _ | (simp; done) | (simp; omega) | omega) _) | (refine Below.trans ?_ (Below.mono (by assumption) (by first | exact Nat.le_refl _ | (simp; done) | (simp; omega) | omega))))) (by first | (simp; done) | (simp; omega) | omega)) (by first | (simp; done) | (simp; omega) | omega) _) (by first | (simp; done) | (simp; omega) | omega) _
end Go.Proofs.Ytainbffcnaafkaa
