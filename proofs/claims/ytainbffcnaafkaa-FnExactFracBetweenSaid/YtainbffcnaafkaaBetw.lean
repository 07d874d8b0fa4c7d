/- FracBetween: what the reference and the program return of two fractions; no conditions. -/
import Derived.Test.YtainbffcnaafkaaBetween
import Derived.Test.YtainbffcnaafkaaCmp
namespace Go.Proofs.Ytainbffcnaafkaa
open Go.RowKit

theorem specFracBetween_no (a b c d : Int) (w : World) (hg : (fracB a b && fracB c d) = false) :
    Calls Try.prog 39 #[.agg #[.int .i64 a, .int .i64 b], .agg #[.int .i64 c, .int .i64 d]] w fun e w' => e = .returned (.tuple #[.agg #[.int .i64 0, .int .i64 0], .bool false]) ∧ Below w.heap.size w w' := by
  replace hg := hide hg
  have HK := Kept.start (Nat.le_refl (((w.alloc (.cells #[.int .i64 a, .int .i64 b] 26)).alloc (.cells #[.int .i64 c, .int .i64 d] 26)).alloc (.cells #[.int .i64 0, .int .i64 0] 26)).heap.size)
  have hc := trivial
  have hf := trivial
  go_enter Try.func39, Try.ntmps39
  go_wp2_with fail
  refine (l2Two_any _ _ _ _ _).mono ?_
  rintro e w1 ⟨rfl, hb⟩
  rw [hg.out]
  replace HK := HK.step hb
  clear hb hc hf
  have hc := HK.cells
  have hf := HK.frozen
  obtain ⟨r0, r1⟩ := two_cells (w := w1) (b := w.heap.size + 1 + 1) (x := .int .i64 0) (y := .int .i64 0) (by rw [hc _ _ (by first | (simp; done) | (simp; omega) | omega)]; go_simp) (by rw [hc _ _ (by first | (simp; done) | (simp; omega) | omega)]; go_simp)
  go_wp2
  refine bodyPost_ret (v := .tuple #[.agg #[.int .i64 0, .int .i64 0], .bool false]) (by simp [results, Try.results39, go_sem, r0, r1]) rfl ⟨rfl, ?_⟩
  exact Below.setCell (Below.setCell (HK.below (by repeat (first | exact Below.refl _ _ | (refine below_drewN ?_ _) | (refine Below.drew ?_) | (refine Below.alloc ?_ (by first | exact Nat.le_refl _ | (simp; done) | (simp; omega) | omega) _) | (refine Below.setCell ?_ (by first | exact Nat.le_refl _ | (simp; done) | (simp; omega) | omega) _) | (refine Below.trans ?_ (Below.mono (by assumption) (by first | exact Nat.le_refl _ | (simp; done) | (simp; omega) | omega))))) (by first | (simp; done) | (simp; omega) | omega)) (by first | (simp; done) | (simp; omega) | omega) _) (by first | (simp; done) | (simp; omega) | omega) _

theorem implFracBetween_no (a b c d : Int) (w : World) (hg : (fracB a b && fracB c d) = false) :
    Calls Try.prog 40 #[.agg #[.int .i64 a, .int .i64 b], .agg #[.int .i64 c, .int .i64 d]] w fun e w' => e = .returned (.tuple #[.agg #[.int .i64 0, .int .i64 0], .bool false]) ∧ Below w.heap.size w w' := by
  replace hg := hide hg
  have HK := Kept.start (Nat.le_refl (((w.alloc (.cells #[.int .i64 a, .int .i64 b] 26)).alloc (.cells #[.int .i64 c, .int .i64 d] 26)).alloc (.cells #[.int .i64 0, .int .i64 0] 26)).heap.size)
  have hc := trivial
  have hf := trivial
  go_enter Try.func40, Try.ntmps40
  go_wp2_with fail
  refine (areFracs_any _ _ _ _ _).mono ?_
  rintro e w1 ⟨rfl, hb⟩
  rw [hg.out]
  replace HK := HK.step hb
  clear hb hc hf
  have hc := HK.cells
  have hf := HK.frozen
  obtain ⟨r0, r1⟩ := two_cells (w := w1) (b := w.heap.size + 1 + 1) (x := .int .i64 0) (y := .int .i64 0) (by rw [hc _ _ (by first | (simp; done) | (simp; omega) | omega)]; go_simp) (by rw [hc _ _ (by first | (simp; done) | (simp; omega) | omega)]; go_simp)
  go_wp2
  refine bodyPost_ret (v := .tuple #[.agg #[.int .i64 0, .int .i64 0], .bool false]) (by simp [results, Try.results40, go_sem, r0, r1]) rfl ⟨rfl, ?_⟩
  exact Below.setCell (Below.setCell (HK.below (by repeat (first | exact Below.refl _ _ | (refine below_drewN ?_ _) | (refine Below.drew ?_) | (refine Below.alloc ?_ (by first | exact Nat.le_refl _ | (simp; done) | (simp; omega) | omega) _) | (refine Below.setCell ?_ (by first | exact Nat.le_refl _ | (simp; done) | (simp; omega) | omega) _) | (refine Below.trans ?_ (Below.mono (by assumption) (by first | exact Nat.le_refl _ | (simp; done) | (simp; omega) | omega))))) (by first | (simp; done) | (simp; omega) | omega)) (by first | (simp; done) | (simp; omega) | omega) _) (by first | (simp; done) | (simp; omega) | omega) _

/-- The bounds of what is reckoned at one denominator. -/
theorem at_bd (a b c d j : Int) (a3 : -100000000 ≤ a) (a4 : a ≤ 100000000) (b1 : 1 ≤ b) (d1 : 1 ≤ d) (d2 : d ≤ 100000) (c3 : -100000000 ≤ c) (c4 : c ≤ 100000000) (j1 : 1 ≤ j) (j2 : j ≤ 100000) :
    -10000000000000 ≤ a * j ∧ a * j ≤ 10000000000000 ∧ -10000000000000 ≤ a * j / b ∧ a * j / b ≤ 10000000000000 ∧ -1000000100000000000 ≤ (a * j / b + 1) * d ∧ (a * j / b + 1) * d ≤ 1000000100000000000 ∧ -10000000000000 ≤ c * j ∧ c * j ≤ 10000000000000 := by
  obtain ⟨p1, p2⟩ := prod_bd a j 100000000 100000 (by omega) (by omega) (by omega) (by omega)
  obtain ⟨p3, p4⟩ := prod_bd c j 100000000 100000 (by omega) (by omega) (by omega) (by omega)
  obtain ⟨q1, q2⟩ := quot_bd (a * j) b b1 10000000000000 (by omega) (by omega)
  obtain ⟨p5, p6⟩ := prod_bd (a * j / b + 1) d 10000000000001 100000 (by omega) (by omega) (by omega) (by omega)
  omega

set_option maxHeartbeats 1600000 in
theorem specFracBetween_yes (a b c d : Int) (w : World) (hg : (fracB a b && fracB c d) = true) (D : Int) (D1 : 1 ≤ D) (D2 : D ≤ 100000) (hD : bc a b c d D) (hmin : ∀ j, 1 ≤ j → j < D → ¬ bc a b c d j) (hF : fracB (bf a b D) D = true) :
    Calls Try.prog 39 #[.agg #[.int .i64 a, .int .i64 b], .agg #[.int .i64 c, .int .i64 d]] w fun e w' => e = .returned (.tuple #[.agg #[.int .i64 (bf a b D), .int .i64 D], .bool true]) ∧ Below w.heap.size w w' := by
  obtain ⟨a1, a2, a3, a4, c1, c2, c3, c4⟩ := two_bd hg
  obtain ⟨p1, p2⟩ := prod_bd a d 100000000 100000 (by omega) (by omega) (by omega) (by omega)
  obtain ⟨p3, p4⟩ := prod_bd c b 100000000 100000 (by omega) (by omega) (by omega) (by omega)
  replace hg := hide hg
  have HK := Kept.start (Nat.le_refl (((w.alloc (.cells #[.int .i64 a, .int .i64 b] 26)).alloc (.cells #[.int .i64 c, .int .i64 d] 26)).alloc (.cells #[.int .i64 0, .int .i64 0] 26)).heap.size)
  have hc := trivial
  have hf := trivial
  have hlt0 := bc_lt a b c d D (by omega) (by omega) D1 hD
  have HC := hide (show cmpI (a * d) (c * b) = -1 by unfold cmpI; rw [if_pos hlt0])
  obtain ⟨m1, m2, m3⟩ := mk_low (bf a b D) D (bc_gcd a b c d D (by omega) (by omega) D1 hD hmin)
  rw [hF] at m1 m2 m3
  replace m1 := hide m1
  replace m2 := hide (show mkN (bf a b D) D = bf a b D from m2)
  replace m3 := hide (show mkD (bf a b D) D = D from m3)
  have HD := hide hD
  have HMIN := hide hmin
  clear hD hmin hF hlt0
  go_enter Try.func39, Try.ntmps39
  go_wp2_with fail
  refine (l2Two_any _ _ _ _ _).mono ?_
  rintro e w1 ⟨rfl, hb⟩
  rw [hg.out]
  replace HK := HK.step hb
  clear hb hc hf
  have hc := HK.cells
  have hf := HK.frozen
  go_wp2_with fail
  refine (l2Cmp_any _ _ _ _ _ (by omega) (by omega) (by omega) (by omega)).mono ?_
  rintro e w2 ⟨rfl, hb⟩
  rw [HC.out]
  replace HK := HK.step hb
  clear hb hc hf
  have hc := HK.cells
  have hf := HK.frozen
  have q0 : w2.cell? ⟨w.heap.size, 0, none⟩ = some (.int .i64 a) := by rw [hc _ _ (by first | (simp; done) | (simp; omega) | omega)]; go_simp
  have q1 : w2.cell? ⟨w.heap.size, 1, none⟩ = some (.int .i64 b) := by rw [hc _ _ (by first | (simp; done) | (simp; omega) | omega)]; go_simp
  have q2 : w2.cell? ⟨w.heap.size + 1, 0, none⟩ = some (.int .i64 c) := by rw [hc _ _ (by first | (simp; done) | (simp; omega) | omega)]; go_simp
  have q3 : w2.cell? ⟨w.heap.size + 1, 1, none⟩ = some (.int .i64 d) := by rw [hc _ _ (by first | (simp; done) | (simp; omega) | omega)]; go_simp
  have q4 : w2.cell? ⟨w.heap.size + 1 + 1, 0, none⟩ = some (.int .i64 0) := by rw [hc _ _ (by first | (simp; done) | (simp; omega) | omega)]; go_simp
  have q5 : w2.cell? ⟨w.heap.size + 1 + 1, 1, none⟩ = some (.int .i64 0) := by rw [hc _ _ (by first | (simp; done) | (simp; omega) | omega)]; go_simp
  have q6 : w2.frozen? ⟨w.heap.size + 1 + 1, 0, none⟩ = false := by rw [hf _ _ (by first | (simp; done) | (simp; omega) | omega)]; go_simp
  have q7 : w2.frozen? ⟨w.heap.size + 1 + 1, 1, none⟩ = false := by rw [hf _ _ (by first | (simp; done) | (simp; omega) | omega)]; go_simp
  clear hc hf
  go_wp2_with fail
  go_loop [6, 7] (fun t _ => ∃ j : Int, 1 ≤ j ∧ j ≤ D ∧ t = .int .i64 j) (fun t _ => (100001 - intOf t).toNat)
  case atStart => exact ⟨1, by omega, D1, rfl⟩
  case round =>
    obtain ⟨j, j1, j2, rfl⟩ := hrel
    by_cases hj : j < D
    · have HN := hide (HMIN.out j j1 hj)
      obtain ⟨e1, e2, e3, e4, e5, e6, e7, e8⟩ := at_bd a b c d j a3 a4 (by omega) (by omega) (by omega) c3 c4 (by omega) (by omega)
      obtain ⟨q, HQ⟩ : ∃ q, Hid (a * j / b = q) := ⟨_, rfl⟩
      rw [HQ.out] at e3 e4 e5 e6
      have hn : ¬ (q + 1) * d < c * j := by have := HN.out; unfold bc bf at this; rwa [HQ.out] at this
      go_wp2_with (first | (go_at_call 47; refine (l2Floor_any _ _ _ (by omega) (by omega) (by omega) (by omega)).mono ?_; rintro e w' ⟨rfl, rfl⟩; rw [HQ.out]))
      go_round
      case rel => first | exact ⟨j + 1, by omega, by omega, rfl⟩ | ((repeat apply Exists.intro); refine ⟨?_, rfl⟩; exact ⟨j + 1, by omega, by omega, rfl⟩)
      case measure => simp [intOf]; omega
    · have hjD : j = D := by omega
      subst hjD
      obtain ⟨e1, e2, e3, e4, e5, e6, e7, e8⟩ := at_bd a b c d j a3 a4 (by omega) (by omega) (by omega) c3 c4 (by omega) (by omega)
      obtain ⟨q, HQ⟩ : ∃ q, Hid (a * j / b = q) := ⟨_, rfl⟩
      rw [HQ.out] at e3 e4 e5 e6
      have hn : (q + 1) * d < c * j := by have := HD.out; unfold bc bf at this; rwa [HQ.out] at this
      have HF : Hid (bf a b j = q + 1) := by unfold bf Hid; rw [HQ.out]
      rw [HF.out] at m1 m2 m3
      go_wp2_with (first | (go_at_call 47; refine (l2Floor_any _ _ _ (by omega) (by omega) (by omega) (by omega)).mono ?_; rintro e w' ⟨rfl, rfl⟩; rw [HQ.out]) | (go_at_call 51; refine (l2Make_any _ _ _ (by omega) (by omega) (by omega) (by omega)).mono ?_; rintro e w3 ⟨rfl, hb⟩; rw [m1.out, m2.out, m3.out]; replace HK := HK.step hb; have hc := HK.cells; have hf := HK.frozen))
      obtain ⟨r0, r1⟩ := two_cells (w := w3) (b := w.heap.size + 1 + 1) (x := .int .i64 0) (y := .int .i64 0) (by rw [hc _ _ (by first | (simp; done) | (simp; omega) | omega)]; go_simp) (by rw [hc _ _ (by first | (simp; done) | (simp; omega) | omega)]; go_simp)
      refine bodyPost_ret (v := .tuple #[.agg #[.int .i64 (q + 1), .int .i64 j], .bool true]) (by simp [results, Try.results39, go_sem, r0, r1]) rfl ⟨by rw [HF.out], ?_⟩
      exact Below.setCell (Below.setCell (HK.below (by repeat (first | exact Below.refl _ _ | (refine below_drewN ?_ _) | (refine Below.drew ?_) | (refine Below.alloc ?_ (by first | exact Nat.le_refl _ | (simp; done) | (simp; omega) | omega) _) | (refine Below.setCell ?_ (by first | exact Nat.le_refl _ | (simp; done) | (simp; omega) | omega) _) | (refine Below.trans ?_ (Below.mono (by assumption) (by first | exact Nat.le_refl _ | (simp; done) | (simp; omega) | omega))))) (by first | (simp; done) | (simp; omega) | omega)) (by first | (simp; done) | (simp; omega) | omega) _) (by first | (simp; done) | (simp; omega) | omega) _

set_option maxHeartbeats 1600000 in
theorem specFracBetween_none (a b c d : Int) (w : World) (hg : (fracB a b && fracB c d) = true) (hN : ∀ j, 1 ≤ j → j ≤ 100000 → bc a b c d j → fracB (bf a b j) j = false) :
    Calls Try.prog 39 #[.agg #[.int .i64 a, .int .i64 b], .agg #[.int .i64 c, .int .i64 d]] w fun e w' => e = .returned (.tuple #[.agg #[.int .i64 0, .int .i64 0], .bool false]) ∧ Below w.heap.size w w' := by
  obtain ⟨a1, a2, a3, a4, c1, c2, c3, c4⟩ := two_bd hg
  obtain ⟨p1, p2⟩ := prod_bd a d 100000000 100000 (by omega) (by omega) (by omega) (by omega)
  obtain ⟨p3, p4⟩ := prod_bd c b 100000000 100000 (by omega) (by omega) (by omega) (by omega)
  replace hg := hide hg
  have HK := Kept.start (Nat.le_refl (((w.alloc (.cells #[.int .i64 a, .int .i64 b] 26)).alloc (.cells #[.int .i64 c, .int .i64 d] 26)).alloc (.cells #[.int .i64 0, .int .i64 0] 26)).heap.size)
  have hc := trivial
  have hf := trivial
  have HN := hide hN
  clear hN
  by_cases hlt0 : a * d < c * b
  · have HC := hide (show cmpI (a * d) (c * b) = -1 by unfold cmpI; rw [if_pos hlt0])
    clear hlt0
    go_enter Try.func39, Try.ntmps39
    go_wp2_with fail
    refine (l2Two_any _ _ _ _ _).mono ?_
    rintro e w1 ⟨rfl, hb⟩
    rw [hg.out]
    replace HK := HK.step hb
    clear hb hc hf
    have hc := HK.cells
    have hf := HK.frozen
    go_wp2_with fail
    refine (l2Cmp_any _ _ _ _ _ (by omega) (by omega) (by omega) (by omega)).mono ?_
    rintro e w2 ⟨rfl, hb⟩
    rw [HC.out]
    replace HK := HK.step hb
    clear hb hc hf
    have hc := HK.cells
    have hf := HK.frozen
    have q0 : w2.cell? ⟨w.heap.size, 0, none⟩ = some (.int .i64 a) := by rw [hc _ _ (by first | (simp; done) | (simp; omega) | omega)]; go_simp
    have q1 : w2.cell? ⟨w.heap.size, 1, none⟩ = some (.int .i64 b) := by rw [hc _ _ (by first | (simp; done) | (simp; omega) | omega)]; go_simp
    have q2 : w2.cell? ⟨w.heap.size + 1, 0, none⟩ = some (.int .i64 c) := by rw [hc _ _ (by first | (simp; done) | (simp; omega) | omega)]; go_simp
    have q3 : w2.cell? ⟨w.heap.size + 1, 1, none⟩ = some (.int .i64 d) := by rw [hc _ _ (by first | (simp; done) | (simp; omega) | omega)]; go_simp
    have q4 : w2.cell? ⟨w.heap.size + 1 + 1, 0, none⟩ = some (.int .i64 0) := by rw [hc _ _ (by first | (simp; done) | (simp; omega) | omega)]; go_simp
    have q5 : w2.cell? ⟨w.heap.size + 1 + 1, 1, none⟩ = some (.int .i64 0) := by rw [hc _ _ (by first | (simp; done) | (simp; omega) | omega)]; go_simp
    have q6 : w2.frozen? ⟨w.heap.size + 1 + 1, 0, none⟩ = false := by rw [hf _ _ (by first | (simp; done) | (simp; omega) | omega)]; go_simp
    have q7 : w2.frozen? ⟨w.heap.size + 1 + 1, 1, none⟩ = false := by rw [hf _ _ (by first | (simp; done) | (simp; omega) | omega)]; go_simp
    clear hc hf
    go_wp2_with fail
    go_loop [6, 7] (fun t _ => ∃ j : Int, 1 ≤ j ∧ j ≤ 100001 ∧ t = .int .i64 j ∧ Hid (∀ i, 1 ≤ i → i < j → ¬ bc a b c d i)) (fun t _ => (100001 - intOf t).toNat)
    case atStart => exact ⟨1, by omega, by omega, rfl, fun i i1 i2 => by omega⟩
    case round =>
      obtain ⟨j, j1, j2, rfl, HMIN⟩ := hrel
      by_cases hj : j ≤ 100000
      · obtain ⟨e1, e2, e3, e4, e5, e6, e7, e8⟩ := at_bd a b c d j a3 a4 (by omega) (by omega) (by omega) c3 c4 (by omega) (by omega)
        obtain ⟨q, HQ⟩ : ∃ q, Hid (a * j / b = q) := ⟨_, rfl⟩
        rw [HQ.out] at e3 e4 e5 e6
        by_cases hn : (q + 1) * d < c * j
        · have HD : Hid (bc a b c d j) := by unfold Hid bc bf; rw [HQ.out]; exact hn
          have HF : Hid (bf a b j = q + 1) := by unfold bf Hid; rw [HQ.out]
          obtain ⟨m1, m2, m3⟩ := mk_low (bf a b j) j (bc_gcd a b c d j (by omega) (by omega) j1 HD.out HMIN.out)
          rw [HN.out j j1 hj HD.out] at m1 m2 m3
          replace m1 := hide m1
          replace m2 := hide (show mkN (bf a b j) j = 0 from m2)
          replace m3 := hide (show mkD (bf a b j) j = 0 from m3)
          rw [HF.out] at m1 m2 m3
          go_wp2_with (first | (go_at_call 47; refine (l2Floor_any _ _ _ (by omega) (by omega) (by omega) (by omega)).mono ?_; rintro e w' ⟨rfl, rfl⟩; rw [HQ.out]) | (go_at_call 51; refine (l2Make_any _ _ _ (by omega) (by omega) (by omega) (by omega)).mono ?_; rintro e w3 ⟨rfl, hb⟩; rw [m1.out, m2.out, m3.out]; replace HK := HK.step hb; have hc := HK.cells; have hf := HK.frozen))
          obtain ⟨r0, r1⟩ := two_cells (w := w3) (b := w.heap.size + 1 + 1) (x := .int .i64 0) (y := .int .i64 0) (by rw [hc _ _ (by first | (simp; done) | (simp; omega) | omega)]; go_simp) (by rw [hc _ _ (by first | (simp; done) | (simp; omega) | omega)]; go_simp)
          refine bodyPost_ret (v := .tuple #[.agg #[.int .i64 0, .int .i64 0], .bool false]) (by simp [results, Try.results39, go_sem, r0, r1]) rfl ⟨rfl, ?_⟩
          exact Below.setCell (Below.setCell (HK.below (by repeat (first | exact Below.refl _ _ | (refine below_drewN ?_ _) | (refine Below.drew ?_) | (refine Below.alloc ?_ (by first | exact Nat.le_refl _ | (simp; done) | (simp; omega) | omega) _) | (refine Below.setCell ?_ (by first | exact Nat.le_refl _ | (simp; done) | (simp; omega) | omega) _) | (refine Below.trans ?_ (Below.mono (by assumption) (by first | exact Nat.le_refl _ | (simp; done) | (simp; omega) | omega))))) (by first | (simp; done) | (simp; omega) | omega)) (by first | (simp; done) | (simp; omega) | omega) _) (by first | (simp; done) | (simp; omega) | omega) _
        · go_wp2_with (first | (go_at_call 47; refine (l2Floor_any _ _ _ (by omega) (by omega) (by omega) (by omega)).mono ?_; rintro e w' ⟨rfl, rfl⟩; rw [HQ.out]))
          go_round
          case rel => first | exact ⟨j + 1, by omega, by omega, rfl, fun i i1 i2 => by
            by_cases e : i = j
            · subst e
              unfold bc bf
              rw [HQ.out]
              omega
            · exact HMIN.out i i1 (by omega)⟩ | ((repeat apply Exists.intro); refine ⟨?_, rfl⟩; exact ⟨j + 1, by omega, by omega, rfl, fun i i1 i2 => by
            by_cases e : i = j
            · subst e
              unfold bc bf
              rw [HQ.out]
              omega
            · exact HMIN.out i i1 (by omega)⟩)
          case measure => simp [intOf]; omega
      · go_wp2
        obtain ⟨r0, r1⟩ := two_cells (w := w2) (b := w.heap.size + 1 + 1) (x := .int .i64 0) (y := .int .i64 0) q4 q5
        refine bodyPost_ret (v := .tuple #[.agg #[.int .i64 0, .int .i64 0], .bool false]) (by simp [results, Try.results39, go_sem, r0, r1]) rfl ⟨rfl, ?_⟩
        exact Below.setCell (Below.setCell (HK.below (by repeat (first | exact Below.refl _ _ | (refine below_drewN ?_ _) | (refine Below.drew ?_) | (refine Below.alloc ?_ (by first | exact Nat.le_refl _ | (simp; done) | (simp; omega) | omega) _) | (refine Below.setCell ?_ (by first | exact Nat.le_refl _ | (simp; done) | (simp; omega) | omega) _) | (refine Below.trans ?_ (Below.mono (by assumption) (by first | exact Nat.le_refl _ | (simp; done) | (simp; omega) | omega))))) (by first | (simp; done) | (simp; omega) | omega)) (by first | (simp; done) | (simp; omega) | omega) _) (by first | (simp; done) | (simp; omega) | omega) _

  · have HC : Hid (0 ≤ cmpI (a * d) (c * b)) := by unfold cmpI Hid; rw [if_neg hlt0]; split <;> omega
    obtain ⟨v, HV⟩ : ∃ v, Hid (cmpI (a * d) (c * b) = v) := ⟨_, rfl⟩
    have hv : 0 ≤ v := by rw [← HV.out]; exact HC.out
    clear hlt0
    go_enter Try.func39, Try.ntmps39
    go_wp2_with fail
    refine (l2Two_any _ _ _ _ _).mono ?_
    rintro e w1 ⟨rfl, hb⟩
    rw [hg.out]
    replace HK := HK.step hb
    clear hb hc hf
    have hc := HK.cells
    have hf := HK.frozen
    go_wp2_with fail
    refine (l2Cmp_any _ _ _ _ _ (by omega) (by omega) (by omega) (by omega)).mono ?_
    rintro e w2 ⟨rfl, hb⟩
    rw [HV.out]
    replace HK := HK.step hb
    clear hb hc hf
    have hc := HK.cells
    have hf := HK.frozen
    have q0 : w2.cell? ⟨w.heap.size, 0, none⟩ = some (.int .i64 a) := by rw [hc _ _ (by first | (simp; done) | (simp; omega) | omega)]; go_simp
    have q1 : w2.cell? ⟨w.heap.size, 1, none⟩ = some (.int .i64 b) := by rw [hc _ _ (by first | (simp; done) | (simp; omega) | omega)]; go_simp
    have q2 : w2.cell? ⟨w.heap.size + 1, 0, none⟩ = some (.int .i64 c) := by rw [hc _ _ (by first | (simp; done) | (simp; omega) | omega)]; go_simp
    have q3 : w2.cell? ⟨w.heap.size + 1, 1, none⟩ = some (.int .i64 d) := by rw [hc _ _ (by first | (simp; done) | (simp; omega) | omega)]; go_simp
    have q4 : w2.cell? ⟨w.heap.size + 1 + 1, 0, none⟩ = some (.int .i64 0) := by rw [hc _ _ (by first | (simp; done) | (simp; omega) | omega)]; go_simp
    have q5 : w2.cell? ⟨w.heap.size + 1 + 1, 1, none⟩ = some (.int .i64 0) := by rw [hc _ _ (by first | (simp; done) | (simp; omega) | omega)]; go_simp
    have q6 : w2.frozen? ⟨w.heap.size + 1 + 1, 0, none⟩ = false := by rw [hf _ _ (by first | (simp; done) | (simp; omega) | omega)]; go_simp
    have q7 : w2.frozen? ⟨w.heap.size + 1 + 1, 1, none⟩ = false := by rw [hf _ _ (by first | (simp; done) | (simp; omega) | omega)]; go_simp
    clear hc hf
    go_wp2
    obtain ⟨r0, r1⟩ := two_cells (w := w2) (b := w.heap.size + 1 + 1) (x := .int .i64 0) (y := .int .i64 0) q4 q5
    refine bodyPost_ret (v := .tuple #[.agg #[.int .i64 0, .int .i64 0], .bool false]) (by simp [results, Try.results39, go_sem, r0, r1]) rfl ⟨rfl, ?_⟩
    exact Below.setCell (Below.setCell (HK.below (by repeat (first | exact Below.refl _ _ | (refine below_drewN ?_ _) | (refine Below.drew ?_) | (refine Below.alloc ?_ (by first | exact Nat.le_refl _ | (simp; done) | (simp; omega) | omega) _) | (refine Below.setCell ?_ (by first | exact Nat.le_refl _ | (simp; done) | (simp; omega) | omega) _) | (refine Below.trans ?_ (Below.mono (by assumption) (by first | exact Nat.le_refl _ | (simp; done) | (simp; omega) | omega))))) (by first | (simp; done) | (simp; omega) | omega)) (by first | (simp; done) | (simp; omega) | omega) _) (by first | (simp; done) | (simp; omega) | omega) _


set_option maxHeartbeats 1600000 in
theorem implFracBetween_yes (a b c d : Int) (w : World) (hg : (fracB a b && fracB c d) = true) (D : Int) (D1 : 1 ≤ D) (D2 : D ≤ 100000) (hD : bc a b c d D) (hmin : ∀ j, 1 ≤ j → j < D → ¬ bc a b c d j) (hF : fracB (bf a b D) D = true) :
    Calls Try.prog 40 #[.agg #[.int .i64 a, .int .i64 b], .agg #[.int .i64 c, .int .i64 d]] w fun e w' => e = .returned (.tuple #[.agg #[.int .i64 (bf a b D), .int .i64 D], .bool true]) ∧ Below w.heap.size w w' := by
  obtain ⟨a1, a2, a3, a4, c1, c2, c3, c4⟩ := two_bd hg
  obtain ⟨p1, p2⟩ := prod_bd a d 100000000 100000 (by omega) (by omega) (by omega) (by omega)
  obtain ⟨p3, p4⟩ := prod_bd c b 100000000 100000 (by omega) (by omega) (by omega) (by omega)
  replace hg := hide hg
  have HK := Kept.start (Nat.le_refl (((w.alloc (.cells #[.int .i64 a, .int .i64 b] 26)).alloc (.cells #[.int .i64 c, .int .i64 d] 26)).alloc (.cells #[.int .i64 0, .int .i64 0] 26)).heap.size)
  have hc := trivial
  have hf := trivial
  have HD := hide hD
  have HMIN := hide hmin
  replace hF := hide hF
  clear hD hmin
  go_enter Try.func40, Try.ntmps40
  go_wp2_with fail
  refine (areFracs_any _ _ _ _ _).mono ?_
  rintro e w2 ⟨rfl, hb⟩
  rw [hg.out]
  replace HK := HK.step hb
  clear hb hc hf
  have hc := HK.cells
  have hf := HK.frozen
  have q0 : w2.cell? ⟨w.heap.size, 0, none⟩ = some (.int .i64 a) := by rw [hc _ _ (by first | (simp; done) | (simp; omega) | omega)]; go_simp
  have q1 : w2.cell? ⟨w.heap.size, 1, none⟩ = some (.int .i64 b) := by rw [hc _ _ (by first | (simp; done) | (simp; omega) | omega)]; go_simp
  have q2 : w2.cell? ⟨w.heap.size + 1, 0, none⟩ = some (.int .i64 c) := by rw [hc _ _ (by first | (simp; done) | (simp; omega) | omega)]; go_simp
  have q3 : w2.cell? ⟨w.heap.size + 1, 1, none⟩ = some (.int .i64 d) := by rw [hc _ _ (by first | (simp; done) | (simp; omega) | omega)]; go_simp
  have q4 : w2.cell? ⟨w.heap.size + 1 + 1, 0, none⟩ = some (.int .i64 0) := by rw [hc _ _ (by first | (simp; done) | (simp; omega) | omega)]; go_simp
  have q5 : w2.cell? ⟨w.heap.size + 1 + 1, 1, none⟩ = some (.int .i64 0) := by rw [hc _ _ (by first | (simp; done) | (simp; omega) | omega)]; go_simp
  have q6 : w2.frozen? ⟨w.heap.size + 1 + 1, 0, none⟩ = false := by rw [hf _ _ (by first | (simp; done) | (simp; omega) | omega)]; go_simp
  have q7 : w2.frozen? ⟨w.heap.size + 1 + 1, 1, none⟩ = false := by rw [hf _ _ (by first | (simp; done) | (simp; omega) | omega)]; go_simp
  clear hc hf
  go_wp2_with fail
  go_loop [6, 7] (fun t _ => ∃ j : Int, 1 ≤ j ∧ j ≤ D ∧ t = .int .i64 j) (fun t _ => (100001 - intOf t).toNat)
  case atStart => exact ⟨1, by omega, D1, rfl⟩
  case round =>
    obtain ⟨j, j1, j2, rfl⟩ := hrel
    by_cases hj : j < D
    · have HN := hide (HMIN.out j j1 hj)
      obtain ⟨e1, e2, e3, e4, e5, e6, e7, e8⟩ := at_bd a b c d j a3 a4 (by omega) (by omega) (by omega) c3 c4 (by omega) (by omega)
      obtain ⟨q, HQ⟩ : ∃ q, Hid (a * j / b = q) := ⟨_, rfl⟩
      rw [HQ.out] at e3 e4 e5 e6
      have hn : ¬ (q + 1) * d < c * j := by have := HN.out; unfold bc bf at this; rwa [HQ.out] at this
      go_wp2_with (first | (go_at_call 49; refine (floorDiv_any _ _ _ (by omega) (by omega) (by omega) (by omega)).mono ?_; rintro e w' ⟨rfl, rfl⟩; rw [HQ.out]))
      go_round
      case rel => first | exact ⟨j + 1, by omega, by omega, rfl⟩ | ((repeat apply Exists.intro); refine ⟨?_, rfl⟩; exact ⟨j + 1, by omega, by omega, rfl⟩)
      case measure => simp [intOf]; omega
    · have hjD : j = D := by omega
      subst hjD
      obtain ⟨e1, e2, e3, e4, e5, e6, e7, e8⟩ := at_bd a b c d j a3 a4 (by omega) (by omega) (by omega) c3 c4 (by omega) (by omega)
      obtain ⟨q, HQ⟩ : ∃ q, Hid (a * j / b = q) := ⟨_, rfl⟩
      rw [HQ.out] at e3 e4 e5 e6
      have hn : (q + 1) * d < c * j := by have := HD.out; unfold bc bf at this; rwa [HQ.out] at this
      have HF : Hid (bf a b j = q + 1) := by unfold bf Hid; rw [HQ.out]
      rw [HF.out] at hF
      have hz := HK.size
      simp at hz
      go_wp2_with (first | (go_at_call 49; refine (floorDiv_any _ _ _ (by omega) (by omega) (by omega) (by omega)).mono ?_; rintro e w' ⟨rfl, rfl⟩; rw [HQ.out]) | (go_at_call 48; refine (isFrac_any _ _ _).mono ?_; rintro e w3 ⟨rfl, hb⟩; rw [hF.out]; have hq := two_new hb; replace HK := (HK.alloc _).step hb; have hc := HK.cells; have hf := HK.frozen))
      obtain ⟨r0, r1⟩ := two_cells (w := w3) (b := w.heap.size + 1 + 1) (x := .int .i64 0) (y := .int .i64 0) (by rw [hc _ _ (by first | (simp; done) | (simp; omega) | omega)]; go_simp) (by rw [hc _ _ (by first | (simp; done) | (simp; omega) | omega)]; go_simp)
      refine bodyPost_ret (v := .tuple #[.agg #[.int .i64 (q + 1), .int .i64 j], .bool true]) (by simp [results, Try.results40, go_sem, r0, r1]) rfl ⟨by rw [HF.out], ?_⟩
      exact Below.setCell (Below.setCell (HK.below (by repeat (first | exact Below.refl _ _ | (refine below_drewN ?_ _) | (refine Below.drew ?_) | (refine Below.alloc ?_ (by first | exact Nat.le_refl _ | (simp; done) | (simp; omega) | omega) _) | (refine Below.setCell ?_ (by first | exact Nat.le_refl _ | (simp; done) | (simp; omega) | omega) _) | (refine Below.trans ?_ (Below.mono (by assumption) (by first | exact Nat.le_refl _ | (simp; done) | (simp; omega) | omega))))) (by first | (simp; done) | (simp; omega) | omega)) (by first | (simp; done) | (simp; omega) | omega) _) (by first | (simp; done) | (simp; omega) | omega) _

set_option maxHeartbeats 1600000 in
theorem implFracBetween_none (a b c d : Int) (w : World) (hg : (fracB a b && fracB c d) = true) (hN : ∀ j, 1 ≤ j → j ≤ 100000 → bc a b c d j → fracB (bf a b j) j = false) :
    Calls Try.prog 40 #[.agg #[.int .i64 a, .int .i64 b], .agg #[.int .i64 c, .int .i64 d]] w fun e w' => e = .returned (.tuple #[.agg #[.int .i64 0, .int .i64 0], .bool false]) ∧ Below w.heap.size w w' := by
  obtain ⟨a1, a2, a3, a4, c1, c2, c3, c4⟩ := two_bd hg
  obtain ⟨p1, p2⟩ := prod_bd a d 100000000 100000 (by omega) (by omega) (by omega) (by omega)
  obtain ⟨p3, p4⟩ := prod_bd c b 100000000 100000 (by omega) (by omega) (by omega) (by omega)
  replace hg := hide hg
  have HK := Kept.start (Nat.le_refl (((w.alloc (.cells #[.int .i64 a, .int .i64 b] 26)).alloc (.cells #[.int .i64 c, .int .i64 d] 26)).alloc (.cells #[.int .i64 0, .int .i64 0] 26)).heap.size)
  have hc := trivial
  have hf := trivial
  have HN := hide hN
  clear hN
  go_enter Try.func40, Try.ntmps40
  go_wp2_with fail
  refine (areFracs_any _ _ _ _ _).mono ?_
  rintro e w2 ⟨rfl, hb⟩
  rw [hg.out]
  replace HK := HK.step hb
  clear hb hc hf
  go_wp2_with fail
  go_loopw [6, 7, 8] (fun t _ _ wr => ∃ j : Int, 1 ≤ j ∧ j ≤ 100001 ∧ t = .int .i64 j ∧ Kept (((w.alloc (.cells #[.int .i64 a, .int .i64 b] 26)).alloc (.cells #[.int .i64 c, .int .i64 d] 26)).alloc (.cells #[.int .i64 0, .int .i64 0] 26)).heap.size (((w.alloc (.cells #[.int .i64 a, .int .i64 b] 26)).alloc (.cells #[.int .i64 c, .int .i64 d] 26)).alloc (.cells #[.int .i64 0, .int .i64 0] 26)) wr) (fun t _ _ _ => (100001 - intOf t).toNat)
  case atStart => exact ⟨1, by omega, by omega, rfl, HK⟩
  case round =>
    clear HK
    obtain ⟨j, j1, j2, rfl, HK⟩ := hrel
    have hc := HK.cells
    have hf := HK.frozen
    have q0 : wr.cell? ⟨w.heap.size, 0, none⟩ = some (.int .i64 a) := by rw [hc _ _ (by first | (simp; done) | (simp; omega) | omega)]; go_simp
    have q1 : wr.cell? ⟨w.heap.size, 1, none⟩ = some (.int .i64 b) := by rw [hc _ _ (by first | (simp; done) | (simp; omega) | omega)]; go_simp
    have q2 : wr.cell? ⟨w.heap.size + 1, 0, none⟩ = some (.int .i64 c) := by rw [hc _ _ (by first | (simp; done) | (simp; omega) | omega)]; go_simp
    have q3 : wr.cell? ⟨w.heap.size + 1, 1, none⟩ = some (.int .i64 d) := by rw [hc _ _ (by first | (simp; done) | (simp; omega) | omega)]; go_simp
    have q4 : wr.cell? ⟨w.heap.size + 1 + 1, 0, none⟩ = some (.int .i64 0) := by rw [hc _ _ (by first | (simp; done) | (simp; omega) | omega)]; go_simp
    have q5 : wr.cell? ⟨w.heap.size + 1 + 1, 1, none⟩ = some (.int .i64 0) := by rw [hc _ _ (by first | (simp; done) | (simp; omega) | omega)]; go_simp
    have q6 : wr.frozen? ⟨w.heap.size + 1 + 1, 0, none⟩ = false := by rw [hf _ _ (by first | (simp; done) | (simp; omega) | omega)]; go_simp
    have q7 : wr.frozen? ⟨w.heap.size + 1 + 1, 1, none⟩ = false := by rw [hf _ _ (by first | (simp; done) | (simp; omega) | omega)]; go_simp
    have hz := HK.size
    simp at hz
    clear hc hf
    by_cases hj : j ≤ 100000
    · obtain ⟨e1, e2, e3, e4, e5, e6, e7, e8⟩ := at_bd a b c d j a3 a4 (by omega) (by omega) (by omega) c3 c4 (by omega) (by omega)
      obtain ⟨q, HQ⟩ : ∃ q, Hid (a * j / b = q) := ⟨_, rfl⟩
      rw [HQ.out] at e3 e4 e5 e6
      by_cases hn : (q + 1) * d < c * j
      · have HD : Hid (bc a b c d j) := by unfold Hid bc bf; rw [HQ.out]; exact hn
        have HF : Hid (fracB (q + 1) j = false) := by have := HN.out j j1 hj HD.out; unfold bf at this; rw [HQ.out] at this; exact this
        go_wp2_with (first | (go_at_call 49; refine (floorDiv_any _ _ _ (by omega) (by omega) (by omega) (by omega)).mono ?_; rintro e w' ⟨rfl, rfl⟩; rw [HQ.out]) | (go_at_call 48; refine (isFrac_any _ _ _).mono ?_; rintro e w3 ⟨rfl, hb⟩; rw [HF.out]; replace HK := (HK.alloc _).step hb))
        go_roundw
        case rel => first | exact ⟨j + 1, by omega, by omega, rfl, HK⟩ | ((repeat apply Exists.intro); refine ⟨?_, rfl⟩; exact ⟨j + 1, by omega, by omega, rfl, HK⟩)
        case measure => simp [intOf]; omega
      · go_wp2_with (first | (go_at_call 49; refine (floorDiv_any _ _ _ (by omega) (by omega) (by omega) (by omega)).mono ?_; rintro e w' ⟨rfl, rfl⟩; rw [HQ.out]))
        go_roundw
        case rel => first | exact ⟨j + 1, by omega, by omega, rfl, HK⟩ | ((repeat apply Exists.intro); refine ⟨?_, rfl⟩; exact ⟨j + 1, by omega, by omega, rfl, HK⟩)
        case measure => simp [intOf]; omega
    · go_wp2
      obtain ⟨r0, r1⟩ := two_cells (w := wr) (b := w.heap.size + 1 + 1) (x := .int .i64 0) (y := .int .i64 0) q4 q5
      refine bodyPost_ret (v := .tuple #[.agg #[.int .i64 0, .int .i64 0], .bool false]) (by simp [results, Try.results40, go_sem, r0, r1]) rfl ⟨rfl, ?_⟩
      exact Below.setCell (Below.setCell (HK.below (by repeat (first | exact Below.refl _ _ | (refine below_drewN ?_ _) | (refine Below.drew ?_) | (refine Below.alloc ?_ (by first | exact Nat.le_refl _ | (simp; done) | (simp; omega) | omega) _) | (refine Below.setCell ?_ (by first | exact Nat.le_refl _ | (simp; done) | (simp; omega) | omega) _) | (refine Below.trans ?_ (Below.mono (by assumption) (by first | exact Nat.le_refl _ | (simp; done) | (simp; omega) | omega))))) (by first | (simp; done) | (simp; omega) | omega)) (by first | (simp; done) | (simp; omega) | omega) _) (by first | (simp; done) | (simp; omega) | omega) _

end Go.Proofs.Ytainbffcnaafkaa
