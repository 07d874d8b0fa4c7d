/- Sums and products of two fractions by the reference, and whether two fractions are valid: what is computed; for products that are far from the bounds of 64 bits. -/
import Derived.Test.YtainbffcnaafkaaMake
namespace Go.Proofs.Ytainbffcnaafkaa
open Go.RowKit

theorem l2Add_any (a b c d : Int) (w : World) (h1 : -100000000000000000 ≤ a * d) (h2 : a * d ≤ 100000000000000000) (h3 : -100000000000000000 ≤ c * b) (h4 : c * b ≤ 100000000000000000) (h5 : 1 ≤ b * d) (h6 : b * d ≤ 100000000000000000) :
    Calls Try.prog 57 #[.agg #[.int .i64 a, .int .i64 b], .agg #[.int .i64 c, .int .i64 d]] w fun e w' => e = .returned (.tuple #[.agg #[.int .i64 (mkN (a * d + c * b) (b * d)), .int .i64 (mkD (a * d + c * b) (b * d))], .bool (mkB (a * d + c * b) (b * d))]) ∧ Below w.heap.size w w' := by
  go_enter Try.func57, Try.ntmps57
  go_wp2_with (go_at_call 51; refine (l2Make_any _ _ _ (by omega) (by omega) (by omega) (by omega)).mono ?_; rintro e w1 ⟨rfl, hb⟩; obtain ⟨hc, hf⟩ := bcell hb)
  obtain ⟨r0, r1⟩ := two_cells (w := w1) (b := w.heap.size + 1 + 1) (x := .int .i64 0) (y := .int .i64 0) (by rw [hc _ _ (by first | (simp; done) | (simp; omega) | omega)]; go_simp) (by rw [hc _ _ (by first | (simp; done) | (simp; omega) | omega)]; go_simp)
  refine bodyPost_ret (v := .tuple #[.agg #[.int .i64 (mkN (a * d + c * b) (b * d)), .int .i64 (mkD (a * d + c * b) (b * d))], .bool (mkB (a * d + c * b) (b * d))]) (by simp [results, Try.results57, go_sem, r0, r1]) rfl ⟨rfl, (by repeat (first | exact Below.refl _ _ | (refine below_drewN ?_ _) | (refine Below.drew ?_) | (refine Below.alloc ?_ (by first | exact Nat.le_refl _ | (simp; done) | (simp; omega) | omega) _) | (refine Below.setCell ?_ (by first | exact Nat.le_refl _ | (simp; done) | (simp; omega) | omega) _) | (refine Below.trans ?_ (Below.mono (by assumption) (by first | exact Nat.le_refl _ | (simp; done) | (simp; omega) | omega)))))⟩

theorem l2Mul_any (a b c d : Int) (w : World) (h1 : -100000000000000000 ≤ a * c) (h2 : a * c ≤ 100000000000000000) (h5 : 1 ≤ b * d) (h6 : b * d ≤ 100000000000000000) :
    Calls Try.prog 55 #[.agg #[.int .i64 a, .int .i64 b], .agg #[.int .i64 c, .int .i64 d]] w fun e w' => e = .returned (.tuple #[.agg #[.int .i64 (mkN (a * c) (b * d)), .int .i64 (mkD (a * c) (b * d))], .bool (mkB (a * c) (b * d))]) ∧ Below w.heap.size w w' := by
  go_enter Try.func55, Try.ntmps55
  go_wp2_with (go_at_call 51; refine (l2Make_any _ _ _ (by omega) (by omega) (by omega) (by omega)).mono ?_; rintro e w1 ⟨rfl, hb⟩; obtain ⟨hc, hf⟩ := bcell hb)
  obtain ⟨r0, r1⟩ := two_cells (w := w1) (b := w.heap.size + 1 + 1) (x := .int .i64 0) (y := .int .i64 0) (by rw [hc _ _ (by first | (simp; done) | (simp; omega) | omega)]; go_simp) (by rw [hc _ _ (by first | (simp; done) | (simp; omega) | omega)]; go_simp)
  refine bodyPost_ret (v := .tuple #[.agg #[.int .i64 (mkN (a * c) (b * d)), .int .i64 (mkD (a * c) (b * d))], .bool (mkB (a * c) (b * d))]) (by simp [results, Try.results55, go_sem, r0, r1]) rfl ⟨rfl, (by repeat (first | exact Below.refl _ _ | (refine below_drewN ?_ _) | (refine Below.drew ?_) | (refine Below.alloc ?_ (by first | exact Nat.le_refl _ | (simp; done) | (simp; omega) | omega) _) | (refine Below.setCell ?_ (by first | exact Nat.le_refl _ | (simp; done) | (simp; omega) | omega) _) | (refine Below.trans ?_ (Below.mono (by assumption) (by first | exact Nat.le_refl _ | (simp; done) | (simp; omega) | omega)))))⟩

theorem l2Two_any (a b c d : Int) (w : World) :
    Calls Try.prog 54 #[.agg #[.int .i64 a, .int .i64 b], .agg #[.int .i64 c, .int .i64 d]] w fun e w' => e = .returned (.bool (fracB a b && fracB c d)) ∧ Below w.heap.size w w' := by
  have HK := Kept.start (Nat.le_refl ((w.alloc (.cells #[.int .i64 a, .int .i64 b] 26)).alloc (.cells #[.int .i64 c, .int .i64 d] 26)).heap.size)
  have hc := trivial
  obtain ⟨x, HX⟩ : ∃ x, Hid (fracB a b = x) := ⟨_, rfl⟩
  rw [HX.out]
  cases x
  all_goals
    go_enter Try.func54, Try.ntmps54
    go_wp2_with fail
    refine (l2Good_any _ _ _).mono ?_
    rintro e w1 ⟨rfl, hb⟩
    replace HK := HK.step hb
    clear hb hc
    have hc := HK.cells
    rw [HX.out]
  · go_wp2
    go_ret
    exact ⟨rfl, HK.below (by repeat (first | exact Below.refl _ _ | (refine below_drewN ?_ _) | (refine Below.drew ?_) | (refine Below.alloc ?_ (by first | exact Nat.le_refl _ | (simp; done) | (simp; omega) | omega) _) | (refine Below.setCell ?_ (by first | exact Nat.le_refl _ | (simp; done) | (simp; omega) | omega) _) | (refine Below.trans ?_ (Below.mono (by assumption) (by first | exact Nat.le_refl _ | (simp; done) | (simp; omega) | omega))))) (by simp; omega)⟩
  · go_wp2_with fail
    refine (l2Good_any _ _ _).mono ?_
    rintro e w2 ⟨rfl, hb⟩
    replace HK := HK.step hb
    clear hb hc
    go_wp2
    go_ret
    exact ⟨rfl, HK.below (by repeat (first | exact Below.refl _ _ | (refine below_drewN ?_ _) | (refine Below.drew ?_) | (refine Below.alloc ?_ (by first | exact Nat.le_refl _ | (simp; done) | (simp; omega) | omega) _) | (refine Below.setCell ?_ (by first | exact Nat.le_refl _ | (simp; done) | (simp; omega) | omega) _) | (refine Below.trans ?_ (Below.mono (by assumption) (by first | exact Nat.le_refl _ | (simp; done) | (simp; omega) | omega))))) (by simp; omega)⟩

theorem areFracs_any (a b c d : Int) (w : World) :
    Calls Try.prog 56 #[.agg #[.int .i64 a, .int .i64 b], .agg #[.int .i64 c, .int .i64 d]] w fun e w' => e = .returned (.bool (fracB a b && fracB c d)) ∧ Below w.heap.size w w' := by
  have HK := Kept.start (Nat.le_refl ((w.alloc (.cells #[.int .i64 a, .int .i64 b] 26)).alloc (.cells #[.int .i64 c, .int .i64 d] 26)).heap.size)
  have hc := trivial
  obtain ⟨x, HX⟩ : ∃ x, Hid (fracB a b = x) := ⟨_, rfl⟩
  rw [HX.out]
  cases x
  all_goals
    go_enter Try.func56, Try.ntmps56
    go_wp2_with fail
    refine (isFrac_any _ _ _).mono ?_
    rintro e w1 ⟨rfl, hb⟩
    replace HK := HK.step hb
    clear hb hc
    have hc := HK.cells
    rw [HX.out]
  · go_wp2
    go_ret
    exact ⟨rfl, HK.below (by repeat (first | exact Below.refl _ _ | (refine below_drewN ?_ _) | (refine Below.drew ?_) | (refine Below.alloc ?_ (by first | exact Nat.le_refl _ | (simp; done) | (simp; omega) | omega) _) | (refine Below.setCell ?_ (by first | exact Nat.le_refl _ | (simp; done) | (simp; omega) | omega) _) | (refine Below.trans ?_ (Below.mono (by assumption) (by first | exact Nat.le_refl _ | (simp; done) | (simp; omega) | omega))))) (by simp; omega)⟩
  · go_wp2_with fail
    refine (isFrac_any _ _ _).mono ?_
    rintro e w2 ⟨rfl, hb⟩
    replace HK := HK.step hb
    clear hb hc
    go_wp2
    go_ret
    exact ⟨rfl, HK.below (by repeat (first | exact Below.refl _ _ | (refine below_drewN ?_ _) | (refine Below.drew ?_) | (refine Below.alloc ?_ (by first | exact Nat.le_refl _ | (simp; done) | (simp; omega) | omega) _) | (refine Below.setCell ?_ (by first | exact Nat.le_refl _ | (simp; done) | (simp; omega) | omega) _) | (refine Below.trans ?_ (Below.mono (by assumption) (by first | exact Nat.le_refl _ | (simp; done) | (simp; omega) | omega))))) (by simp; omega)⟩
end Go.Proofs.Ytainbffcnaafkaa
