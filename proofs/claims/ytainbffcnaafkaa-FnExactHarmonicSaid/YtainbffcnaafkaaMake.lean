/- The fraction of a number over a positive one in lowest terms, and whether it is valid: the reference and the program return the same; for numbers that are far from the bounds of 64 bits. -/
import Derived.Test.YtainbffcnaafkaaFracLaw
import Derived.RegionTactic
import Derived.ChangeAlike
namespace Go.Proofs.Ytainbffcnaafkaa
open Go.RowKit

/-- The quotients by the greatest common divisor. -/
def mkQ (num den : Int) : Int × Int := (num.tdiv (Int.gcd num den), den / (Int.gcd num den))
/-- Whether they are a valid fraction. -/
def mkB (num den : Int) : Bool := fracB (mkQ num den).1 (mkQ num den).2
def mkN (num den : Int) : Int := if mkB num den = true then (mkQ num den).1 else 0
def mkD (num den : Int) : Int := if mkB num den = true then (mkQ num den).2 else 0

theorem gcd_pos (num den : Int) (h : 1 ≤ den) (h' : den ≤ 1000000000000000000) : 1 ≤ ((Int.gcd num den : Nat) : Int) ∧ ((Int.gcd num den : Nat) : Int) ≤ 1000000000000000000 := by
  have h1 : 0 < Int.gcd num den := Int.gcd_pos_of_ne_zero_right _ (by omega)
  have h2 : ((Int.gcd num den : Nat) : Int) ≤ den := Int.le_of_dvd (by omega) (Int.gcd_dvd_right ..)
  omega

theorem makeFrac_any (num den : Int) (w : World) (h1 : -1000000000000000000 ≤ num) (h2 : num ≤ 1000000000000000000) (h3 : 1 ≤ den) (h4 : den ≤ 1000000000000000000) :
    Calls Try.prog 53 #[.int .i64 num, .int .i64 den] w fun e w' => e = .returned (.tuple #[.agg #[.int .i64 (mkN num den), .int .i64 (mkD num den)], .bool (mkB num den)]) ∧ Below w.heap.size w w' := by
  obtain ⟨d1, d2⟩ := gcd_pos num den h3 h4
  obtain ⟨d, HD⟩ : ∃ d : Int, Hid (((Int.gcd num den : Nat) : Int) = d) := ⟨_, rfl⟩
  rw [HD.out] at d1 d2
  go_enter Try.func53, Try.ntmps53
  go_wp2_with (go_at_call 66; refine (size_any _ _ (by omega) (by omega)).mono ?_; rintro e w' ⟨rfl, rfl⟩)
  refine (divisor_any _ _ _ (by omega) (by omega) (by omega) (by omega)).mono ?_
  rintro e w' ⟨rfl, m, rfl⟩
  rw [gcd_abs, HD.out]
  go_wp2_with fail
  go_region
  all_goals go_wp2_with fail
  refine (isFrac_any _ _ _).mono ?_
  rintro e w1 ⟨rfl, hb⟩
  obtain ⟨hc, hf⟩ := bcell hb
  have HX : Hid ((mkQ num den).1 = num.tdiv d) := by unfold mkQ Hid; rw [HD.out]
  have HY : Hid ((mkQ num den).2 = den / d) := by unfold mkQ Hid; rw [HD.out]
  clear HD
  generalize num.tdiv d = x at *
  generalize den / d = y at *
  have hk : w.heap.size + 2 ≤ w1.heap.size := by have := hb.size; simp at this; omega
  obtain ⟨r0, r1⟩ := two_cells (w := w1) (b := w.heap.size) (x := .int .i64 0) (y := .int .i64 0) (by rw [hc _ _ (by first | (simp; done) | (simp; omega) | omega)]; go_simp) (by rw [hc _ _ (by first | (simp; done) | (simp; omega) | omega)]; go_simp)
  cases hB : fracB x y
  all_goals
    have HB : Hid (mkB num den = fracB x y) := by unfold mkB Hid; rw [HX.out, HY.out]
    rw [hB] at HB
    clear hB
    go_wp2
  · refine bodyPost_ret (v := .tuple #[.agg #[.int .i64 0, .int .i64 0], .bool false]) (by simp [results, Try.results53, go_sem, r0, r1]) rfl ⟨by unfold mkN mkD; rw [HB.out]; rfl, (by repeat (first | exact Below.refl _ _ | (refine below_drewN ?_ _) | (refine Below.drew ?_) | (refine Below.alloc ?_ (by first | exact Nat.le_refl _ | (simp; done) | (simp; omega) | omega) _) | (refine Below.setCell ?_ (by first | exact Nat.le_refl _ | (simp; done) | (simp; omega) | omega) _) | (refine Below.trans ?_ (Below.mono (by assumption) (by first | exact Nat.le_refl _ | (simp; done) | (simp; omega) | omega)))))⟩
  · refine bodyPost_ret (v := .tuple #[.agg #[.int .i64 x, .int .i64 y], .bool true]) (by simp [results, Try.results53, go_sem, r0, r1]) rfl ⟨by unfold mkN mkD; rw [HB.out, HX.out, HY.out]; rfl, (by repeat (first | exact Below.refl _ _ | (refine below_drewN ?_ _) | (refine Below.drew ?_) | (refine Below.alloc ?_ (by first | exact Nat.le_refl _ | (simp; done) | (simp; omega) | omega) _) | (refine Below.setCell ?_ (by first | exact Nat.le_refl _ | (simp; done) | (simp; omega) | omega) _) | (refine Below.trans ?_ (Below.mono (by assumption) (by first | exact Nat.le_refl _ | (simp; done) | (simp; omega) | omega)))))⟩

theorem l2Make_any (num den : Int) (w : World) (h1 : -1000000000000000000 ≤ num) (h2 : num ≤ 1000000000000000000) (h3 : 1 ≤ den) (h4 : den ≤ 1000000000000000000) :
    Calls Try.prog 51 #[.int .i64 num, .int .i64 den] w fun e w' => e = .returned (.tuple #[.agg #[.int .i64 (mkN num den), .int .i64 (mkD num den)], .bool (mkB num den)]) ∧ Below w.heap.size w w' := by
  obtain ⟨d1, d2⟩ := gcd_pos num den h3 h4
  obtain ⟨d, HD⟩ : ∃ d : Int, Hid (((Int.gcd num den : Nat) : Int) = d) := ⟨_, rfl⟩
  rw [HD.out] at d1 d2
  go_enter Try.func51, Try.ntmps51
  go_wp2_with (go_at_call 64; refine (l2Abs_any _ _ (by omega) (by omega)).mono ?_; rintro e w' ⟨rfl, rfl⟩)
  refine (l2Gcd_any _ _ _ (by omega) (by omega) (by omega) (by omega)).mono ?_
  rintro e w' ⟨rfl, m, rfl⟩
  rw [gcd_abs, HD.out]
  go_wp2_with fail
  go_region
  all_goals go_wp2_with fail
  refine (l2Good_any _ _ _).mono ?_
  rintro e w1 ⟨rfl, hb⟩
  obtain ⟨hc, hf⟩ := bcell hb
  have HX : Hid ((mkQ num den).1 = num.tdiv d) := by unfold mkQ Hid; rw [HD.out]
  have HY : Hid ((mkQ num den).2 = den / d) := by unfold mkQ Hid; rw [HD.out]
  clear HD
  generalize num.tdiv d = x at *
  generalize den / d = y at *
  have hk : w.heap.size + 2 ≤ w1.heap.size := by have := hb.size; simp at this; omega
  obtain ⟨r0, r1⟩ := two_cells (w := w1) (b := w.heap.size) (x := .int .i64 0) (y := .int .i64 0) (by rw [hc _ _ (by first | (simp; done) | (simp; omega) | omega)]; go_simp) (by rw [hc _ _ (by first | (simp; done) | (simp; omega) | omega)]; go_simp)
  cases hB : fracB x y
  all_goals
    have HB : Hid (mkB num den = fracB x y) := by unfold mkB Hid; rw [HX.out, HY.out]
    rw [hB] at HB
    clear hB
    go_wp2
  · refine bodyPost_ret (v := .tuple #[.agg #[.int .i64 0, .int .i64 0], .bool false]) (by simp [results, Try.results51, go_sem, r0, r1]) rfl ⟨by unfold mkN mkD; rw [HB.out]; rfl, (by repeat (first | exact Below.refl _ _ | (refine below_drewN ?_ _) | (refine Below.drew ?_) | (refine Below.alloc ?_ (by first | exact Nat.le_refl _ | (simp; done) | (simp; omega) | omega) _) | (refine Below.setCell ?_ (by first | exact Nat.le_refl _ | (simp; done) | (simp; omega) | omega) _) | (refine Below.trans ?_ (Below.mono (by assumption) (by first | exact Nat.le_refl _ | (simp; done) | (simp; omega) | omega)))))⟩
  · refine bodyPost_ret (v := .tuple #[.agg #[.int .i64 x, .int .i64 y], .bool true]) (by simp [results, Try.results51, go_sem, r0, r1]) rfl ⟨by unfold mkN mkD; rw [HB.out, HX.out, HY.out]; rfl, (by repeat (first | exact Below.refl _ _ | (refine below_drewN ?_ _) | (refine Below.drew ?_) | (refine Below.alloc ?_ (by first | exact Nat.le_refl _ | (simp; done) | (simp; omega) | omega) _) | (refine Below.setCell ?_ (by first | exact Nat.le_refl _ | (simp; done) | (simp; omega) | omega) _) | (refine Below.trans ?_ (Below.mono (by assumption) (by first | exact Nat.le_refl _ | (simp; done) | (simp; omega) | omega)))))⟩
end Go.Proofs.Ytainbffcnaafkaa
