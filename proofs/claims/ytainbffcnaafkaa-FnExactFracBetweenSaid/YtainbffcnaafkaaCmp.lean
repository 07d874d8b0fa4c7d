/- The comparison of two fractions by the reference and by the program: what is returned; no conditions. -/
import Derived.Test.YtainbffcnaafkaaAddMul
namespace Go.Proofs.Ytainbffcnaafkaa
open Go.RowKit

def cmpI (x y : Int) : Int := if x < y then -1 else if y < x then 1 else 0

theorem l2Cmp_any (a b c d : Int) (w : World) (h1 : -100000000000000000 ≤ a * d) (h2 : a * d ≤ 100000000000000000) (h3 : -100000000000000000 ≤ c * b) (h4 : c * b ≤ 100000000000000000) :
    Calls Try.prog 59 #[.agg #[.int .i64 a, .int .i64 b], .agg #[.int .i64 c, .int .i64 d]] w fun e w' => e = .returned (.int .i64 (cmpI (a * d) (c * b))) ∧ Below w.heap.size w w' := by
  by_cases c1 : a * d < c * b
  · have HE := hide (show cmpI (a * d) (c * b) = -1 by unfold cmpI; rw [if_pos c1])
    go_enter Try.func59, Try.ntmps59
    go_wp2_with fail
    go_quiet (fail)
    go_wp2
    go_ret
    exact ⟨ret_int HE.out.symm, (by repeat (first | exact Below.refl _ _ | (refine below_drewN ?_ _) | (refine Below.drew ?_) | (refine Below.alloc ?_ (by first | exact Nat.le_refl _ | (simp; done) | (simp; omega) | omega) _) | (refine Below.setCell ?_ (by first | exact Nat.le_refl _ | (simp; done) | (simp; omega) | omega) _) | (refine Below.trans ?_ (Below.mono (by assumption) (by first | exact Nat.le_refl _ | (simp; done) | (simp; omega) | omega)))))⟩
  · by_cases c2 : c * b < a * d
    · have HE := hide (show cmpI (a * d) (c * b) = 1 by unfold cmpI; rw [if_neg c1, if_pos c2])
      go_enter Try.func59, Try.ntmps59
      go_wp2_with fail
      go_quiet (fail)
      go_wp2
      go_ret
      exact ⟨ret_int HE.out.symm, (by repeat (first | exact Below.refl _ _ | (refine below_drewN ?_ _) | (refine Below.drew ?_) | (refine Below.alloc ?_ (by first | exact Nat.le_refl _ | (simp; done) | (simp; omega) | omega) _) | (refine Below.setCell ?_ (by first | exact Nat.le_refl _ | (simp; done) | (simp; omega) | omega) _) | (refine Below.trans ?_ (Below.mono (by assumption) (by first | exact Nat.le_refl _ | (simp; done) | (simp; omega) | omega)))))⟩
    · have HE := hide (show cmpI (a * d) (c * b) = 0 by unfold cmpI; rw [if_neg c1, if_neg c2])
      go_enter Try.func59, Try.ntmps59
      go_wp2_with fail
      go_quiet (fail)
      go_wp2
      go_ret
      exact ⟨ret_int HE.out.symm, (by repeat (first | exact Below.refl _ _ | (refine below_drewN ?_ _) | (refine Below.drew ?_) | (refine Below.alloc ?_ (by first | exact Nat.le_refl _ | (simp; done) | (simp; omega) | omega) _) | (refine Below.setCell ?_ (by first | exact Nat.le_refl _ | (simp; done) | (simp; omega) | omega) _) | (refine Below.trans ?_ (Below.mono (by assumption) (by first | exact Nat.le_refl _ | (simp; done) | (simp; omega) | omega)))))⟩

theorem compare_any (x y : Int) (w : World) :
    Calls Try.prog 68 #[.int .i64 x, .int .i64 y] w fun e w' => e = .returned (.int .i64 (cmpI x y)) ∧ w = w' := by
  have hx : (x != x) = false := by simp
  have hy : (y != y) = false := by simp
  by_cases c1 : x < y
  · have HE := hide (show cmpI x y = -1 by unfold cmpI; rw [if_pos c1])
    go_enter Try.func68, Try.ntmps68
    go_wp2
    go_ret
    exact ⟨ret_int HE.out.symm, rfl⟩
  · by_cases c2 : y < x
    · have HE := hide (show cmpI x y = 1 by unfold cmpI; rw [if_neg c1, if_pos c2])
      go_enter Try.func68, Try.ntmps68
      go_wp2
      go_ret
      exact ⟨ret_int HE.out.symm, rfl⟩
    · have HE := hide (show cmpI x y = 0 by unfold cmpI; rw [if_neg c1, if_neg c2])
      go_enter Try.func68, Try.ntmps68
      go_wp2
      go_ret
      exact ⟨ret_int HE.out.symm, rfl⟩

theorem compareFracs_any (a b c d : Int) (w : World) (h1 : -100000000000000000 ≤ a * d) (h2 : a * d ≤ 100000000000000000) (h3 : -100000000000000000 ≤ c * b) (h4 : c * b ≤ 100000000000000000) :
    Calls Try.prog 60 #[.agg #[.int .i64 a, .int .i64 b], .agg #[.int .i64 c, .int .i64 d]] w fun e w' => e = .returned (.int .i64 (cmpI (a * d) (c * b))) ∧ Below w.heap.size w w' := by
  go_enter Try.func60, Try.ntmps60
  go_wp2_with (go_at_call 68; refine (compare_any _ _ _).mono ?_; rintro e w1 ⟨rfl, rfl⟩)
  go_ret
  exact ⟨rfl, (by repeat (first | exact Below.refl _ _ | (refine below_drewN ?_ _) | (refine Below.drew ?_) | (refine Below.alloc ?_ (by first | exact Nat.le_refl _ | (simp; done) | (simp; omega) | omega) _) | (refine Below.setCell ?_ (by first | exact Nat.le_refl _ | (simp; done) | (simp; omega) | omega) _) | (refine Below.trans ?_ (Below.mono (by assumption) (by first | exact Nat.le_refl _ | (simp; done) | (simp; omega) | omega)))))⟩

theorem specCompareFracs_no (a b c d : Int) (w : World) (hg : (fracB a b && fracB c d) = false) :
    Calls Try.prog 29 #[.agg #[.int .i64 a, .int .i64 b], .agg #[.int .i64 c, .int .i64 d]] w fun e w' => e = .returned (.tuple #[.int .i64 0, .bool false]) ∧ Below w.heap.size w w' := by
  replace hg := hide hg
  have HK := Kept.start (Nat.le_refl ((w.alloc (.cells #[.int .i64 a, .int .i64 b] 26)).alloc (.cells #[.int .i64 c, .int .i64 d] 26)).heap.size)
  have hc := trivial
  go_enter Try.func29, Try.ntmps29
  go_wp2_with fail
  refine (l2Two_any _ _ _ _ _).mono ?_
  rintro e w1 ⟨rfl, hb⟩
  rw [hg.out]
  replace HK := HK.step hb
  go_wp2
  go_ret2
  exact ⟨rfl, HK.below (by repeat (first | exact Below.refl _ _ | (refine below_drewN ?_ _) | (refine Below.drew ?_) | (refine Below.alloc ?_ (by first | exact Nat.le_refl _ | (simp; done) | (simp; omega) | omega) _) | (refine Below.setCell ?_ (by first | exact Nat.le_refl _ | (simp; done) | (simp; omega) | omega) _) | (refine Below.trans ?_ (Below.mono (by assumption) (by first | exact Nat.le_refl _ | (simp; done) | (simp; omega) | omega))))) (by first | (simp; done) | (simp; omega) | omega)⟩
theorem specCompareFracs_yes (a b c d : Int) (w : World) (hg : (fracB a b && fracB c d) = true) :
    Calls Try.prog 29 #[.agg #[.int .i64 a, .int .i64 b], .agg #[.int .i64 c, .int .i64 d]] w fun e w' => e = .returned (.tuple #[.int .i64 (cmpI (a * d) (c * b)), .bool true]) ∧ Below w.heap.size w w' := by
  obtain ⟨a1, a2, a3, a4, c1, c2, c3, c4⟩ := two_bd hg
  obtain ⟨p1, p2⟩ := prod_bd a d 100000000 100000 (by omega) (by omega) (by omega) (by omega)
  obtain ⟨p3, p4⟩ := prod_bd c b 100000000 100000 (by omega) (by omega) (by omega) (by omega)
  replace hg := hide hg
  have HK := Kept.start (Nat.le_refl ((w.alloc (.cells #[.int .i64 a, .int .i64 b] 26)).alloc (.cells #[.int .i64 c, .int .i64 d] 26)).heap.size)
  have hc := trivial
  go_enter Try.func29, Try.ntmps29
  go_wp2_with fail
  refine (l2Two_any _ _ _ _ _).mono ?_
  rintro e w1 ⟨rfl, hb⟩
  rw [hg.out]
  replace HK := HK.step hb
  clear hb hc
  have hc := HK.cells
  go_wp2_with fail
  refine (l2Cmp_any _ _ _ _ _ (by omega) (by omega) (by omega) (by omega)).mono ?_
  rintro e w2 ⟨rfl, hb⟩
  replace HK := HK.step hb
  go_wp2
  go_ret2
  exact ⟨rfl, HK.below (by repeat (first | exact Below.refl _ _ | (refine below_drewN ?_ _) | (refine Below.drew ?_) | (refine Below.alloc ?_ (by first | exact Nat.le_refl _ | (simp; done) | (simp; omega) | omega) _) | (refine Below.setCell ?_ (by first | exact Nat.le_refl _ | (simp; done) | (simp; omega) | omega) _) | (refine Below.trans ?_ (Below.mono (by assumption) (by first | exact Nat.le_refl _ | (simp; done) | (simp; omega) | omega))))) (by first | (simp; done) | (simp; omega) | omega)⟩

theorem implCompareFracs_no (a b c d : Int) (w : World) (hg : (fracB a b && fracB c d) = false) :
    Calls Try.prog 30 #[.agg #[.int .i64 a, .int .i64 b], .agg #[.int .i64 c, .int .i64 d]] w fun e w' => e = .returned (.tuple #[.int .i64 0, .bool false]) ∧ Below w.heap.size w w' := by
  replace hg := hide hg
  have HK := Kept.start (Nat.le_refl ((w.alloc (.cells #[.int .i64 a, .int .i64 b] 26)).alloc (.cells #[.int .i64 c, .int .i64 d] 26)).heap.size)
  have hc := trivial
  go_enter Try.func30, Try.ntmps30
  go_wp2_with fail
  refine (areFracs_any _ _ _ _ _).mono ?_
  rintro e w1 ⟨rfl, hb⟩
  rw [hg.out]
  replace HK := HK.step hb
  go_wp2
  go_ret2
  exact ⟨rfl, HK.below (by repeat (first | exact Below.refl _ _ | (refine below_drewN ?_ _) | (refine Below.drew ?_) | (refine Below.alloc ?_ (by first | exact Nat.le_refl _ | (simp; done) | (simp; omega) | omega) _) | (refine Below.setCell ?_ (by first | exact Nat.le_refl _ | (simp; done) | (simp; omega) | omega) _) | (refine Below.trans ?_ (Below.mono (by assumption) (by first | exact Nat.le_refl _ | (simp; done) | (simp; omega) | omega))))) (by first | (simp; done) | (simp; omega) | omega)⟩
theorem implCompareFracs_yes (a b c d : Int) (w : World) (hg : (fracB a b && fracB c d) = true) :
    Calls Try.prog 30 #[.agg #[.int .i64 a, .int .i64 b], .agg #[.int .i64 c, .int .i64 d]] w fun e w' => e = .returned (.tuple #[.int .i64 (cmpI (a * d) (c * b)), .bool true]) ∧ Below w.heap.size w w' := by
  obtain ⟨a1, a2, a3, a4, c1, c2, c3, c4⟩ := two_bd hg
  obtain ⟨p1, p2⟩ := prod_bd a d 100000000 100000 (by omega) (by omega) (by omega) (by omega)
  obtain ⟨p3, p4⟩ := prod_bd c b 100000000 100000 (by omega) (by omega) (by omega) (by omega)
  replace hg := hide hg
  have HK := Kept.start (Nat.le_refl ((w.alloc (.cells #[.int .i64 a, .int .i64 b] 26)).alloc (.cells #[.int .i64 c, .int .i64 d] 26)).heap.size)
  have hc := trivial
  go_enter Try.func30, Try.ntmps30
  go_wp2_with fail
  refine (areFracs_any _ _ _ _ _).mono ?_
  rintro e w1 ⟨rfl, hb⟩
  rw [hg.out]
  replace HK := HK.step hb
  clear hb hc
  have hc := HK.cells
  go_wp2_with fail
  refine (compareFracs_any _ _ _ _ _ (by omega) (by omega) (by omega) (by omega)).mono ?_
  rintro e w2 ⟨rfl, hb⟩
  replace HK := HK.step hb
  go_wp2
  go_ret2
  exact ⟨rfl, HK.below (by repeat (first | exact Below.refl _ _ | (refine below_drewN ?_ _) | (refine Below.drew ?_) | (refine Below.alloc ?_ (by first | exact Nat.le_refl _ | (simp; done) | (simp; omega) | omega) _) | (refine Below.setCell ?_ (by first | exact Nat.le_refl _ | (simp; done) | (simp; omega) | omega) _) | (refine Below.trans ?_ (Below.mono (by assumption) (by first | exact Nat.le_refl _ | (simp; done) | (simp; omega) | omega))))) (by first | (simp; done) | (simp; omega) | omega)⟩
end Go.Proofs.Ytainbffcnaafkaa
