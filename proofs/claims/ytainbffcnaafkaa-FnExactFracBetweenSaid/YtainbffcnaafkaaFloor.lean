/- Quotients rounded down and up, exported by the reference and by the program: what is returned; no conditions. -/
import Derived.Test.YtainbffcnaafkaaFracLaw
namespace Go.Proofs.Ytainbffcnaafkaa
open Go.RowKit

theorem quot_eq (n d q r : Int) (hd : 1 ≤ d) (h : r + d * q = n) (h0 : 0 ≤ r) (h1 : r < d) : n / d = q := ((Int.ediv_emod_unique (by omega)).2 ⟨h, h0, h1⟩).1
theorem quot_bd (n d : Int) (hd : 1 ≤ d) (M : Int) (h1 : -M ≤ n) (h2 : n ≤ M) : -M ≤ n / d ∧ n / d ≤ M := by
  constructor
  · rw [Int.le_ediv_iff_mul_le (by omega)]
    by_cases hm : 0 ≤ M
    · have : M * 1 ≤ M * d := Int.mul_le_mul_of_nonneg_left hd hm
      rw [Int.neg_mul]
      omega
    · omega
  · by_cases hn : 0 ≤ n
    · exact Int.le_trans (Int.ediv_le_self _ hn) h2
    · have := Int.ediv_neg_of_neg_of_pos (show n < 0 by omega) (show 0 < d by omega)
      omega
theorem up_eq (n d : Int) (hd : 1 ≤ d) : -((-n + d - 1) / d) = n / d := by
  have h1 := Int.emod_add_mul_ediv (-n + d - 1) d
  have h2 := Int.emod_nonneg (-n + d - 1) (show d ≠ 0 by omega)
  have h3 := Int.emod_lt_of_pos (-n + d - 1) (show 0 < d by omega)
  refine (quot_eq n d _ (d - 1 - (-n + d - 1) % d) hd ?_ (by omega) (by omega)).symm
  rw [Int.mul_neg]
  omega
theorem tdiv_neg_eq (n d : Int) (hd : 1 ≤ d) (h : n.tmod d < 0) : n.tdiv d - 1 = n / d := by
  have h1 := Int.tmod_add_mul_tdiv n d
  have h2 := Int.lt_tmod_of_pos n (show 0 < d by omega)
  refine (quot_eq n d _ (n.tmod d + d) hd ?_ (by omega) (by omega)).symm
  rw [Int.mul_sub, Int.mul_one]
  omega
theorem tdiv_pos_eq (n d : Int) (hd : 1 ≤ d) (h : ¬ n.tmod d < 0) : n.tdiv d = n / d := by
  have h1 := Int.tmod_add_mul_tdiv n d
  have h2 := Int.tmod_lt_of_pos n (show 0 < d by omega)
  exact (quot_eq n d _ (n.tmod d) hd h1 (by omega) h2).symm

theorem l2Floor_any (n d : Int) (w : World) (h1 : -1000000000000000000 ≤ n) (h2 : n ≤ 1000000000000000000) (h3 : 1 ≤ d) (h4 : d ≤ 1000000000000000000) :
    Calls Try.prog 47 #[.int .i64 n, .int .i64 d] w fun e w' => e = .returned (.int .i64 (n / d)) ∧ w = w' := by
  by_cases c : 0 ≤ n
  · go_enter Try.func47, Try.ntmps47
    go_wp2
    go_ret
    exact ⟨rfl, rfl⟩
  · have HE := hide (up_eq n d h3)
    have hb := quot_bd (-n + d - 1) d h3 3000000000000000000 (by omega) (by omega)
    have b1 := hb.1
    have b2 := hb.2
    clear hb
    go_enter Try.func47, Try.ntmps47
    go_wp2
    go_ret
    exact ⟨ret_int HE.out, rfl⟩

theorem floorDiv_any (n d : Int) (w : World) (h1 : -1000000000000000000 ≤ n) (h2 : n ≤ 1000000000000000000) (h3 : 1 ≤ d) (h4 : d ≤ 1000000000000000000) :
    Calls Try.prog 49 #[.int .i64 n, .int .i64 d] w fun e w' => e = .returned (.int .i64 (n / d)) ∧ w = w' := by
  have hb := quot_bd n d h3 1000000000000000000 h1 h2
  by_cases p : 0 ≤ n
  · have hm := Int.emod_nonneg n (show d ≠ 0 by omega)
    have b1 := hb.1
    have b2 := hb.2
    clear hb
    go_enter Try.func49, Try.ntmps49
    go_wp2
    go_ret
    exact ⟨rfl, rfl⟩
  · by_cases c : n.tmod d < 0
    · have HE := hide (tdiv_neg_eq n d h3 c)
      have b1 : -1000000000000000000 ≤ n.tdiv d := by have := HE.out; omega
      have b2 : n.tdiv d ≤ 1000000000000000001 := by have := HE.out; omega
      clear hb
      go_enter Try.func49, Try.ntmps49
      go_wp2
      go_ret
      exact ⟨ret_int HE.out, rfl⟩
    · have HE := hide (tdiv_pos_eq n d h3 c)
      clear hb
      go_enter Try.func49, Try.ntmps49
      go_wp2
      go_ret
      exact ⟨ret_int HE.out, rfl⟩

theorem specFloorFrac_no (a b : Int) (w : World) (hg : fracB a b = false) :
    Calls Try.prog 18 #[.agg #[.int .i64 a, .int .i64 b]] w fun e w' => e = .returned (.tuple #[.int .i64 0, .bool false]) ∧ Below w.heap.size w w' := by
  replace hg := hide hg
  have HK := Kept.start (Nat.le_refl (w.alloc (.cells #[.int .i64 a, .int .i64 b] 26)).heap.size)
  have hc := trivial
  go_enter Try.func18, Try.ntmps18
  go_wp2_with fail
  refine (l2Good_any _ _ _).mono ?_
  rintro e w1 ⟨rfl, hb⟩
  rw [hg.out]
  replace HK := HK.step hb
  go_wp2
  go_ret2
  exact ⟨rfl, HK.below (by repeat (first | exact Below.refl _ _ | (refine below_drewN ?_ _) | (refine Below.drew ?_) | (refine Below.alloc ?_ (by first | exact Nat.le_refl _ | (simp; done) | (simp; omega) | omega) _) | (refine Below.setCell ?_ (by first | exact Nat.le_refl _ | (simp; done) | (simp; omega) | omega) _) | (refine Below.trans ?_ (Below.mono (by assumption) (by first | exact Nat.le_refl _ | (simp; done) | (simp; omega) | omega))))) (by first | (simp; done) | (simp; omega) | omega)⟩
theorem specFloorFrac_yes (a b : Int) (w : World) (hg : fracB a b = true) :
    Calls Try.prog 18 #[.agg #[.int .i64 a, .int .i64 b]] w fun e w' => e = .returned (.tuple #[.int .i64 (a / b), .bool true]) ∧ Below w.heap.size w w' := by
  obtain ⟨a1, a2, a3, a4⟩ := frac_bd hg
  obtain ⟨b1, b2⟩ := quot_bd a b (by omega) 100000000 (by omega) (by omega)
  replace hg := hide hg
  have HK := Kept.start (Nat.le_refl (w.alloc (.cells #[.int .i64 a, .int .i64 b] 26)).heap.size)
  have hc := trivial
  go_enter Try.func18, Try.ntmps18
  go_wp2_with fail
  refine (l2Good_any _ _ _).mono ?_
  rintro e w1 ⟨rfl, hb⟩
  rw [hg.out]
  replace HK := HK.step hb
  clear hb hc
  have hc := HK.cells
  go_wp2_with (go_at_call 47; refine (l2Floor_any _ _ _ (by omega) (by omega) (by omega) (by omega)).mono ?_; rintro e w2 ⟨rfl, rfl⟩)
  go_ret2
  exact ⟨rfl, HK.below (by repeat (first | exact Below.refl _ _ | (refine below_drewN ?_ _) | (refine Below.drew ?_) | (refine Below.alloc ?_ (by first | exact Nat.le_refl _ | (simp; done) | (simp; omega) | omega) _) | (refine Below.setCell ?_ (by first | exact Nat.le_refl _ | (simp; done) | (simp; omega) | omega) _) | (refine Below.trans ?_ (Below.mono (by assumption) (by first | exact Nat.le_refl _ | (simp; done) | (simp; omega) | omega))))) (by first | (simp; done) | (simp; omega) | omega)⟩

theorem implFloorFrac_no (a b : Int) (w : World) (hg : fracB a b = false) :
    Calls Try.prog 19 #[.agg #[.int .i64 a, .int .i64 b]] w fun e w' => e = .returned (.tuple #[.int .i64 0, .bool false]) ∧ Below w.heap.size w w' := by
  replace hg := hide hg
  have HK := Kept.start (Nat.le_refl (w.alloc (.cells #[.int .i64 a, .int .i64 b] 26)).heap.size)
  have hc := trivial
  go_enter Try.func19, Try.ntmps19
  go_wp2_with fail
  refine (isFrac_any _ _ _).mono ?_
  rintro e w1 ⟨rfl, hb⟩
  rw [hg.out]
  replace HK := HK.step hb
  go_wp2
  go_ret2
  exact ⟨rfl, HK.below (by repeat (first | exact Below.refl _ _ | (refine below_drewN ?_ _) | (refine Below.drew ?_) | (refine Below.alloc ?_ (by first | exact Nat.le_refl _ | (simp; done) | (simp; omega) | omega) _) | (refine Below.setCell ?_ (by first | exact Nat.le_refl _ | (simp; done) | (simp; omega) | omega) _) | (refine Below.trans ?_ (Below.mono (by assumption) (by first | exact Nat.le_refl _ | (simp; done) | (simp; omega) | omega))))) (by first | (simp; done) | (simp; omega) | omega)⟩
theorem implFloorFrac_yes (a b : Int) (w : World) (hg : fracB a b = true) :
    Calls Try.prog 19 #[.agg #[.int .i64 a, .int .i64 b]] w fun e w' => e = .returned (.tuple #[.int .i64 (a / b), .bool true]) ∧ Below w.heap.size w w' := by
  obtain ⟨a1, a2, a3, a4⟩ := frac_bd hg
  obtain ⟨b1, b2⟩ := quot_bd a b (by omega) 100000000 (by omega) (by omega)
  replace hg := hide hg
  have HK := Kept.start (Nat.le_refl (w.alloc (.cells #[.int .i64 a, .int .i64 b] 26)).heap.size)
  have hc := trivial
  go_enter Try.func19, Try.ntmps19
  go_wp2_with fail
  refine (isFrac_any _ _ _).mono ?_
  rintro e w1 ⟨rfl, hb⟩
  rw [hg.out]
  replace HK := HK.step hb
  clear hb hc
  have hc := HK.cells
  go_wp2_with (go_at_call 49; refine (floorDiv_any _ _ _ (by omega) (by omega) (by omega) (by omega)).mono ?_; rintro e w2 ⟨rfl, rfl⟩)
  go_ret2
  exact ⟨rfl, HK.below (by repeat (first | exact Below.refl _ _ | (refine below_drewN ?_ _) | (refine Below.drew ?_) | (refine Below.alloc ?_ (by first | exact Nat.le_refl _ | (simp; done) | (simp; omega) | omega) _) | (refine Below.setCell ?_ (by first | exact Nat.le_refl _ | (simp; done) | (simp; omega) | omega) _) | (refine Below.trans ?_ (Below.mono (by assumption) (by first | exact Nat.le_refl _ | (simp; done) | (simp; omega) | omega))))) (by first | (simp; done) | (simp; omega) | omega)⟩

theorem specCeilFrac_no (a b : Int) (w : World) (hg : fracB a b = false) :
    Calls Try.prog 15 #[.agg #[.int .i64 a, .int .i64 b]] w fun e w' => e = .returned (.tuple #[.int .i64 0, .bool false]) ∧ Below w.heap.size w w' := by
  replace hg := hide hg
  have HK := Kept.start (Nat.le_refl (w.alloc (.cells #[.int .i64 a, .int .i64 b] 26)).heap.size)
  have hc := trivial
  go_enter Try.func15, Try.ntmps15
  go_wp2_with fail
  refine (l2Good_any _ _ _).mono ?_
  rintro e w1 ⟨rfl, hb⟩
  rw [hg.out]
  replace HK := HK.step hb
  go_wp2
  go_ret2
  exact ⟨rfl, HK.below (by repeat (first | exact Below.refl _ _ | (refine below_drewN ?_ _) | (refine Below.drew ?_) | (refine Below.alloc ?_ (by first | exact Nat.le_refl _ | (simp; done) | (simp; omega) | omega) _) | (refine Below.setCell ?_ (by first | exact Nat.le_refl _ | (simp; done) | (simp; omega) | omega) _) | (refine Below.trans ?_ (Below.mono (by assumption) (by first | exact Nat.le_refl _ | (simp; done) | (simp; omega) | omega))))) (by first | (simp; done) | (simp; omega) | omega)⟩
theorem specCeilFrac_yes (a b : Int) (w : World) (hg : fracB a b = true) :
    Calls Try.prog 15 #[.agg #[.int .i64 a, .int .i64 b]] w fun e w' => e = .returned (.tuple #[.int .i64 (-(-a / b)), .bool true]) ∧ Below w.heap.size w w' := by
  obtain ⟨a1, a2, a3, a4⟩ := frac_bd hg
  obtain ⟨b1, b2⟩ := quot_bd (-a) b (by omega) 100000000 (by omega) (by omega)
  replace hg := hide hg
  have HK := Kept.start (Nat.le_refl (w.alloc (.cells #[.int .i64 a, .int .i64 b] 26)).heap.size)
  have hc := trivial
  go_enter Try.func15, Try.ntmps15
  go_wp2_with fail
  refine (l2Good_any _ _ _).mono ?_
  rintro e w1 ⟨rfl, hb⟩
  rw [hg.out]
  replace HK := HK.step hb
  clear hb hc
  have hc := HK.cells
  go_wp2_with (go_at_call 47; refine (l2Floor_any _ _ _ (by omega) (by omega) (by omega) (by omega)).mono ?_; rintro e w2 ⟨rfl, rfl⟩)
  go_ret2
  exact ⟨rfl, HK.below (by repeat (first | exact Below.refl _ _ | (refine below_drewN ?_ _) | (refine Below.drew ?_) | (refine Below.alloc ?_ (by first | exact Nat.le_refl _ | (simp; done) | (simp; omega) | omega) _) | (refine Below.setCell ?_ (by first | exact Nat.le_refl _ | (simp; done) | (simp; omega) | omega) _) | (refine Below.trans ?_ (Below.mono (by assumption) (by first | exact Nat.le_refl _ | (simp; done) | (simp; omega) | omega))))) (by first | (simp; done) | (simp; omega) | omega)⟩

theorem implCeilFrac_no (a b : Int) (w : World) (hg : fracB a b = false) :
    Calls Try.prog 17 #[.agg #[.int .i64 a, .int .i64 b]] w fun e w' => e = .returned (.tuple #[.int .i64 0, .bool false]) ∧ Below w.heap.size w w' := by
  replace hg := hide hg
  have HK := Kept.start (Nat.le_refl (w.alloc (.cells #[.int .i64 a, .int .i64 b] 26)).heap.size)
  have hc := trivial
  go_enter Try.func17, Try.ntmps17
  go_wp2_with fail
  refine (isFrac_any _ _ _).mono ?_
  rintro e w1 ⟨rfl, hb⟩
  rw [hg.out]
  replace HK := HK.step hb
  go_wp2
  go_ret2
  exact ⟨rfl, HK.below (by repeat (first | exact Below.refl _ _ | (refine below_drewN ?_ _) | (refine Below.drew ?_) | (refine Below.alloc ?_ (by first | exact Nat.le_refl _ | (simp; done) | (simp; omega) | omega) _) | (refine Below.setCell ?_ (by first | exact Nat.le_refl _ | (simp; done) | (simp; omega) | omega) _) | (refine Below.trans ?_ (Below.mono (by assumption) (by first | exact Nat.le_refl _ | (simp; done) | (simp; omega) | omega))))) (by first | (simp; done) | (simp; omega) | omega)⟩
theorem implCeilFrac_yes (a b : Int) (w : World) (hg : fracB a b = true) :
    Calls Try.prog 17 #[.agg #[.int .i64 a, .int .i64 b]] w fun e w' => e = .returned (.tuple #[.int .i64 (-(-a / b)), .bool true]) ∧ Below w.heap.size w w' := by
  obtain ⟨a1, a2, a3, a4⟩ := frac_bd hg
  obtain ⟨b1, b2⟩ := quot_bd (-a) b (by omega) 100000000 (by omega) (by omega)
  replace hg := hide hg
  have HK := Kept.start (Nat.le_refl (w.alloc (.cells #[.int .i64 a, .int .i64 b] 26)).heap.size)
  have hc := trivial
  go_enter Try.func17, Try.ntmps17
  go_wp2_with fail
  refine (isFrac_any _ _ _).mono ?_
  rintro e w1 ⟨rfl, hb⟩
  rw [hg.out]
  replace HK := HK.step hb
  clear hb hc
  have hc := HK.cells
  go_wp2_with (go_at_call 49; refine (floorDiv_any _ _ _ (by omega) (by omega) (by omega) (by omega)).mono ?_; rintro e w2 ⟨rfl, rfl⟩)
  go_ret2
  exact ⟨rfl, HK.below (by repeat (first | exact Below.refl _ _ | (refine below_drewN ?_ _) | (refine Below.drew ?_) | (refine Below.alloc ?_ (by first | exact Nat.le_refl _ | (simp; done) | (simp; omega) | omega) _) | (refine Below.setCell ?_ (by first | exact Nat.le_refl _ | (simp; done) | (simp; omega) | omega) _) | (refine Below.trans ?_ (Below.mono (by assumption) (by first | exact Nat.le_refl _ | (simp; done) | (simp; omega) | omega))))) (by first | (simp; done) | (simp; omega) | omega)⟩
end Go.Proofs.Ytainbffcnaafkaa
