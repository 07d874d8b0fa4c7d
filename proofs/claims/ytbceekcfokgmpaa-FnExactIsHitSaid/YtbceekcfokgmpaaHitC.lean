/- IsHit by the reference and by the program return the same; for lists of at most 2^20 numbers. -/
import Derived.Test.YtbceekcfokgmpaaIsCacheS
import Derived.Test.YtbceekcfokgmpaaHas
namespace Go.Proofs.Ytbceekcfokgmpaa
open Go.RowKit

def hitOk (n p s : Int) (xs ys : List Int) (h a : Int) : Bool := cacheB n p s xs ys h && decide (0 ≤ a ∧ a ≤ n - 1)
def hitB (n p s : Int) (xs ys : List Int) (h a : Int) : Bool := if hitOk n p s xs ys h a = true then hasB xs a else false
theorem cache_n {n p s h : Int} {xs ys : List Int} (c : cacheB n p s xs ys h = true) : 1 ≤ n ∧ n ≤ 8 := by
  unfold cacheB at c
  simp only [Bool.and_eq_true, decide_eq_true_eq] at c
  exact c.1
theorem hit_off {n p s h a : Int} {xs ys : List Int} (c : cacheB n p s xs ys h = false) : hitOk n p s xs ys h a = false ∧ hitB n p s xs ys h a = false := by
  have e : hitOk n p s xs ys h a = false := by unfold hitOk; rw [c]; rfl
  exact ⟨e, by unfold hitB; rw [e]; rfl⟩
theorem hit_out {n p s h a : Int} {xs ys : List Int} (c : ¬ (0 ≤ a ∧ a ≤ n - 1)) : hitOk n p s xs ys h a = false ∧ hitB n p s xs ys h a = false := by
  have e : hitOk n p s xs ys h a = false := by unfold hitOk; rw [decide_eq_false c, Bool.and_false]
  exact ⟨e, by unfold hitB; rw [e]; rfl⟩
theorem hit_in {n p s h a : Int} {xs ys : List Int} (c : cacheB n p s xs ys h = true) (d : 0 ≤ a ∧ a ≤ n - 1) : hitOk n p s xs ys h a = true ∧ hitB n p s xs ys h a = hasB xs a := by
  have e : hitOk n p s xs ys h a = true := by unfold hitOk; rw [c, decide_eq_true d]; rfl
  exact ⟨e, by unfold hitB; rw [e]; rfl⟩

set_option maxRecDepth 100000 in
set_option maxHeartbeats 3200000 in
theorem spec_IsHit (n p s h a : Int) (A1 : Option Addr) (n1 c1 : Nat) (A2 : Option Addr) (n2 c2 : Nat) (xs ys : List Int) (w : World) (a1 : RdI w A1 n1 xs) (a2 : RdI w A2 n2 ys) (hn1 : n1 ≤ 1048576) (hn2 : n2 ≤ 1048576) :
    Calls Try.prog 38 #[.int .i64 n, .agg #[.int .i64 p, .int .i64 s, .slice A1 n1 c1, .slice A2 n2 c2, .int .i64 h], .int .i64 a] w fun e w' => e = .returned (.tuple #[.bool (hitB n p s xs ys h a), .bool (hitOk n p s xs ys h a)]) ∧ Below w.heap.size w w' := by
  have k1 := fun w' (q1 : RdI w' A1 n1 xs) (q2 : RdI w' A2 n2 ys) => l4Good_any n p s h A1 n1 c1 A2 n2 c2 xs ys w' q1 q2 hn2
  replace a1 := hide a1
  replace a2 := hide a2
  cases c : cacheB n p s xs ys h
  · obtain ⟨e1, e2⟩ := hit_off (a := a) c
    rw [e1, e2]
    rw [c] at k1
    replace k1 := hide k1
    clear c e1 e2
    go_enter Try.func38, Try.ntmps38
    go_wp2_with fail
    refine (k1.out _ (a1.out.below (by repeat (first | exact Below.refl _ _ | (refine below_drewN ?_ _) | (refine Below.drew ?_) | (refine Below.alloc ?_ (by first | exact Nat.le_refl _ | (simp; done) | (simp; omega) | omega) _) | (refine Below.setCell ?_ (by first | exact Nat.le_refl _ | (simp; done) | (simp; omega) | omega) _) | (refine Below.trans ?_ (Below.mono (by assumption) (by first | exact Nat.le_refl _ | (simp; done) | (simp; omega) | omega)))))) (a2.out.below (by repeat (first | exact Below.refl _ _ | (refine below_drewN ?_ _) | (refine Below.drew ?_) | (refine Below.alloc ?_ (by first | exact Nat.le_refl _ | (simp; done) | (simp; omega) | omega) _) | (refine Below.setCell ?_ (by first | exact Nat.le_refl _ | (simp; done) | (simp; omega) | omega) _) | (refine Below.trans ?_ (Below.mono (by assumption) (by first | exact Nat.le_refl _ | (simp; done) | (simp; omega) | omega))))))).mono ?_
    rintro e w1 ⟨rfl, hb⟩
    go_wp2_with fail
    go_ret2
    exact ⟨rfl, (by repeat (first | exact Below.refl _ _ | (refine below_drewN ?_ _) | (refine Below.drew ?_) | (refine Below.alloc ?_ (by first | exact Nat.le_refl _ | (simp; done) | (simp; omega) | omega) _) | (refine Below.setCell ?_ (by first | exact Nat.le_refl _ | (simp; done) | (simp; omega) | omega) _) | (refine Below.trans ?_ (Below.mono (by assumption) (by first | exact Nat.le_refl _ | (simp; done) | (simp; omega) | omega)))))⟩
  · obtain ⟨hc1, hc2⟩ := cache_n c
    rw [c] at k1
    by_cases d : 0 ≤ a ∧ a ≤ n - 1
    · obtain ⟨e1, e2⟩ := hit_in c d
      rw [e1, e2]
      obtain ⟨d1, d2⟩ := d
      have k2 := fun w' (q1 : RdI w' A1 n1 xs) => l1Has_any A1 n1 c1 xs a w' q1 hn1
      generalize hasB xs a = r at k2 ⊢
      replace k1 := hide k1
      replace k2 := hide k2
      clear c e1 e2
      go_enter Try.func38, Try.ntmps38
      go_wp2_with fail
      refine (k1.out _ (a1.out.below (by repeat (first | exact Below.refl _ _ | (refine below_drewN ?_ _) | (refine Below.drew ?_) | (refine Below.alloc ?_ (by first | exact Nat.le_refl _ | (simp; done) | (simp; omega) | omega) _) | (refine Below.setCell ?_ (by first | exact Nat.le_refl _ | (simp; done) | (simp; omega) | omega) _) | (refine Below.trans ?_ (Below.mono (by assumption) (by first | exact Nat.le_refl _ | (simp; done) | (simp; omega) | omega)))))) (a2.out.below (by repeat (first | exact Below.refl _ _ | (refine below_drewN ?_ _) | (refine Below.drew ?_) | (refine Below.alloc ?_ (by first | exact Nat.le_refl _ | (simp; done) | (simp; omega) | omega) _) | (refine Below.setCell ?_ (by first | exact Nat.le_refl _ | (simp; done) | (simp; omega) | omega) _) | (refine Below.trans ?_ (Below.mono (by assumption) (by first | exact Nat.le_refl _ | (simp; done) | (simp; omega) | omega))))))).mono ?_
      rintro e w1 ⟨rfl, hb⟩
      obtain ⟨hc, hf⟩ := bcell hb
      have hB : Below w.heap.size w w1 := (by repeat (first | exact Below.refl _ _ | (refine below_drewN ?_ _) | (refine Below.drew ?_) | (refine Below.alloc ?_ (by first | exact Nat.le_refl _ | (simp; done) | (simp; omega) | omega) _) | (refine Below.setCell ?_ (by first | exact Nat.le_refl _ | (simp; done) | (simp; omega) | omega) _) | (refine Below.trans ?_ (Below.mono (by assumption) (by first | exact Nat.le_refl _ | (simp; done) | (simp; omega) | omega)))))
      replace hb := hide hb
      go_wp2_with (first | (go_at_call 44; refine (l1In_yes _ _ _ _ (by omega) (by omega)).mono ?_; rintro e w' ⟨rfl, rfl⟩) | (go_at_call 44; refine (l1In_no _ _ _ _ (by omega)).mono ?_; rintro e w' ⟨rfl, rfl⟩) | (go_at_call 75; refine (k2.out _ (a1.out.below hB)).mono ?_; rintro e w2 ⟨rfl, rfl⟩))
      go_ret2
      exact ⟨rfl, hB⟩
    · obtain ⟨e1, e2⟩ := hit_out (p := p) (s := s) (h := h) (xs := xs) (ys := ys) d
      rw [e1, e2]
      replace k1 := hide k1
      clear c e1 e2
      go_enter Try.func38, Try.ntmps38
      go_wp2_with fail
      refine (k1.out _ (a1.out.below (by repeat (first | exact Below.refl _ _ | (refine below_drewN ?_ _) | (refine Below.drew ?_) | (refine Below.alloc ?_ (by first | exact Nat.le_refl _ | (simp; done) | (simp; omega) | omega) _) | (refine Below.setCell ?_ (by first | exact Nat.le_refl _ | (simp; done) | (simp; omega) | omega) _) | (refine Below.trans ?_ (Below.mono (by assumption) (by first | exact Nat.le_refl _ | (simp; done) | (simp; omega) | omega)))))) (a2.out.below (by repeat (first | exact Below.refl _ _ | (refine below_drewN ?_ _) | (refine Below.drew ?_) | (refine Below.alloc ?_ (by first | exact Nat.le_refl _ | (simp; done) | (simp; omega) | omega) _) | (refine Below.setCell ?_ (by first | exact Nat.le_refl _ | (simp; done) | (simp; omega) | omega) _) | (refine Below.trans ?_ (Below.mono (by assumption) (by first | exact Nat.le_refl _ | (simp; done) | (simp; omega) | omega))))))).mono ?_
      rintro e w1 ⟨rfl, hb⟩
      have hB : Below w.heap.size w w1 := (by repeat (first | exact Below.refl _ _ | (refine below_drewN ?_ _) | (refine Below.drew ?_) | (refine Below.alloc ?_ (by first | exact Nat.le_refl _ | (simp; done) | (simp; omega) | omega) _) | (refine Below.setCell ?_ (by first | exact Nat.le_refl _ | (simp; done) | (simp; omega) | omega) _) | (refine Below.trans ?_ (Below.mono (by assumption) (by first | exact Nat.le_refl _ | (simp; done) | (simp; omega) | omega)))))
      replace hb := hide hb
      go_wp2_with (first | (go_at_call 44; refine (l1In_yes _ _ _ _ (by omega) (by omega)).mono ?_; rintro e w' ⟨rfl, rfl⟩) | (go_at_call 44; refine (l1In_no _ _ _ _ (by omega)).mono ?_; rintro e w' ⟨rfl, rfl⟩))
      go_ret2
      exact ⟨rfl, hB⟩

set_option maxRecDepth 100000 in
set_option maxHeartbeats 3200000 in
theorem isCached_any (n p s h a : Int) (A1 : Option Addr) (n1 c1 : Nat) (A2 : Option Addr) (n2 c2 : Nat) (xs ys : List Int) (w : World) (a1 : RdI w A1 n1 xs) (a2 : RdI w A2 n2 ys) (hn2 : n2 ≤ 1048576) :
    Calls Try.prog 76 #[.int .i64 n, .agg #[.int .i64 p, .int .i64 s, .slice A1 n1 c1, .slice A2 n2 c2, .int .i64 h], .int .i64 a] w fun e w' => e = .returned (.bool (hitOk n p s xs ys h a)) ∧ Below w.heap.size w w' := by
  have k1 := fun w' (q1 : RdI w' A1 n1 xs) (q2 : RdI w' A2 n2 ys) => impl_IsCache n p s h A1 n1 c1 A2 n2 c2 xs ys w' q1 q2 hn2
  replace a1 := hide a1
  replace a2 := hide a2
  cases c : cacheB n p s xs ys h
  · obtain ⟨e1, _⟩ := hit_off (a := a) c
    rw [e1]
    rw [c] at k1
    replace k1 := hide k1
    clear c e1
    go_enter Try.func76, Try.ntmps76
    go_wp2_with fail
    refine (k1.out _ (a1.out.below (by repeat (first | exact Below.refl _ _ | (refine below_drewN ?_ _) | (refine Below.drew ?_) | (refine Below.alloc ?_ (by first | exact Nat.le_refl _ | (simp; done) | (simp; omega) | omega) _) | (refine Below.setCell ?_ (by first | exact Nat.le_refl _ | (simp; done) | (simp; omega) | omega) _) | (refine Below.trans ?_ (Below.mono (by assumption) (by first | exact Nat.le_refl _ | (simp; done) | (simp; omega) | omega)))))) (a2.out.below (by repeat (first | exact Below.refl _ _ | (refine below_drewN ?_ _) | (refine Below.drew ?_) | (refine Below.alloc ?_ (by first | exact Nat.le_refl _ | (simp; done) | (simp; omega) | omega) _) | (refine Below.setCell ?_ (by first | exact Nat.le_refl _ | (simp; done) | (simp; omega) | omega) _) | (refine Below.trans ?_ (Below.mono (by assumption) (by first | exact Nat.le_refl _ | (simp; done) | (simp; omega) | omega))))))).mono ?_
    rintro e w1 ⟨rfl, hb⟩
    go_wp2_with fail
    go_ret
    exact ⟨rfl, (by repeat (first | exact Below.refl _ _ | (refine below_drewN ?_ _) | (refine Below.drew ?_) | (refine Below.alloc ?_ (by first | exact Nat.le_refl _ | (simp; done) | (simp; omega) | omega) _) | (refine Below.setCell ?_ (by first | exact Nat.le_refl _ | (simp; done) | (simp; omega) | omega) _) | (refine Below.trans ?_ (Below.mono (by assumption) (by first | exact Nat.le_refl _ | (simp; done) | (simp; omega) | omega)))))⟩
  · obtain ⟨hc1, hc2⟩ := cache_n c
    rw [c] at k1
    by_cases d : 0 ≤ a ∧ a ≤ n - 1
    · obtain ⟨e1, _⟩ := hit_in c d
      rw [e1]
      obtain ⟨d1, d2⟩ := d
      replace k1 := hide k1
      clear c e1
      go_enter Try.func76, Try.ntmps76
      go_wp2_with fail
      refine (k1.out _ (a1.out.below (by repeat (first | exact Below.refl _ _ | (refine below_drewN ?_ _) | (refine Below.drew ?_) | (refine Below.alloc ?_ (by first | exact Nat.le_refl _ | (simp; done) | (simp; omega) | omega) _) | (refine Below.setCell ?_ (by first | exact Nat.le_refl _ | (simp; done) | (simp; omega) | omega) _) | (refine Below.trans ?_ (Below.mono (by assumption) (by first | exact Nat.le_refl _ | (simp; done) | (simp; omega) | omega)))))) (a2.out.below (by repeat (first | exact Below.refl _ _ | (refine below_drewN ?_ _) | (refine Below.drew ?_) | (refine Below.alloc ?_ (by first | exact Nat.le_refl _ | (simp; done) | (simp; omega) | omega) _) | (refine Below.setCell ?_ (by first | exact Nat.le_refl _ | (simp; done) | (simp; omega) | omega) _) | (refine Below.trans ?_ (Below.mono (by assumption) (by first | exact Nat.le_refl _ | (simp; done) | (simp; omega) | omega))))))).mono ?_
      rintro e w1 ⟨rfl, hb⟩
      go_wp2_with (first | (go_at_call 47; refine (within_yes _ _ _ _ (by omega) (by omega)).mono ?_; rintro e w' ⟨rfl, rfl⟩) | (go_at_call 47; refine (within_no _ _ _ _ (by omega)).mono ?_; rintro e w' ⟨rfl, rfl⟩))
      go_ret
      exact ⟨rfl, (by repeat (first | exact Below.refl _ _ | (refine below_drewN ?_ _) | (refine Below.drew ?_) | (refine Below.alloc ?_ (by first | exact Nat.le_refl _ | (simp; done) | (simp; omega) | omega) _) | (refine Below.setCell ?_ (by first | exact Nat.le_refl _ | (simp; done) | (simp; omega) | omega) _) | (refine Below.trans ?_ (Below.mono (by assumption) (by first | exact Nat.le_refl _ | (simp; done) | (simp; omega) | omega)))))⟩
    · obtain ⟨e1, _⟩ := hit_out (p := p) (s := s) (h := h) (xs := xs) (ys := ys) d
      rw [e1]
      replace k1 := hide k1
      clear c e1
      go_enter Try.func76, Try.ntmps76
      go_wp2_with fail
      refine (k1.out _ (a1.out.below (by repeat (first | exact Below.refl _ _ | (refine below_drewN ?_ _) | (refine Below.drew ?_) | (refine Below.alloc ?_ (by first | exact Nat.le_refl _ | (simp; done) | (simp; omega) | omega) _) | (refine Below.setCell ?_ (by first | exact Nat.le_refl _ | (simp; done) | (simp; omega) | omega) _) | (refine Below.trans ?_ (Below.mono (by assumption) (by first | exact Nat.le_refl _ | (simp; done) | (simp; omega) | omega)))))) (a2.out.below (by repeat (first | exact Below.refl _ _ | (refine below_drewN ?_ _) | (refine Below.drew ?_) | (refine Below.alloc ?_ (by first | exact Nat.le_refl _ | (simp; done) | (simp; omega) | omega) _) | (refine Below.setCell ?_ (by first | exact Nat.le_refl _ | (simp; done) | (simp; omega) | omega) _) | (refine Below.trans ?_ (Below.mono (by assumption) (by first | exact Nat.le_refl _ | (simp; done) | (simp; omega) | omega))))))).mono ?_
      rintro e w1 ⟨rfl, hb⟩
      go_wp2_with (first | (go_at_call 47; refine (within_yes _ _ _ _ (by omega) (by omega)).mono ?_; rintro e w' ⟨rfl, rfl⟩) | (go_at_call 47; refine (within_no _ _ _ _ (by omega)).mono ?_; rintro e w' ⟨rfl, rfl⟩))
      go_ret
      exact ⟨rfl, (by repeat (first | exact Below.refl _ _ | (refine below_drewN ?_ _) | (refine Below.drew ?_) | (refine Below.alloc ?_ (by first | exact Nat.le_refl _ | (simp; done) | (simp; omega) | omega) _) | (refine Below.setCell ?_ (by first | exact Nat.le_refl _ | (simp; done) | (simp; omega) | omega) _) | (refine Below.trans ?_ (Below.mono (by assumption) (by first | exact Nat.le_refl _ | (simp; done) | (simp; omega) | omega)))))⟩

set_option maxRecDepth 100000 in
set_option maxHeartbeats 3200000 in
theorem impl_IsHit (n p s h a : Int) (A1 : Option Addr) (n1 c1 : Nat) (A2 : Option Addr) (n2 c2 : Nat) (xs ys : List Int) (w : World) (a1 : RdI w A1 n1 xs) (a2 : RdI w A2 n2 ys) (hn1 : n1 ≤ 1048576) (hn2 : n2 ≤ 1048576) :
    Calls Try.prog 39 #[.int .i64 n, .agg #[.int .i64 p, .int .i64 s, .slice A1 n1 c1, .slice A2 n2 c2, .int .i64 h], .int .i64 a] w fun e w' => e = .returned (.tuple #[.bool (hitB n p s xs ys h a), .bool (hitOk n p s xs ys h a)]) ∧ Below w.heap.size w w' := by
  have k1 := fun w' (q1 : RdI w' A1 n1 xs) (q2 : RdI w' A2 n2 ys) => isCached_any n p s h a A1 n1 c1 A2 n2 c2 xs ys w' q1 q2 hn2
  replace a1 := hide a1
  replace a2 := hide a2
  cases c : hitOk n p s xs ys h a
  · have e2 : hitB n p s xs ys h a = false := by unfold hitB; rw [c]; rfl
    rw [e2]
    rw [c] at k1
    replace k1 := hide k1
    clear c e2
    go_enter Try.func39, Try.ntmps39
    go_wp2_with fail
    refine (k1.out _ (a1.out.below (by repeat (first | exact Below.refl _ _ | (refine below_drewN ?_ _) | (refine Below.drew ?_) | (refine Below.alloc ?_ (by first | exact Nat.le_refl _ | (simp; done) | (simp; omega) | omega) _) | (refine Below.setCell ?_ (by first | exact Nat.le_refl _ | (simp; done) | (simp; omega) | omega) _) | (refine Below.trans ?_ (Below.mono (by assumption) (by first | exact Nat.le_refl _ | (simp; done) | (simp; omega) | omega)))))) (a2.out.below (by repeat (first | exact Below.refl _ _ | (refine below_drewN ?_ _) | (refine Below.drew ?_) | (refine Below.alloc ?_ (by first | exact Nat.le_refl _ | (simp; done) | (simp; omega) | omega) _) | (refine Below.setCell ?_ (by first | exact Nat.le_refl _ | (simp; done) | (simp; omega) | omega) _) | (refine Below.trans ?_ (Below.mono (by assumption) (by first | exact Nat.le_refl _ | (simp; done) | (simp; omega) | omega))))))).mono ?_
    rintro e w1 ⟨rfl, hb⟩
    go_wp2_with fail
    go_ret2
    exact ⟨rfl, (by repeat (first | exact Below.refl _ _ | (refine below_drewN ?_ _) | (refine Below.drew ?_) | (refine Below.alloc ?_ (by first | exact Nat.le_refl _ | (simp; done) | (simp; omega) | omega) _) | (refine Below.setCell ?_ (by first | exact Nat.le_refl _ | (simp; done) | (simp; omega) | omega) _) | (refine Below.trans ?_ (Below.mono (by assumption) (by first | exact Nat.le_refl _ | (simp; done) | (simp; omega) | omega)))))⟩
  · have e2 : hitB n p s xs ys h a = hasB xs a := by unfold hitB; rw [c]; rfl
    rw [e2]
    rw [c] at k1
    have k2 := fun w' (q1 : RdI w' A1 n1 xs) => contains_any A1 n1 c1 xs a w' q1 hn1
    generalize hasB xs a = r at k2 ⊢
    replace k1 := hide k1
    replace k2 := hide k2
    clear c e2
    go_enter Try.func39, Try.ntmps39
    go_wp2_with fail
    refine (k1.out _ (a1.out.below (by repeat (first | exact Below.refl _ _ | (refine below_drewN ?_ _) | (refine Below.drew ?_) | (refine Below.alloc ?_ (by first | exact Nat.le_refl _ | (simp; done) | (simp; omega) | omega) _) | (refine Below.setCell ?_ (by first | exact Nat.le_refl _ | (simp; done) | (simp; omega) | omega) _) | (refine Below.trans ?_ (Below.mono (by assumption) (by first | exact Nat.le_refl _ | (simp; done) | (simp; omega) | omega)))))) (a2.out.below (by repeat (first | exact Below.refl _ _ | (refine below_drewN ?_ _) | (refine Below.drew ?_) | (refine Below.alloc ?_ (by first | exact Nat.le_refl _ | (simp; done) | (simp; omega) | omega) _) | (refine Below.setCell ?_ (by first | exact Nat.le_refl _ | (simp; done) | (simp; omega) | omega) _) | (refine Below.trans ?_ (Below.mono (by assumption) (by first | exact Nat.le_refl _ | (simp; done) | (simp; omega) | omega))))))).mono ?_
    rintro e w1 ⟨rfl, hb⟩
    obtain ⟨hc, hf⟩ := bcell hb
    have hB : Below w.heap.size w w1 := (by repeat (first | exact Below.refl _ _ | (refine below_drewN ?_ _) | (refine Below.drew ?_) | (refine Below.alloc ?_ (by first | exact Nat.le_refl _ | (simp; done) | (simp; omega) | omega) _) | (refine Below.setCell ?_ (by first | exact Nat.le_refl _ | (simp; done) | (simp; omega) | omega) _) | (refine Below.trans ?_ (Below.mono (by assumption) (by first | exact Nat.le_refl _ | (simp; done) | (simp; omega) | omega)))))
    replace hb := hide hb
    go_wp2_with (first | (go_at_call 62; refine (k2.out _ (a1.out.below hB)).mono ?_; rintro e w2 ⟨rfl, rfl⟩))
    go_ret2
    exact ⟨rfl, hB⟩
end Go.Proofs.Ytbceekcfokgmpaa
