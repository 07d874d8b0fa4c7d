/- The reference's IsCache hands its l4Good on; for lists of at most 2^20 numbers. -/
import Derived.Test.YtbceekcfokgmpaaIsCacheS
namespace Go.Proofs.Ytbceekcfokgmpaa
open Go.RowKit

theorem spec_IsCache (n p s h : Int) (A1 : Option Addr) (n1 c1 : Nat) (A2 : Option Addr) (n2 c2 : Nat) (xs ys : List Int) (w : World) (a1 : RdI w A1 n1 xs) (a2 : RdI w A2 n2 ys) (hn2 : n2 ≤ 1048576) :
    Calls Try.prog 30 #[.int .i64 n, .agg #[.int .i64 p, .int .i64 s, .slice A1 n1 c1, .slice A2 n2 c2, .int .i64 h]] w fun e w' => e = .returned (.bool (cacheB n p s xs ys h)) ∧ Below w.heap.size w w' := by
  have k1 := hide (fun w' (q1 : RdI w' A1 n1 xs) (q2 : RdI w' A2 n2 ys) => l4Good_any n p s h A1 n1 c1 A2 n2 c2 xs ys w' q1 q2 hn2)
  replace a1 := hide a1
  replace a2 := hide a2
  go_enter Try.func30, Try.ntmps30
  go_wp2_with fail
  refine (k1.out _ (a1.out.below (by repeat (first | exact Below.refl _ _ | (refine below_drewN ?_ _) | (refine Below.drew ?_) | (refine Below.alloc ?_ (by first | exact Nat.le_refl _ | (simp; done) | (simp; omega) | omega) _) | (refine Below.setCell ?_ (by first | exact Nat.le_refl _ | (simp; done) | (simp; omega) | omega) _) | (refine Below.trans ?_ (Below.mono (by assumption) (by first | exact Nat.le_refl _ | (simp; done) | (simp; omega) | omega)))))) (a2.out.below (by repeat (first | exact Below.refl _ _ | (refine below_drewN ?_ _) | (refine Below.drew ?_) | (refine Below.alloc ?_ (by first | exact Nat.le_refl _ | (simp; done) | (simp; omega) | omega) _) | (refine Below.setCell ?_ (by first | exact Nat.le_refl _ | (simp; done) | (simp; omega) | omega) _) | (refine Below.trans ?_ (Below.mono (by assumption) (by first | exact Nat.le_refl _ | (simp; done) | (simp; omega) | omega))))))).mono ?_
  rintro e w1 ⟨rfl, hb⟩
  go_wp2_with fail
  go_ret
  exact ⟨rfl, (by repeat (first | exact Below.refl _ _ | (refine below_drewN ?_ _) | (refine Below.drew ?_) | (refine Below.alloc ?_ (by first | exact Nat.le_refl _ | (simp; done) | (simp; omega) | omega) _) | (refine Below.setCell ?_ (by first | exact Nat.le_refl _ | (simp; done) | (simp; omega) | omega) _) | (refine Below.trans ?_ (Below.mono (by assumption) (by first | exact Nat.le_refl _ | (simp; done) | (simp; omega) | omega)))))⟩
end Go.Proofs.Ytbceekcfokgmpaa
