/- Whether a cache is valid: the reference's l4Good and IsCache and the program's IsCache return the same; for lists of at most 2^20 numbers. -/
import Derived.Test.YtkimbgehnhcmaaaGreatDoorGoodE
import Derived.Test.YtkimbgehnhcmaaaGreatDoorIsCE
import Derived.Test.YtkimbgehnhcmaaaGreatDoorIsCF
namespace Go.Proofs.YtkimbgehnhcmaaaGreatDoor
open Go.RowKit

theorem l4Good_any (n p s h : Int) (A1 : Option Addr) (n1 c1 : Nat) (A2 : Option Addr) (n2 c2 : Nat) (xs ys : List Int) (w : World) (a1 : RdI w A1 n1 xs) (a2 : RdI w A2 n2 ys) (hn2 : n2 ≤ 1048576) :
    Calls Tryz.prog 14 #[.int .i64 n, .agg #[.int .i64 p, .int .i64 s, .slice A1 n1 c1, .slice A2 n2 c2, .int .i64 h]] w fun e w' => e = .returned (.bool (cacheB n p s xs ys h)) ∧ Below w.heap.size w w' := by
  have hl := a1.1
  by_cases c : 1 ≤ n ∧ n ≤ 8
  · by_cases d : (1 ≤ p ∧ p ≤ 7) ∧ (1 ≤ s ∧ s ≤ 6)
    · by_cases e : (n1 : Int) ≤ s
      · cases f : belowB n xs
        · rw [cb_b f]; exact good_below n p s h A1 n1 c1 A2 n2 c2 w xs a1 c d e f
        · by_cases g : (riseL xs).length = n1
          · cases m : marksB p n1 ys
            · rw [cb_m (by rw [hl]; exact m)]; exact good_marks n p s h A1 n1 c1 A2 n2 c2 w xs ys a1 a2 hn2 c d e f g m
            · rw [cb_h c d (by rw [hl]; exact e) f (by rw [hl]; exact g) (by rw [hl]; exact m), hl]; exact good_all n p s h A1 n1 c1 A2 n2 c2 w xs ys a1 a2 hn2 c d e f g m
          · rw [cb_r (by rw [hl]; exact g)]; exact good_rise n p s h A1 n1 c1 A2 n2 c2 w xs ys a1 a2 hn2 c d e f g
      · rw [cb_l (by rw [hl]; exact e)]; exact good_len n p s h A1 n1 c1 A2 n2 c2 w c d e
    · rw [cb_s d]; exact good_sizes n p s h A1 n1 c1 A2 n2 c2 w c d
  · rw [cb_n c]; exact good_items n p s h A1 n1 c1 A2 n2 c2 w c
theorem impl_IsCache (n p s h : Int) (A1 : Option Addr) (n1 c1 : Nat) (A2 : Option Addr) (n2 c2 : Nat) (xs ys : List Int) (w : World) (a1 : RdI w A1 n1 xs) (a2 : RdI w A2 n2 ys) (hn2 : n2 ≤ 1048576) :
    Calls Tryz.prog 21 #[.int .i64 n, .agg #[.int .i64 p, .int .i64 s, .slice A1 n1 c1, .slice A2 n2 c2, .int .i64 h]] w fun e w' => e = .returned (.bool (cacheB n p s xs ys h)) ∧ Below w.heap.size w w' := by
  have hl := a1.1
  by_cases c : 1 ≤ n ∧ n ≤ 8
  · by_cases d : 1 ≤ p ∧ p ≤ 7
    · by_cases d2 : 1 ≤ s ∧ s ≤ 6
      · by_cases e : (n1 : Int) ≤ s
        · cases f : belowB n xs
          · rw [cb_b f]; exact isc_below n p s h A1 n1 c1 A2 n2 c2 w xs ys a1 a2 hn2 c d d2 e f
          · by_cases g : (riseL xs).length = n1
            · cases m : marksB p n1 ys
              · rw [cb_m (by rw [hl]; exact m)]; exact isc_marks n p s h A1 n1 c1 A2 n2 c2 w xs ys a1 a2 hn2 c d d2 e f g m
              · rw [cb_h c ⟨d, d2⟩ (by rw [hl]; exact e) f (by rw [hl]; exact g) (by rw [hl]; exact m), hl]; exact isc_all n p s h A1 n1 c1 A2 n2 c2 w xs ys a1 a2 hn2 c d d2 e f g m
            · rw [cb_r (by rw [hl]; exact g)]; exact isc_rise n p s h A1 n1 c1 A2 n2 c2 w xs ys a1 a2 hn2 c d d2 e f g
        · rw [cb_l (by rw [hl]; exact e)]; exact isc_len n p s h A1 n1 c1 A2 n2 c2 w c d d2 e
      · rw [cb_s (fun q => d2 q.2)]; exact isc_size n p s h A1 n1 c1 A2 n2 c2 w c d d2
    · rw [cb_s (fun q => d q.1)]; exact isc_policy n p s h A1 n1 c1 A2 n2 c2 w c d
  · rw [cb_n c]; exact isc_items n p s h A1 n1 c1 A2 n2 c2 w c
end Go.Proofs.YtkimbgehnhcmaaaGreatDoor
