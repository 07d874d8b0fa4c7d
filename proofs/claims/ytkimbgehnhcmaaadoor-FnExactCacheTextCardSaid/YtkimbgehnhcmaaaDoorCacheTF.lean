/- The program's CacheText; for lists of at most 2^20 numbers; the premise: Go's own tables are laid. -/
import Derived.Test.YtkimbgehnhcmaaaDoorCacheTI
import Derived.Test.YtkimbgehnhcmaaaDoorIsCacheS
namespace Go.Proofs.YtkimbgehnhcmaaaDoor
open Go.RowKit

set_option maxHeartbeats 1600000 in
theorem iCacheText_any (m n p s h : Int) (A1 : Option Addr) (n1 c1 : Nat) (A2 : Option Addr) (n2 c2 : Nat) (xs ys : List Int) (w : World) (a1 : RdI w A1 n1 xs) (a2 : RdI w A2 n2 ys) (hn2 : n2 ≤ 1048576) (ht : Tabs m w) :
    Calls Tryd.prog 7 #[.int .i64 n, .agg #[.int .i64 p, .int .i64 s, .slice A1 n1 c1, .slice A2 n2 c2, .int .i64 h]] w fun e w' => e = .returned (.tuple #[.string (ctText n p s xs ys h), .bool (cacheB n p s xs ys h)]) ∧ Below w.heap.size w w' := by
  have kG := fun w a1 a2 => impl_IsCache n p s h A1 n1 c1 A2 n2 c2 xs ys w a1 a2 hn2
  have hB0 := hide ((Below.refl w.heap.size w).alloc (Nat.le_refl _) (.cells #[.int .i64 p, .int .i64 s, .slice A1 n1 c1, .slice A2 n2 c2, .int .i64 h] 28))
  replace ht := hide ht
  cases hc : cacheB n p s xs ys h
  · have ht : ctText n p s xs ys h = ByteArray.empty := by unfold ctText; rw [hc]; rfl
    rw [ht]
    rw [hc] at kG
    go_enter Tryd.func7, Tryd.ntmps7
    go_wp2_with (go_at_call 13; refine (kG _ (a1.below hB0.out) (a2.below hB0.out)).mono ?_; rintro e w1 ⟨rfl, hb⟩)
    go_ret2
    exact ⟨rfl, hB0.out.trans (hb.mono (by simp))⟩
  · have hf := fine_of hc
    have htt : ctText n p s xs ys h = ctTo p s h xs ys n1 := by unfold ctText; rw [hc, ← a1.1]; rfl
    rw [htt]
    rw [hc] at kG
    have kT := fun w a1 a2 ht => iText_any m p s h A1 n1 c1 A2 n2 c2 xs ys w a1 a2 hf ht
    have HF0 := hide (Five.new w 28 (.int .i64 p) (.int .i64 s) (.slice A1 n1 c1) (.slice A2 n2 c2) (.int .i64 h))
    clear hc hf htt
    go_enter Tryd.func7, Tryd.ntmps7
    go_wp2_with (first
      | (go_at_call 13; refine (kG _ (a1.below hB0.out) (a2.below hB0.out)).mono ?_; rintro e w1 ⟨rfl, hb⟩; have HB1 := hide (hB0.out.trans (hb.mono (by simp))); obtain ⟨f0, f1, f2, f3, f4, f5⟩ := Five.on HF0.out hb; clear hb)
      | (go_at_call 14; refine (kT _ (a1.below HB1.out) (a2.below HB1.out) (ht.out.below HB1.out)).mono ?_; rintro e w2 ⟨rfl, hb2⟩; have HB2 := hide (HB1.out.trans (hb2.mono HB1.out.size)); clear hb2))
    go_ret2
    exact ⟨rfl, HB2.out⟩
end Go.Proofs.YtkimbgehnhcmaaaDoor
