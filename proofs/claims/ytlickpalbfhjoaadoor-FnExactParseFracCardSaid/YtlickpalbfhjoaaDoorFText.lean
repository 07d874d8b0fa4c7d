/- The text of a fraction, by the reference and by the program; for numbers far from the bounds of 64 bits; the premise: Go's table of powers of ten. -/
import Derived.Test.YtlickpalbfhjoaaDoorSeal
import Derived.Test.YtlickpalbfhjoaaDoorFracLaw
import Derived.Deep.RegionHeld3
import Derived.Deep.Cut
namespace Go.Proofs.YtlickpalbfhjoaaDoor
open Go.RowKit

def fText (a b : Int) : ByteArray := if b = 1 then numText a else numText a ++ ⟨#[47]⟩ ++ numText b

set_option maxRecDepth 100000 in
set_option maxHeartbeats 1000000 in
theorem l2Text_any (a b : Int) (ha : -4611686018427387904 < a ∧ a < 4611686018427387904) (hb : -4611686018427387904 < b ∧ b < 4611686018427387904) (w : World) :
    Calls Tryd.prog 44 #[.agg #[.int .i64 a, .int .i64 b]] w fun e w' => e = .returned (.string (fText a b)) ∧ Below w.heap.size w w' := by
  have hA := fun w => l1Num_any a ha.1 ha.2 w
  have hB := fun w => l1Num_any b hb.1 hb.2 w
  have sA := numText_size a (by omega)
  have sB := numText_size b (by omega)
  change ∀ w, Calls _ _ _ w fun e w' => e = .returned (.string (numText a)) ∧ ∃ m, w' = w.drewN m at hA
  change ∀ w, Calls _ _ _ w fun e w' => e = .returned (.string (numText b)) ∧ ∃ m, w' = w.drewN m at hB
  unfold fText
  generalize numText a = ta at hA sA ⊢
  generalize numText b = tb at hB sB ⊢
  clear ha hb
  by_cases h : b = 1
  · subst h
    go_enter Tryd.func44, Tryd.ntmps44
    go_wp2_with ((go_at_call 40; refine (hA _).mono ?_; rintro e w1 ⟨rfl, m, rfl⟩))
    go_ret
    exact ⟨rfl, (by repeat (first | exact Below.refl _ _ | (refine below_drewN ?_ _) | (refine Below.drew ?_) | (refine Below.alloc ?_ (by first | exact Nat.le_refl _ | (simp; done) | (simp; omega) | omega) _) | (refine Below.setCell ?_ (by first | exact Nat.le_refl _ | (simp; done) | (simp; omega) | omega) _) | (refine Below.trans ?_ (Below.mono (by assumption) (by first | exact Nat.le_refl _ | (simp; done) | (simp; omega) | omega)))))⟩
  · rw [if_neg h]
    go_enter Tryd.func44, Tryd.ntmps44
    go_wp2_with fail
    go_quiet (first
      | (go_at_call_of 40 (Value.int .i64 a); exact Calls.quiet_of (hA _))
      | (go_at_call_of 40 (Value.int .i64 b); exact Calls.quiet_of (hB _)))
    go_wp2_with fail
    go_ret
    exact ⟨rfl, (by repeat (first | exact Below.refl _ _ | (refine below_drewN ?_ _) | (refine Below.drew ?_) | (refine Below.alloc ?_ (by first | exact Nat.le_refl _ | (simp; done) | (simp; omega) | omega) _) | (refine Below.setCell ?_ (by first | exact Nat.le_refl _ | (simp; done) | (simp; omega) | omega) _) | (refine Below.trans ?_ (Below.mono (by assumption) (by first | exact Nat.le_refl _ | (simp; done) | (simp; omega) | omega)))))⟩

set_option maxRecDepth 100000 in
set_option maxHeartbeats 1000000 in
theorem fracText_any (a b : Int) (ha : -4611686018427387904 < a ∧ a < 4611686018427387904) (hb : -4611686018427387904 < b ∧ b < 4611686018427387904) (w : World) (ht : Tab w) :
    Calls Tryd.prog 46 #[.agg #[.int .i64 a, .int .i64 b]] w fun e w' => e = .returned (.string (fText a b)) ∧ Below w.heap.size w w' := by
  have hA := fun w => dec_any a (by omega) (by omega) w
  have hB := fun w => dec_any b (by omega) (by omega) w
  have sA := numText_size a (by omega)
  have sB := numText_size b (by omega)
  change ∀ w, Tab w → Calls _ _ _ w fun e w' => e = .returned (.string (numText a)) ∧ Below w.heap.size w w' at hA
  change ∀ w, Tab w → Calls _ _ _ w fun e w' => e = .returned (.string (numText b)) ∧ Below w.heap.size w w' at hB
  unfold fText
  generalize numText a = ta at hA sA ⊢
  generalize numText b = tb at hB sB ⊢
  clear ha hb
  have hbe : Below w.heap.size w (w.alloc (.cells #[.int .i64 a, .int .i64 b] 28)) := (by repeat (first | exact Below.refl _ _ | (refine below_drewN ?_ _) | (refine Below.drew ?_) | (refine Below.alloc ?_ (by first | exact Nat.le_refl _ | (simp; done) | (simp; omega) | omega) _) | (refine Below.setCell ?_ (by first | exact Nat.le_refl _ | (simp; done) | (simp; omega) | omega) _) | (refine Below.trans ?_ (Below.mono (by assumption) (by first | exact Nat.le_refl _ | (simp; done) | (simp; omega) | omega)))))
  by_cases h : b = 1
  · subst h
    replace ht := ht.below hbe
    go_enter Tryd.func46, Tryd.ntmps46
    go_wp2_with ((go_at_call 42; refine (hA _ ht).mono ?_; rintro e w1 ⟨rfl, hb⟩))
    go_ret
    exact ⟨rfl, hbe.trans (hb.mono hbe.size)⟩
  · rw [if_neg h]
    obtain ⟨W0, HW⟩ : ∃ W0, W0 = w.alloc (.cells #[.int .i64 a, .int .i64 b] 28) := ⟨_, rfl⟩
    have q0 : W0.cell? ⟨w.heap.size, 0, none⟩ = some (.int .i64 a) := by subst HW; go_simp
    have q1 : W0.cell? ⟨w.heap.size, 1, none⟩ = some (.int .i64 b) := by subst HW; go_simp
    have hz : w.heap.size + 1 ≤ W0.heap.size := by subst HW; simp
    rw [← HW] at hbe
    replace ht := ht.below hbe
    have HT := hide (fun (w' : World) (hk : Kept W0.heap.size W0 w') => ht.below hk.1)
    have mkS := hide (fun (w' : World) (h : Kept W0.heap.size W0 w') => (⟨(h.cells _ _ (by omega)).trans q0, (h.cells _ _ (by omega)).trans q1, h⟩ : w'.cell? ⟨w.heap.size, 0, none⟩ = some (.int .i64 a) ∧ w'.cell? ⟨w.heap.size, 1, none⟩ = some (.int .i64 b) ∧ Kept W0.heap.size W0 w'))
    have HK := Kept.start (Nat.le_refl W0.heap.size)
    replace hbe := hide hbe
    replace HW := hide HW
    go_enter Tryd.func46, Tryd.ntmps46
    go_upto_region 1 with (fail)
    rw [← HW.out]
    have c1 : ¬ (9223372036854775807 < ta.size + 1) := by omega
    have c2 : ¬ (9223372036854775807 < ta.size + 1 + tb.size) := by omega
    have c3 : (⟨#[47]⟩ : ByteArray).size = 1 := rfl
    go_wp2_with fail
    go_region_held3 (fun w' => w'.cell? ⟨w.heap.size, 0, none⟩ = some (.int .i64 a) ∧ w'.cell? ⟨w.heap.size, 1, none⟩ = some (.int .i64 b) ∧ Kept W0.heap.size W0 w')
      (first | exact mkS.out _ HK | exact mkS.out _ HK.drew)
      (first
        | (go_at_call 42; (first | refine (hA _ (HT.out _ (by first | exact HK | exact HK.drew))).mono ?_ | refine (hB _ (HT.out _ (by first | exact HK | exact HK.drew))).mono ?_); rintro e w1 ⟨rfl, hb⟩; go_must (have HK := Kept.step (by first | exact HK | exact HK.drew) hb)))
    all_goals go_wp2_with fail
    all_goals go_ret
    all_goals exact ⟨rfl, HK.below hbe.out (by omega)⟩

end Go.Proofs.YtlickpalbfhjoaaDoor
