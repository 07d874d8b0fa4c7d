/- The law's copy of a cache: two lists of its own; for lists of at most 2^20 numbers. -/
import Derived.Test.YtkimbgehnhcmaaaDoorCacheA
namespace Go.Proofs.YtkimbgehnhcmaaaDoor
open Go.RowKit

theorem five_cells {w : World} {b : Nat} {x0 x1 x2 x3 x4 : Value} (h0 : w.cell? ⟨b, 0, none⟩ = some x0) (h1 : w.cell? ⟨b, 1, none⟩ = some x1) (h2 : w.cell? ⟨b, 2, none⟩ = some x2) (h3 : w.cell? ⟨b, 3, none⟩ = some x3) (h4 : w.cell? ⟨b, 4, none⟩ = some x4) :
    (∀ u0 : Value, (w.setCell ⟨b, 0, none⟩ u0).cell? ⟨b, 0, none⟩ = some u0) ∧ (∀ u0 u1 : Value, ((w.setCell ⟨b, 0, none⟩ u0).setCell ⟨b, 1, none⟩ u1).cell? ⟨b, 1, none⟩ = some u1) ∧ (∀ u0 u1 u2 : Value, (((w.setCell ⟨b, 0, none⟩ u0).setCell ⟨b, 1, none⟩ u1).setCell ⟨b, 2, none⟩ u2).cell? ⟨b, 2, none⟩ = some u2) ∧ (∀ u0 u1 u2 u3 : Value, ((((w.setCell ⟨b, 0, none⟩ u0).setCell ⟨b, 1, none⟩ u1).setCell ⟨b, 2, none⟩ u2).setCell ⟨b, 3, none⟩ u3).cell? ⟨b, 3, none⟩ = some u3) ∧ (∀ u0 u1 u2 u3 u4 : Value, (((((w.setCell ⟨b, 0, none⟩ u0).setCell ⟨b, 1, none⟩ u1).setCell ⟨b, 2, none⟩ u2).setCell ⟨b, 3, none⟩ u3).setCell ⟨b, 4, none⟩ u4).cell? ⟨b, 4, none⟩ = some u4) :=
  ⟨fun u0 => World.cell?_setCell_same _ _ _ h0, fun u0 u1 => World.cell?_setCell_same _ _ _ ((World.cell?_setCell_other _ _ _ _ (by simp)).trans h1), fun u0 u1 u2 => World.cell?_setCell_same _ _ _ ((World.cell?_setCell_other _ _ _ _ (by simp)).trans ((World.cell?_setCell_other _ _ _ _ (by simp)).trans h2)), fun u0 u1 u2 u3 => World.cell?_setCell_same _ _ _ ((World.cell?_setCell_other _ _ _ _ (by simp)).trans ((World.cell?_setCell_other _ _ _ _ (by simp)).trans ((World.cell?_setCell_other _ _ _ _ (by simp)).trans h3))), fun u0 u1 u2 u3 u4 => World.cell?_setCell_same _ _ _ ((World.cell?_setCell_other _ _ _ _ (by simp)).trans ((World.cell?_setCell_other _ _ _ _ (by simp)).trans ((World.cell?_setCell_other _ _ _ _ (by simp)).trans ((World.cell?_setCell_other _ _ _ _ (by simp)).trans h4))))⟩
/-- A row from base on stands where a cell ahead of base is written. -/
theorem OwnI.set {w : World} {base : Nat} {A : Option Addr} {n c : Nat} {xs : List Int} (h : OwnI w base A n c xs) (p : Addr) (v : Value) (hp : p.block < base) : OwnI (w.setCell p v) base A n c xs := by
  obtain ⟨h1, h2⟩ := h
  refine ⟨h1, ?_⟩
  rcases h2 with h2 | ⟨g, cap, cur, hv, hg, hh, r⟩
  · exact Or.inl h2
  · exact Or.inr ⟨g, cap, cur, hv, hg, by rw [Below.heap_setCell w p v g (by omega)]; exact hh, r⟩
def RetCopy (p s h : Int) (n1 n2 : Nat) (xs ys : List Int) (w : World) (e : Ending) (w' : World) : Prop :=
  ∃ B1 d1 B2 d2, e = .returned (.agg #[.int .i64 p, .int .i64 s, .slice B1 n1 d1, .slice B2 n2 d2, .int .i64 h]) ∧ OwnI w' w.heap.size B1 n1 d1 xs ∧ OwnI w' w.heap.size B2 n2 d2 ys ∧ Below w.heap.size w w'

set_option maxRecDepth 100000 in
set_option maxHeartbeats 1600000 in
theorem toCache_any (p s h : Int) (A1 : Option Addr) (n1 c1 : Nat) (A2 : Option Addr) (n2 c2 : Nat) (xs ys : List Int) (w : World)
    (a1 : RdI w A1 n1 xs) (a2 : RdI w A2 n2 ys) (hn1 : n1 ≤ 1048576) (hn2 : n2 ≤ 1048576) :
    Calls Tryd.prog 6 #[.agg #[.int .i64 p, .int .i64 s, .slice A1 n1 c1, .slice A2 n2 c2, .int .i64 h]] w (RetCopy p s h n1 n2 xs ys w) := by
  replace a1 := hide a1
  replace a2 := hide a2
  have hB := hide (Below.refl w.heap.size w)
  go_enter Tryd.func6, Tryd.ntmps6
  go_wp2_with fail
  refine (toIntS_any _ _ _ xs _ (a1.out.below (by repeat (first | exact Below.refl _ _ | (refine below_drewN ?_ _) | (refine Below.drew ?_) | (refine Below.alloc ?_ (by first | exact Nat.le_refl _ | (simp; done) | (simp; omega) | omega) _) | (refine Below.setCell ?_ (by first | exact Nat.le_refl _ | (simp; done) | (simp; omega) | omega) _) | (refine Below.trans ?_ (Below.mono (by assumption) (by first | exact Nat.le_refl _ | (simp; done) | (simp; omega) | omega)))))) hn1).mono ?_
  rintro e w1 ⟨B1, d1, rfl, o1, hb1⟩
  obtain ⟨hc1, hf1⟩ := bcell hb1
  have z1 : w.heap.size + 2 < w1.heap.size := by have := hb1.size; simp at this; omega
  have z10 : w.heap.size < w1.heap.size := by omega
  have z11 : w.heap.size + 1 < w1.heap.size := by omega
  have z12 : w.heap.size + 1 + 1 < w1.heap.size := by omega
  replace o1 := hide (o1.more (base' := w.heap.size + 3) (by simp))
  have hB1 : Below w.heap.size w w1 := by
    have := hb1
    exact (by repeat (first | exact Below.refl _ _ | (refine below_drewN ?_ _) | (refine Below.drew ?_) | (refine Below.alloc ?_ (by first | exact Nat.le_refl _ | (simp; done) | (simp; omega) | omega) _) | (refine Below.setCell ?_ (by first | exact Nat.le_refl _ | (simp; done) | (simp; omega) | omega) _) | (refine Below.trans ?_ (Below.mono (by assumption) (by first | exact Nat.le_refl _ | (simp; done) | (simp; omega) | omega)))))
  go_wp2_with fail
  refine (toIntS_any _ _ _ ys _ (a2.out.below (hB1.setCell (by first | (simp; omega) | omega) _)) hn2).mono ?_
  rintro e w2 ⟨B2, d2, rfl, o2, hb2⟩
  obtain ⟨hc2, hf2⟩ := bcell hb2
  have z2 : w.heap.size + 2 < w2.heap.size := by have := hb2.size; simp at this; omega
  have z20 : w.heap.size < w2.heap.size := by omega
  have z21 : w.heap.size + 1 < w2.heap.size := by omega
  have z22 : w.heap.size + 1 + 1 < w2.heap.size := by omega
  replace o1 := hide (((o1.out.set _ _ (by first | (simp; done) | (simp; omega))).below hb2))
  replace o2 := hide (o2.more (base' := w.heap.size + 3) (by first | (simp; done) | (simp; omega)))
  have hB2 : Below w.heap.size w w2 := (hB1.setCell (by first | (simp; omega) | omega) _).trans (hb2.mono (by first | (simp; done) | (simp; omega)))
  go_wp2
  have g0 : ((w2.setCell ⟨w.heap.size + 1 + 1, 3, none⟩ (.slice B2 n2 d2)).setCell ⟨w.heap.size + 1 + 1, 4, none⟩ (.int .i64 h)).cell? ⟨w.heap.size + 1, 0, none⟩ = some (.int .i64 0) := by
    rw [World.cell?_setCell_other _ _ _ _ (by simp), World.cell?_setCell_other _ _ _ _ (by simp), hc2 _ _ (by first | (simp; done) | (simp; omega)), World.cell?_setCell_other _ _ _ _ (by simp), hc1 _ _ (by simp)]
    go_simp
  have g1 : ((w2.setCell ⟨w.heap.size + 1 + 1, 3, none⟩ (.slice B2 n2 d2)).setCell ⟨w.heap.size + 1 + 1, 4, none⟩ (.int .i64 h)).cell? ⟨w.heap.size + 1, 1, none⟩ = some (.int .i64 0) := by
    rw [World.cell?_setCell_other _ _ _ _ (by simp), World.cell?_setCell_other _ _ _ _ (by simp), hc2 _ _ (by first | (simp; done) | (simp; omega)), World.cell?_setCell_other _ _ _ _ (by simp), hc1 _ _ (by simp)]
    go_simp
  have g2 : ((w2.setCell ⟨w.heap.size + 1 + 1, 3, none⟩ (.slice B2 n2 d2)).setCell ⟨w.heap.size + 1 + 1, 4, none⟩ (.int .i64 h)).cell? ⟨w.heap.size + 1, 2, none⟩ = some (.slice none 0 0) := by
    rw [World.cell?_setCell_other _ _ _ _ (by simp), World.cell?_setCell_other _ _ _ _ (by simp), hc2 _ _ (by first | (simp; done) | (simp; omega)), World.cell?_setCell_other _ _ _ _ (by simp), hc1 _ _ (by simp)]
    go_simp
  have g3 : ((w2.setCell ⟨w.heap.size + 1 + 1, 3, none⟩ (.slice B2 n2 d2)).setCell ⟨w.heap.size + 1 + 1, 4, none⟩ (.int .i64 h)).cell? ⟨w.heap.size + 1, 3, none⟩ = some (.slice none 0 0) := by
    rw [World.cell?_setCell_other _ _ _ _ (by simp), World.cell?_setCell_other _ _ _ _ (by simp), hc2 _ _ (by first | (simp; done) | (simp; omega)), World.cell?_setCell_other _ _ _ _ (by simp), hc1 _ _ (by simp)]
    go_simp
  have g4 : ((w2.setCell ⟨w.heap.size + 1 + 1, 3, none⟩ (.slice B2 n2 d2)).setCell ⟨w.heap.size + 1 + 1, 4, none⟩ (.int .i64 h)).cell? ⟨w.heap.size + 1, 4, none⟩ = some (.int .i64 0) := by
    rw [World.cell?_setCell_other _ _ _ _ (by simp), World.cell?_setCell_other _ _ _ _ (by simp), hc2 _ _ (by first | (simp; done) | (simp; omega)), World.cell?_setCell_other _ _ _ _ (by simp), hc1 _ _ (by simp)]
    go_simp
  obtain ⟨r0, r1, r2, r3, r4⟩ := five_cells g0 g1 g2 g3 g4
  clear g0 g1 g2 g3 g4
  refine bodyPost_ret (v := .agg #[.int .i64 p, .int .i64 s, .slice B1 n1 d1, .slice B2 n2 d2, .int .i64 h]) (by simp [results, Tryd.results6, go_sem, r0, r1, r2, r3, r4]) rfl ⟨B1, d1, B2, d2, rfl, ?_, ?_, ?_⟩
  · exact ((((((((o1.out.set _ _ (by simp)).set _ _ (by simp)).set _ _ (by simp)).set _ _ (by simp)).set _ _ (by simp)).set _ _ (by simp)).set _ _ (by simp))).more (by omega)
  · exact ((((((((o2.out.set _ _ (by simp)).set _ _ (by simp)).set _ _ (by simp)).set _ _ (by simp)).set _ _ (by simp)).set _ _ (by simp)).set _ _ (by simp))).more (by omega)
  · exact ((((((hB2.setCell (by simp; omega) _).setCell (by simp; omega) _).setCell (by simp) _).setCell (by simp) _).setCell (by simp) _).setCell (by simp) _).setCell (by simp) _
end Go.Proofs.YtkimbgehnhcmaaaDoor
