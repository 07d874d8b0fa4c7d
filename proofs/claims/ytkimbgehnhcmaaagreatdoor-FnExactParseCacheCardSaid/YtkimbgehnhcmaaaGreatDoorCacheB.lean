/- The law's copy of a cache: two lists of its own; for lists of at most 2^20 numbers. -/
import Derived.Test.YtkimbgehnhcmaaaGreatDoorCacheA
namespace Go.Proofs.YtkimbgehnhcmaaaGreatDoor
open Go.RowKit

theorem five_cells {w : World} {b : Nat} {x0 x1 x2 x3 x4 : Value} (h0 : w.cell? ⟨b, 0, none⟩ = some x0) (h1 : w.cell? ⟨b, 1, none⟩ = some x1) (h2 : w.cell? ⟨b, 2, none⟩ = some x2) (h3 : w.cell? ⟨b, 3, none⟩ = some x3) (h4 : w.cell? ⟨b, 4, none⟩ = some x4) :
    (∀ u0 : Value, (w.setCell ⟨b, 0, none⟩ u0).cell? ⟨b, 0, none⟩ = some u0) ∧ (∀ u0 u1 : Value, ((w.setCell ⟨b, 0, none⟩ u0).setCell ⟨b, 1, none⟩ u1).cell? ⟨b, 1, none⟩ = some u1) ∧ (∀ u0 u1 u2 : Value, (((w.setCell ⟨b, 0, none⟩ u0).setCell ⟨b, 1, none⟩ u1).setCell ⟨b, 2, none⟩ u2).cell? ⟨b, 2, none⟩ = some u2) ∧ (∀ u0 u1 u2 u3 : Value, ((((w.setCell ⟨b, 0, none⟩ u0).setCell ⟨b, 1, none⟩ u1).setCell ⟨b, 2, none⟩ u2).setCell ⟨b, 3, none⟩ u3).cell? ⟨b, 3, none⟩ = some u3) ∧ (∀ u0 u1 u2 u3 u4 : Value, (((((w.setCell ⟨b, 0, none⟩ u0).setCell ⟨b, 1, none⟩ u1).setCell ⟨b, 2, none⟩ u2).setCell ⟨b, 3, none⟩ u3).setCell ⟨b, 4, none⟩ u4).cell? ⟨b, 4, none⟩ = some u4) :=
  ⟨fun u0 => World.cell?_setCell_same _ _ _ h0, fun u0 u1 => World.cell?_setCell_same _ _ _ ((World.cell?_setCell_other _ _ _ _ (by simp)).trans h1), fun u0 u1 u2 => World.cell?_setCell_same _ _ _ ((World.cell?_setCell_other _ _ _ _ (by simp)).trans ((World.cell?_setCell_other _ _ _ _ (by simp)).trans h2)), fun u0 u1 u2 u3 => World.cell?_setCell_same _ _ _ ((World.cell?_setCell_other _ _ _ _ (by simp)).trans ((World.cell?_setCell_other _ _ _ _ (by simp)).trans ((World.cell?_setCell_other _ _ _ _ (by simp)).trans h3))), fun u0 u1 u2 u3 u4 => World.cell?_setCell_same _ _ _ ((World.cell?_setCell_other _ _ _ _ (by simp)).trans ((World.cell?_setCell_other _ _ _ _ (by simp)).trans ((World.cell?_setCell_other _ _ _ _ (by simp)).trans ((World.cell?_setCell_other _ _ _ _ (by simp)).trans h4))))⟩
/-- A row from base on stands where a cell ahead of base is written. -/
theorem OwnI.set {w : World} {base : Nat} {A : Option Addr} {n c : Nat} {xs : List Int} (h : OwnI w base A n c xs) (p : Addr) (v : Value) (hp : p.block < base) : OwnI (w.setCell p v) base A n c xs := by
  obtain ⟨h1, h2⟩ := h
  refine ⟨h1, ?_⟩
  rcases h2 with h2 | ⟨g, cap, cur, hv, hg, hh, r⟩
  · exact Or.inl h2
  · exact Or.inr ⟨g, cap, cur, hv, hg, by rw [Below.heap_setCell w p v g (by omega)]; exact hh, r⟩
def RetCopy (p s h : Int) (n1 n2 : Nat) (xs ys : List Int) (w : World) (e : Ending) (w' : World) : Prop :=
  ∃ B1 d1 B2 d2, e = .returned (.agg #[.int .i64 p, .int .i64 s, .slice B1 n1 d1, .slice B2 n2 d2, .int .i64 h]) ∧ OwnI w' w.heap.size B1 n1 d1 xs ∧ OwnI w' w.heap.size B2 n2 d2 ys ∧ Below w.heap.size w w'

end Go.Proofs.YtkimbgehnhcmaaaGreatDoor
