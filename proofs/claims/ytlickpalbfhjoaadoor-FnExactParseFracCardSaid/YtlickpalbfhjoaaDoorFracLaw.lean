/- How a fraction that comes in is opened, the law's copy of it, and the reference's test of it; no conditions. -/
import Derived.Test.YtlickpalbfhjoaaDoorFrac
import Derived.ShutString
import Derived.ChangeOld
import Derived.Lib.SmallJoins
namespace Go.Proofs.YtlickpalbfhjoaaDoor
open Go.ChangeShapes Go.WideShapes Go.ChangeAt Go.RowKit

set_option maxRecDepth 100000 in
/-- A fraction that comes in is two numbers of 64 bits. -/
theorem frac_of {H : Type} {enc : TypeId × Value → H} {W : World} {base b0 : Nat} {spare : Nat → Bool} {held : Bool} {r : Reach} {v : Value} {d : DataW H} {p : List MemPlace}
    (hv : Value.okWide Tryd.prog W r b0 26 v) (h : DataW.Trod enc Tryd.prog W base spare held 26 v d p) :
    ∃ a b : Int, v = .agg #[.int .i64 a, .int .i64 b] ∧ (Lit.int .i64 a).wf = true ∧ (Lit.int .i64 b).wf = true := by
  obtain ⟨c0, c1, y0, y1, m, rfl, rfl, rfl, hy0, hy1⟩ := Joins.open_agg2 Tryd.underlying26 (by kernel_rfl) (by kernel_rfl) hv h
  obtain ⟨a, e0, rfl, wa⟩ := DataW.trod_int Tryd.underlying3 hy0
  obtain ⟨b, e1, rfl, wb⟩ := DataW.trod_int Tryd.underlying3 hy1
  simp at e0 e1
  subst e0 e1
  exact ⟨a, b, rfl, wa, wb⟩

theorem toFrac_any (a b : Int) (w : World) :
    Calls Tryd.prog 16 #[.agg #[.int .i64 a, .int .i64 b]] w fun e w' => e = .returned (.agg #[.int .i64 a, .int .i64 b]) ∧ Below w.heap.size w w' := by
  go_enter Tryd.func16, Tryd.ntmps16
  go_wp2
  refine bodyPost_ret (v := .agg #[.int .i64 a, .int .i64 b]) (by simp [results, Tryd.results16, go_sem]) rfl ⟨rfl, (by repeat (first | exact Below.refl _ _ | (refine below_drewN ?_ _) | (refine Below.drew ?_) | (refine Below.alloc ?_ (by first | exact Nat.le_refl _ | (simp; done) | (simp; omega) | omega) _) | (refine Below.setCell ?_ (by first | exact Nat.le_refl _ | (simp; done) | (simp; omega) | omega) _) | (refine Below.trans ?_ (Below.mono (by assumption) (by first | exact Nat.le_refl _ | (simp; done) | (simp; omega) | omega)))))⟩


/-- A result of two cells, stored and read back. -/
theorem two_cells {w : World} {b : Nat} {x y : Value} (h0 : w.cell? ⟨b, 0, none⟩ = some x) (h1 : w.cell? ⟨b, 1, none⟩ = some y) :
    (∀ u, (w.setCell ⟨b, 0, none⟩ u).cell? ⟨b, 0, none⟩ = some u) ∧ (∀ u v, ((w.setCell ⟨b, 0, none⟩ u).setCell ⟨b, 1, none⟩ v).cell? ⟨b, 1, none⟩ = some v) :=
  ⟨fun u => World.cell?_setCell_same _ _ _ h0, fun u v => World.cell?_setCell_same _ _ _ ((World.cell?_setCell_other _ _ _ _ (by simp)).trans h1)⟩

theorem eqFrac_same (a b : Int) (w : World) :
    Calls Tryd.prog 30 #[.agg #[.int .i64 a, .int .i64 b], .agg #[.int .i64 a, .int .i64 b]] w fun e w' => e = .returned (.bool true) ∧ Below w.heap.size w w' := by
  go_enter Tryd.func30, Tryd.ntmps30
  go_wp2
  go_ret
  exact ⟨rfl, (by repeat (first | exact Below.refl _ _ | (refine below_drewN ?_ _) | (refine Below.drew ?_) | (refine Below.alloc ?_ (by first | exact Nat.le_refl _ | (simp; done) | (simp; omega) | omega) _) | (refine Below.setCell ?_ (by first | exact Nat.le_refl _ | (simp; done) | (simp; omega) | omega) _) | (refine Below.trans ?_ (Below.mono (by assumption) (by first | exact Nat.le_refl _ | (simp; done) | (simp; omega) | omega)))))⟩

/-- A block of two cells that can be written: where it lies, and what it holds. -/
def Two (w : World) (n : Nat) (x y : Value) : Prop := w.cell? ⟨n, 0, none⟩ = some x ∧ w.cell? ⟨n, 1, none⟩ = some y ∧ w.frozen? ⟨n, 0, none⟩ = false ∧ w.frozen? ⟨n, 1, none⟩ = false ∧ n < w.heap.size
theorem two_new {W w2 : World} {x y : Value} {T : TypeId} (hb : Below (W.alloc (.cells #[x, y] T)).heap.size (W.alloc (.cells #[x, y] T)) w2) :
    w2.cell? ⟨W.heap.size, 0, none⟩ = some x ∧ w2.cell? ⟨W.heap.size, 1, none⟩ = some y ∧ w2.frozen? ⟨W.heap.size, 0, none⟩ = false ∧ w2.frozen? ⟨W.heap.size, 1, none⟩ = false ∧ W.heap.size < w2.heap.size := by
  have hz := hb.size
  simp at hz
  obtain ⟨hc, hf⟩ := bcell hb
  refine ⟨?_, ?_, ?_, ?_, by omega⟩
  · rw [hc _ _ (by simp)]; go_simp
  · rw [hc _ _ (by simp)]; go_simp
  · rw [hf _ _ (by simp)]; go_simp
  · rw [hf _ _ (by simp)]; go_simp
theorem two_newd {W w2 : World} {x y : Value} {T : TypeId} (hb : Below (W.drew.alloc (.cells #[x, y] T)).heap.size (W.drew.alloc (.cells #[x, y] T)) w2) :
    w2.cell? ⟨W.heap.size, 0, none⟩ = some x ∧ w2.cell? ⟨W.heap.size, 1, none⟩ = some y ∧ w2.frozen? ⟨W.heap.size, 0, none⟩ = false ∧ w2.frozen? ⟨W.heap.size, 1, none⟩ = false ∧ W.heap.size < w2.heap.size := two_new (W := W.drew) hb
theorem two_on {w1 w2 : World} {n : Nat} {x y : Value} (h : w1.cell? ⟨n, 0, none⟩ = some x ∧ w1.cell? ⟨n, 1, none⟩ = some y ∧ w1.frozen? ⟨n, 0, none⟩ = false ∧ w1.frozen? ⟨n, 1, none⟩ = false ∧ n < w1.heap.size) (hb : Below w1.heap.size w1 w2) :
    w2.cell? ⟨n, 0, none⟩ = some x ∧ w2.cell? ⟨n, 1, none⟩ = some y ∧ w2.frozen? ⟨n, 0, none⟩ = false ∧ w2.frozen? ⟨n, 1, none⟩ = false ∧ n < w2.heap.size := by
  obtain ⟨h0, h1, h2, h3, h4⟩ := h
  obtain ⟨hc, hf⟩ := bcell hb
  exact ⟨(hc _ _ h4).trans h0, (hc _ _ h4).trans h1, (hf _ _ h4).trans h2, (hf _ _ h4).trans h3, Nat.lt_of_lt_of_le h4 hb.size⟩

/-- A pointer to a fraction in a block from B on; below B the world is as W0. -/
def FracAt (B : Nat) (W0 wr : World) (s : Value) (x y : Int) : Prop :=
  ∃ n, s = .pointer (some ⟨n, 0, none⟩) ∧ B ≤ n ∧ n < wr.heap.size ∧ wr.cell? ⟨n, 0, none⟩ = some (.int .i64 x) ∧ wr.cell? ⟨n, 1, none⟩ = some (.int .i64 y) ∧ Kept B W0 wr
theorem fracAt_alloc {B : Nat} {W0 w1 : World} {x y : Int} {T : TypeId} (h : Kept B W0 w1) : FracAt B W0 (w1.alloc (.cells #[.int .i64 x, .int .i64 y] T)) (.pointer (some ⟨w1.heap.size, 0, none⟩)) x y :=
  ⟨_, rfl, h.size, by simp, by go_simp, by go_simp, h.alloc _⟩
theorem fracAt_store {B : Nat} {W0 w1 : World} {n : Nat} {u v : Value} {x y : Int} (h : w1.cell? ⟨n, 0, none⟩ = some u ∧ w1.cell? ⟨n, 1, none⟩ = some v ∧ w1.frozen? ⟨n, 0, none⟩ = false ∧ w1.frozen? ⟨n, 1, none⟩ = false ∧ n < w1.heap.size)
    (hk : Kept B W0 w1) (hn : B ≤ n) : FracAt B W0 ((w1.setCell ⟨n, 0, none⟩ (.int .i64 x)).setCell ⟨n, 1, none⟩ (.int .i64 y)) (.pointer (some ⟨n, 0, none⟩)) x y := by
  obtain ⟨r0, r1⟩ := two_cells h.1 h.2.1
  refine ⟨n, rfl, hn, by simpa [World.setCell] using h.2.2.2.2, ?_, r1 _ _, (hk.setCell hn _).setCell hn _⟩
  rw [World.cell?_setCell_other _ _ _ _ (by simp)]
  exact r0 _
theorem frac_bd {a b : Int} (h : fracB a b = true) : 1 ≤ b ∧ b ≤ 100000 ∧ -100000000 ≤ a ∧ a ≤ 100000000 := by
  unfold fracB at h
  simp at h
  omega
end Go.Proofs.YtlickpalbfhjoaaDoor
