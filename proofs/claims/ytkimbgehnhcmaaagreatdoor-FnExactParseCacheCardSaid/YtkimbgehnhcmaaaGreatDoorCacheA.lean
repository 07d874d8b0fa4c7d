/- A cache that comes in: its five cells, the law's measure of it, its copy and the comparison; for lists of at most 2^20 numbers. -/
import Derived.Test.YtkimbgehnhcmaaaGreatDoorInts
import Derived.Lib.SmallJoins
import Derived.Deep.RegionHeld3
namespace Go.Proofs.YtkimbgehnhcmaaaGreatDoor
open Go.RowKit Go.ChangeShapes Go.WideShapes Go.ChangeAt

section
open Go.Joins Go.Deep
variable {H : Type} {enc : TypeId × Value → H} {P : Program} {w : World} {base : Nat} {spare : Nat → Bool} {held : Bool}
theorem open_agg5 {r : Reach} {b0 : Nat} {t : TypeId} {f0 f1 f2 f3 f4 : Field} {v : Value} {d : DataW H} {p : List MemPlace} (hs : P.underlying t = some (.struct #[f0, f1, f2, f3, f4])) (hone : oneCellFields P #[f0, f1, f2, f3, f4] = true) (hC : P.cellsOf t = 5)
    (hv : Value.okWide P w r b0 t v) (h : DataW.Trod enc P w base spare held t v d p) :
    ∃ (v0 v1 v2 v3 v4 : Value) (y0 y1 y2 y3 y4 : DataW H × List MemPlace) (n : Nat), v = .agg #[v0, v1, v2, v3, v4] ∧
      DataW.trod enc P w base spare held n f0.type [v0] = some y0 ∧ DataW.trod enc P w base spare held n f1.type [v1] = some y1 ∧ DataW.trod enc P w base spare held n f2.type [v2] = some y2 ∧ DataW.trod enc P w base spare held n f3.type [v3] = some y3 ∧ DataW.trod enc P w base spare held n f4.type [v4] = some y4 := by
  obtain ⟨cs, rfl, hsz⟩ := okWide_struct hs hv
  obtain ⟨l⟩ := cs
  match l, hsz.trans hC with
  | [c0, c1, c2, c3, c4], _ =>
    obtain ⟨fuel, hf⟩ := h
    obtain ⟨xs, n, _, hx, _, hlen, hg⟩ := DataW.trod_struct hs hf
    obtain ⟨o0, k0⟩ := hone_of hone 0 f0 rfl
    obtain ⟨o1, k1⟩ := hone_of hone 1 f1 rfl
    obtain ⟨o2, k2⟩ := hone_of hone 2 f2 rfl
    obtain ⟨o3, k3⟩ := hone_of hone 3 f3 rfl
    obtain ⟨o4, k4⟩ := hone_of hone 4 f4 rfl
    match xs, hlen with
    | [y0, y1, y2, y3, y4], _ =>
      exact ⟨c0, c1, c2, c3, c4, y0, y1, y2, y3, y4, n, rfl, by simpa [Value.cells, o0, k0] using hg 0 f0 rfl, by simpa [Value.cells, o1, k1] using hg 1 f1 rfl, by simpa [Value.cells, o2, k2] using hg 2 f2 rfl, by simpa [Value.cells, o3, k3] using hg 3 f3 rfl, by simpa [Value.cells, o4, k4] using hg 4 f4 rfl⟩
end

/-- One slice of numbers among a struct's fields. -/
theorem row_of_trod {H : Type} {enc : TypeId × Value → H} {W : World} {base : Nat} {spare : Nat → Bool} {held : Bool} {v : Value} {fuel : Nat} {y : DataW H × List MemPlace}
    (h : DataW.trod enc Tryz.prog W base spare held fuel 22 [v] = some y) : ∃ A n c xs, v = .slice A n c ∧ InI W A n c xs := by
  rcases open_ints Tryz.underlying22 Tryz.underlying3 (by kernel_rfl) h with ⟨hcs, _⟩ | ⟨x, l, c', zs, hcs, _⟩
  · obtain rfl : v = .slice none 0 0 := by simpa using hcs
    exact ⟨none, 0, 0, [], rfl, RdI.nil _ _, Nat.le_refl _, Nat.zero_le _, fun x hx => by cases hx⟩
  · obtain rfl : v = .slice (some x) l c' := by simpa using hcs
    obtain ⟨xs, hi⟩ := row_of_ints (d := y.1) (p := y.2) ⟨fuel, h⟩
    exact ⟨_, _, _, xs, rfl, hi⟩

/-- A cache's fields. -/
structure CV where
  p : Int
  s : Int
  A1 : Option Addr
  n1 : Nat
  c1 : Nat
  xs : List Int
  A2 : Option Addr
  n2 : Nat
  c2 : Nat
  ys : List Int
  h : Int
def CV.val (c : CV) : Value := .agg #[.int .i64 c.p, .int .i64 c.s, .slice c.A1 c.n1 c.c1, .slice c.A2 c.n2 c.c2, .int .i64 c.h]
def CV.In (c : CV) (w : World) : Prop := InI w c.A1 c.n1 c.c1 c.xs ∧ InI w c.A2 c.n2 c.c2 c.ys ∧ (-9223372036854775808 ≤ c.s ∧ c.s ≤ 9223372036854775807)
/-- The five cells of a block. -/
def Five (w : World) (b : Nat) (v0 v1 v2 v3 v4 : Value) : Prop :=
  b < w.heap.size ∧ w.cell? ⟨b, 0, none⟩ = some v0 ∧ w.cell? ⟨b, 1, none⟩ = some v1 ∧ w.cell? ⟨b, 2, none⟩ = some v2 ∧ w.cell? ⟨b, 3, none⟩ = some v3 ∧ w.cell? ⟨b, 4, none⟩ = some v4
theorem Five.on {w w' : World} {b : Nat} {v0 v1 v2 v3 v4 : Value} (h : Five w b v0 v1 v2 v3 v4) (hb : Below w.heap.size w w') : Five w' b v0 v1 v2 v3 v4 := by
  obtain ⟨h0, h1, h2, h3, h4, h5⟩ := h
  exact ⟨Nat.lt_of_lt_of_le h0 hb.size, (hb.cell (p := ⟨b, 0, none⟩) h0).trans h1, (hb.cell (p := ⟨b, 1, none⟩) h0).trans h2, (hb.cell (p := ⟨b, 2, none⟩) h0).trans h3, (hb.cell (p := ⟨b, 3, none⟩) h0).trans h4, (hb.cell (p := ⟨b, 4, none⟩) h0).trans h5⟩
theorem Five.new (w : World) (T : TypeId) (v0 v1 v2 v3 v4 : Value) : Five (w.alloc (.cells #[v0, v1, v2, v3, v4] T)) w.heap.size v0 v1 v2 v3 v4 := by
  refine ⟨by simp, ?_, ?_, ?_, ?_, ?_⟩ <;> go_simp

/-- What is left of L, or -1. -/
def szC (n1 n2 L : Nat) : Int := if n1 + n2 ≤ L then ((L - n1 - n2 : Nat) : Int) else -1
set_option maxHeartbeats 1600000 in
theorem eqCache_same (p s h : Int) (A1 : Option Addr) (n1 c1 : Nat) (A2 : Option Addr) (n2 c2 : Nat) (xs ys : List Int) (B1 : Option Addr) (d1 : Nat) (B2 : Option Addr) (d2 : Nat) (w : World)
    (a1 : RdI w A1 n1 xs) (a2 : RdI w A2 n2 ys) (b1 : RdI w B1 n1 xs) (b2 : RdI w B2 n2 ys) (hn1 : n1 ≤ 1048576) (hn2 : n2 ≤ 1048576) :
    Calls Tryz.prog 6 #[.agg #[.int .i64 p, .int .i64 s, .slice A1 n1 c1, .slice A2 n2 c2, .int .i64 h], .agg #[.int .i64 p, .int .i64 s, .slice B1 n1 d1, .slice B2 n2 d2, .int .i64 h]] w fun e w' => e = .returned (.bool true) ∧ Below w.heap.size w w' := by
  have hp : (p != p) = false := by simp
  have hs : (s != s) = false := by simp
  have hh : (h != h) = false := by simp
  replace a1 := hide a1
  replace a2 := hide a2
  replace b1 := hide b1
  replace b2 := hide b2
  go_enter Tryz.func6, Tryz.ntmps6
  go_wp2_with fail
  refine (eqIntS_same _ _ _ _ _ xs _ (a1.out.below (by repeat (first | exact Below.refl _ _ | (refine below_drewN ?_ _) | (refine Below.drew ?_) | (refine Below.alloc ?_ (by first | exact Nat.le_refl _ | (simp; done) | (simp; omega) | omega) _) | (refine Below.setCell ?_ (by first | exact Nat.le_refl _ | (simp; done) | (simp; omega) | omega) _) | (refine Below.trans ?_ (Below.mono (by assumption) (by first | exact Nat.le_refl _ | (simp; done) | (simp; omega) | omega)))))) (b1.out.below (by repeat (first | exact Below.refl _ _ | (refine below_drewN ?_ _) | (refine Below.drew ?_) | (refine Below.alloc ?_ (by first | exact Nat.le_refl _ | (simp; done) | (simp; omega) | omega) _) | (refine Below.setCell ?_ (by first | exact Nat.le_refl _ | (simp; done) | (simp; omega) | omega) _) | (refine Below.trans ?_ (Below.mono (by assumption) (by first | exact Nat.le_refl _ | (simp; done) | (simp; omega) | omega)))))) (by omega)).mono ?_
  rintro e w1 ⟨rfl, m1, rfl⟩
  go_wp2_with fail
  refine (eqIntS_same _ _ _ _ _ ys _ (a2.out.below (by repeat (first | exact Below.refl _ _ | (refine below_drewN ?_ _) | (refine Below.drew ?_) | (refine Below.alloc ?_ (by first | exact Nat.le_refl _ | (simp; done) | (simp; omega) | omega) _) | (refine Below.setCell ?_ (by first | exact Nat.le_refl _ | (simp; done) | (simp; omega) | omega) _) | (refine Below.trans ?_ (Below.mono (by assumption) (by first | exact Nat.le_refl _ | (simp; done) | (simp; omega) | omega)))))) (b2.out.below (by repeat (first | exact Below.refl _ _ | (refine below_drewN ?_ _) | (refine Below.drew ?_) | (refine Below.alloc ?_ (by first | exact Nat.le_refl _ | (simp; done) | (simp; omega) | omega) _) | (refine Below.setCell ?_ (by first | exact Nat.le_refl _ | (simp; done) | (simp; omega) | omega) _) | (refine Below.trans ?_ (Below.mono (by assumption) (by first | exact Nat.le_refl _ | (simp; done) | (simp; omega) | omega)))))) (by omega)).mono ?_
  rintro e w1 ⟨rfl, m2, rfl⟩
  go_wp2
  go_ret
  exact ⟨rfl, (by repeat (first | exact Below.refl _ _ | (refine below_drewN ?_ _) | (refine Below.drew ?_) | (refine Below.alloc ?_ (by first | exact Nat.le_refl _ | (simp; done) | (simp; omega) | omega) _) | (refine Below.setCell ?_ (by first | exact Nat.le_refl _ | (simp; done) | (simp; omega) | omega) _) | (refine Below.trans ?_ (Below.mono (by assumption) (by first | exact Nat.le_refl _ | (simp; done) | (simp; omega) | omega)))))⟩
end Go.Proofs.YtkimbgehnhcmaaaGreatDoor
