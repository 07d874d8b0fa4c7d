/- A cache that comes in: its five cells, the law's measure of it, its copy and the comparison; for lists of at most 2^20 numbers. -/
import Derived.Test.YtkimbgehnhcmaaaDoorInts
import Derived.Lib.SmallJoins
import Derived.Deep.RegionHeld3
namespace Go.Proofs.YtkimbgehnhcmaaaDoor
open Go.RowKit Go.ChangeShapes Go.WideShapes Go.ChangeAt

section
open Go.Joins Go.Deep
variable {H : Type} {enc : TypeId × Value → H} {P : Program} {w : World} {base : Nat} {spare : Nat → Bool} {held : Bool}
theorem open_agg5 {r : Reach} {b0 : Nat} {t : TypeId} {f0 f1 f2 f3 f4 : Field} {v : Value} {d : DataW H} {p : List MemPlace} (hs : P.underlying t = some (.struct #[f0, f1, f2, f3, f4])) (hone : oneCellFields P #[f0, f1, f2, f3, f4] = true) (hC : P.cellsOf t = 5)
    (hv : Value.okWide P w r b0 t v) (h : DataW.Trod enc P w base spare held t v d p) :
    ∃ (v0 v1 v2 v3 v4 : Value) (y0 y1 y2 y3 y4 : DataW H × List MemPlace) (n : Nat), v = .agg #[v0, v1, v2, v3, v4] ∧
      DataW.trod enc P w base spare held n f0.type [v0] = some y0 ∧ DataW.trod enc P w base spare held n f1.type [v1] = some y1 ∧ DataW.trod enc P w base spare held n f2.type [v2] = some y2 ∧ DataW.trod enc P w base spare held n f3.type [v3] = some y3 ∧ DataW.trod enc P w base spare held n f4.type [v4] = some y4 := by
  obtain ⟨cs, rfl, hsz⟩ := okWide_struct hs hv
  obtain ⟨l⟩ := cs
  match l, hsz.trans hC with
  | [c0, c1, c2, c3, c4], _ =>
    obtain ⟨fuel, hf⟩ := h
    obtain ⟨xs, n, _, hx, _, hlen, hg⟩ := DataW.trod_struct hs hf
    obtain ⟨o0, k0⟩ := hone_of hone 0 f0 rfl
    obtain ⟨o1, k1⟩ := hone_of hone 1 f1 rfl
    obtain ⟨o2, k2⟩ := hone_of hone 2 f2 rfl
    obtain ⟨o3, k3⟩ := hone_of hone 3 f3 rfl
    obtain ⟨o4, k4⟩ := hone_of hone 4 f4 rfl
    match xs, hlen with
    | [y0, y1, y2, y3, y4], _ =>
      exact ⟨c0, c1, c2, c3, c4, y0, y1, y2, y3, y4, n, rfl, by simpa [Value.cells, o0, k0] using hg 0 f0 rfl, by simpa [Value.cells, o1, k1] using hg 1 f1 rfl, by simpa [Value.cells, o2, k2] using hg 2 f2 rfl, by simpa [Value.cells, o3, k3] using hg 3 f3 rfl, by simpa [Value.cells, o4, k4] using hg 4 f4 rfl⟩
end

/-- One slice of numbers among a struct's fields. -/
theorem row_of_trod {H : Type} {enc : TypeId × Value → H} {W : World} {base : Nat} {spare : Nat → Bool} {held : Bool} {v : Value} {fuel : Nat} {y : DataW H × List MemPlace}
    (h : DataW.trod enc Tryd.prog W base spare held fuel 22 [v] = some y) : ∃ A n c xs, v = .slice A n c ∧ InI W A n c xs := by
  rcases open_ints Tryd.underlying22 Tryd.underlying3 (by kernel_rfl) h with ⟨hcs, _⟩ | ⟨x, l, c', zs, hcs, _⟩
  · obtain rfl : v = .slice none 0 0 := by simpa using hcs
    exact ⟨none, 0, 0, [], rfl, RdI.nil _ _, Nat.le_refl _, Nat.zero_le _, fun x hx => by cases hx⟩
  · obtain rfl : v = .slice (some x) l c' := by simpa using hcs
    obtain ⟨xs, hi⟩ := row_of_ints (d := y.1) (p := y.2) ⟨fuel, h⟩
    exact ⟨_, _, _, xs, rfl, hi⟩

/-- A cache's fields. -/
structure CV where
  p : Int
  s : Int
  A1 : Option Addr
  n1 : Nat
  c1 : Nat
  xs : List Int
  A2 : Option Addr
  n2 : Nat
  c2 : Nat
  ys : List Int
  h : Int
def CV.val (c : CV) : Value := .agg #[.int .i64 c.p, .int .i64 c.s, .slice c.A1 c.n1 c.c1, .slice c.A2 c.n2 c.c2, .int .i64 c.h]
def CV.In (c : CV) (w : World) : Prop := InI w c.A1 c.n1 c.c1 c.xs ∧ InI w c.A2 c.n2 c.c2 c.ys ∧ (-9223372036854775808 ≤ c.s ∧ c.s ≤ 9223372036854775807)
set_option maxRecDepth 100000 in
theorem cache_of {H : Type} {enc : TypeId × Value → H} {W : World} {base b0 : Nat} {spare : Nat → Bool} {held : Bool} {r : Reach} {v : Value} {d : DataW H} {p : List MemPlace}
    (hv : Value.okWide Tryd.prog W r b0 24 v) (h : DataW.Trod enc Tryd.prog W base spare held 24 v d p) : ∃ c : CV, v = c.val ∧ c.In W := by
  obtain ⟨v0, v1, v2, v3, v4, y0, y1, y2, y3, y4, m, rfl, h0, h1, h2, h3, h4⟩ := open_agg5 Tryd.underlying24 (by kernel_rfl) (by kernel_rfl) hv h
  obtain ⟨a, e0, _, _⟩ := DataW.trod_int Tryd.underlying3 h0
  obtain ⟨b, e1, _, wb⟩ := DataW.trod_int Tryd.underlying3 h1
  obtain ⟨g, e4, _, _⟩ := DataW.trod_int Tryd.underlying3 h4
  simp at e0 e1 e4
  subst e0 e1 e4
  obtain ⟨A1, n1, c1, xs, rfl, i1⟩ := row_of_trod h2
  obtain ⟨A2, n2, c2, ys, rfl, i2⟩ := row_of_trod h3
  exact ⟨⟨a, b, A1, n1, c1, xs, A2, n2, c2, ys, g⟩, rfl, i1, i2, bounds_i64 wb⟩

/-- The five cells of a block. -/
def Five (w : World) (b : Nat) (v0 v1 v2 v3 v4 : Value) : Prop :=
  b < w.heap.size ∧ w.cell? ⟨b, 0, none⟩ = some v0 ∧ w.cell? ⟨b, 1, none⟩ = some v1 ∧ w.cell? ⟨b, 2, none⟩ = some v2 ∧ w.cell? ⟨b, 3, none⟩ = some v3 ∧ w.cell? ⟨b, 4, none⟩ = some v4
theorem Five.on {w w' : World} {b : Nat} {v0 v1 v2 v3 v4 : Value} (h : Five w b v0 v1 v2 v3 v4) (hb : Below w.heap.size w w') : Five w' b v0 v1 v2 v3 v4 := by
  obtain ⟨h0, h1, h2, h3, h4, h5⟩ := h
  exact ⟨Nat.lt_of_lt_of_le h0 hb.size, (hb.cell (p := ⟨b, 0, none⟩) h0).trans h1, (hb.cell (p := ⟨b, 1, none⟩) h0).trans h2, (hb.cell (p := ⟨b, 2, none⟩) h0).trans h3, (hb.cell (p := ⟨b, 3, none⟩) h0).trans h4, (hb.cell (p := ⟨b, 4, none⟩) h0).trans h5⟩
theorem Five.new (w : World) (T : TypeId) (v0 v1 v2 v3 v4 : Value) : Five (w.alloc (.cells #[v0, v1, v2, v3, v4] T)) w.heap.size v0 v1 v2 v3 v4 := by
  refine ⟨by simp, ?_, ?_, ?_, ?_, ?_⟩ <;> go_simp

theorem szIntS_yes (A : Option Addr) (n c L : Nat) (w : World) (h : n ≤ L) (hL : L ≤ 1048576) :
    Calls Tryd.prog 9 #[.slice A n c, .int .i64 L] w fun e w' => e = .returned (.int .i64 ((L : Int) - n)) ∧ w = w' := by
  go_enter Tryd.func9, Tryd.ntmps9
  go_wp2
  go_ret
  exact ⟨rfl, rfl⟩
theorem szIntS_no (A : Option Addr) (n c L : Nat) (w : World) (h : ¬ n ≤ L) (hL : L ≤ 1048576) (hn : n ≤ maxLen) :
    Calls Tryd.prog 9 #[.slice A n c, .int .i64 L] w fun e w' => e = .returned (.int .i64 (-1)) ∧ w = w' := by
  unfold maxLen at hn
  go_enter Tryd.func9, Tryd.ntmps9
  go_wp2
  go_ret
  exact ⟨rfl, rfl⟩
/-- What is left of L, or -1. -/
def szC (n1 n2 L : Nat) : Int := if n1 + n2 ≤ L then ((L - n1 - n2 : Nat) : Int) else -1
set_option maxHeartbeats 800000 in
theorem szCache_any (p s h : Int) (A1 : Option Addr) (n1 c1 : Nat) (A2 : Option Addr) (n2 c2 L : Nat) (w : World) (hL : L ≤ 1048576) (hn1 : n1 ≤ maxLen) (hn2 : n2 ≤ maxLen) :
    Calls Tryd.prog 4 #[.agg #[.int .i64 p, .int .i64 s, .slice A1 n1 c1, .slice A2 n2 c2, .int .i64 h], .int .i64 L] w fun e w' => e = .returned (.int .i64 (szC n1 n2 L)) ∧ Below w.heap.size w w' := by
  by_cases h1 : n1 ≤ L
  · have k1 := fun w => szIntS_yes A1 n1 c1 L w h1 hL
    have e1 : (L : Int) - n1 = ((L - n1 : Nat) : Int) := by omega
    rw [e1] at k1
    by_cases h2 : n2 ≤ L - n1
    · have k2 := fun w => szIntS_yes A2 n2 c2 (L - n1) w h2 (by omega)
      have HV : Hid (szC n1 n2 L = ((L - n1 : Nat) : Int) - n2) := by unfold Hid szC; rw [if_pos (by omega)]; omega
      clear e1
      generalize L - n1 = M at k1 k2 HV h2
      go_enter Tryd.func4, Tryd.ntmps4
      go_wp2_with fail
      refine (k1 _).mono ?_
      rintro e w1 ⟨rfl, rfl⟩
      go_wp2_with fail
      refine (k2 _).mono ?_
      rintro e w1 ⟨rfl, rfl⟩
      go_wp2
      go_ret
      exact ⟨ret_int HV.out.symm, (by repeat (first | exact Below.refl _ _ | (refine below_drewN ?_ _) | (refine Below.drew ?_) | (refine Below.alloc ?_ (by first | exact Nat.le_refl _ | (simp; done) | (simp; omega) | omega) _) | (refine Below.setCell ?_ (by first | exact Nat.le_refl _ | (simp; done) | (simp; omega) | omega) _) | (refine Below.trans ?_ (Below.mono (by assumption) (by first | exact Nat.le_refl _ | (simp; done) | (simp; omega) | omega)))))⟩
    · have k2 := fun w => szIntS_no A2 n2 c2 (L - n1) w h2 (by omega) hn2
      have HV : Hid (szC n1 n2 L = -1) := by unfold Hid szC; rw [if_neg (by omega)]
      clear e1
      generalize L - n1 = M at k1 k2 HV h2
      go_enter Tryd.func4, Tryd.ntmps4
      go_wp2_with fail
      refine (k1 _).mono ?_
      rintro e w1 ⟨rfl, rfl⟩
      go_wp2_with fail
      refine (k2 _).mono ?_
      rintro e w1 ⟨rfl, rfl⟩
      go_wp2
      go_ret
      exact ⟨ret_int HV.out.symm, (by repeat (first | exact Below.refl _ _ | (refine below_drewN ?_ _) | (refine Below.drew ?_) | (refine Below.alloc ?_ (by first | exact Nat.le_refl _ | (simp; done) | (simp; omega) | omega) _) | (refine Below.setCell ?_ (by first | exact Nat.le_refl _ | (simp; done) | (simp; omega) | omega) _) | (refine Below.trans ?_ (Below.mono (by assumption) (by first | exact Nat.le_refl _ | (simp; done) | (simp; omega) | omega)))))⟩
  · have k1 := fun w => szIntS_no A1 n1 c1 L w h1 hL hn1
    have HV : Hid (szC n1 n2 L = -1) := by unfold Hid szC; rw [if_neg (by omega)]
    go_enter Tryd.func4, Tryd.ntmps4
    go_wp2_with fail
    refine (k1 _).mono ?_
    rintro e w1 ⟨rfl, rfl⟩
    go_wp2
    go_ret
    exact ⟨ret_int HV.out.symm, (by repeat (first | exact Below.refl _ _ | (refine below_drewN ?_ _) | (refine Below.drew ?_) | (refine Below.alloc ?_ (by first | exact Nat.le_refl _ | (simp; done) | (simp; omega) | omega) _) | (refine Below.setCell ?_ (by first | exact Nat.le_refl _ | (simp; done) | (simp; omega) | omega) _) | (refine Below.trans ?_ (Below.mono (by assumption) (by first | exact Nat.le_refl _ | (simp; done) | (simp; omega) | omega)))))⟩

set_option maxHeartbeats 1600000 in
theorem eqCache_same (p s h : Int) (A1 : Option Addr) (n1 c1 : Nat) (A2 : Option Addr) (n2 c2 : Nat) (xs ys : List Int) (B1 : Option Addr) (d1 : Nat) (B2 : Option Addr) (d2 : Nat) (w : World)
    (a1 : RdI w A1 n1 xs) (a2 : RdI w A2 n2 ys) (b1 : RdI w B1 n1 xs) (b2 : RdI w B2 n2 ys) (hn1 : n1 ≤ 1048576) (hn2 : n2 ≤ 1048576) :
    Calls Tryd.prog 8 #[.agg #[.int .i64 p, .int .i64 s, .slice A1 n1 c1, .slice A2 n2 c2, .int .i64 h], .agg #[.int .i64 p, .int .i64 s, .slice B1 n1 d1, .slice B2 n2 d2, .int .i64 h]] w fun e w' => e = .returned (.bool true) ∧ Below w.heap.size w w' := by
  have hp : (p != p) = false := by simp
  have hs : (s != s) = false := by simp
  have hh : (h != h) = false := by simp
  replace a1 := hide a1
  replace a2 := hide a2
  replace b1 := hide b1
  replace b2 := hide b2
  go_enter Tryd.func8, Tryd.ntmps8
  go_wp2_with fail
  refine (eqIntS_same _ _ _ _ _ xs _ (a1.out.below (by repeat (first | exact Below.refl _ _ | (refine below_drewN ?_ _) | (refine Below.drew ?_) | (refine Below.alloc ?_ (by first | exact Nat.le_refl _ | (simp; done) | (simp; omega) | omega) _) | (refine Below.setCell ?_ (by first | exact Nat.le_refl _ | (simp; done) | (simp; omega) | omega) _) | (refine Below.trans ?_ (Below.mono (by assumption) (by first | exact Nat.le_refl _ | (simp; done) | (simp; omega) | omega)))))) (b1.out.below (by repeat (first | exact Below.refl _ _ | (refine below_drewN ?_ _) | (refine Below.drew ?_) | (refine Below.alloc ?_ (by first | exact Nat.le_refl _ | (simp; done) | (simp; omega) | omega) _) | (refine Below.setCell ?_ (by first | exact Nat.le_refl _ | (simp; done) | (simp; omega) | omega) _) | (refine Below.trans ?_ (Below.mono (by assumption) (by first | exact Nat.le_refl _ | (simp; done) | (simp; omega) | omega)))))) (by omega)).mono ?_
  rintro e w1 ⟨rfl, m1, rfl⟩
  go_wp2_with fail
  refine (eqIntS_same _ _ _ _ _ ys _ (a2.out.below (by repeat (first | exact Below.refl _ _ | (refine below_drewN ?_ _) | (refine Below.drew ?_) | (refine Below.alloc ?_ (by first | exact Nat.le_refl _ | (simp; done) | (simp; omega) | omega) _) | (refine Below.setCell ?_ (by first | exact Nat.le_refl _ | (simp; done) | (simp; omega) | omega) _) | (refine Below.trans ?_ (Below.mono (by assumption) (by first | exact Nat.le_refl _ | (simp; done) | (simp; omega) | omega)))))) (b2.out.below (by repeat (first | exact Below.refl _ _ | (refine below_drewN ?_ _) | (refine Below.drew ?_) | (refine Below.alloc ?_ (by first | exact Nat.le_refl _ | (simp; done) | (simp; omega) | omega) _) | (refine Below.setCell ?_ (by first | exact Nat.le_refl _ | (simp; done) | (simp; omega) | omega) _) | (refine Below.trans ?_ (Below.mono (by assumption) (by first | exact Nat.le_refl _ | (simp; done) | (simp; omega) | omega)))))) (by omega)).mono ?_
  rintro e w1 ⟨rfl, m2, rfl⟩
  go_wp2
  go_ret
  exact ⟨rfl, (by repeat (first | exact Below.refl _ _ | (refine below_drewN ?_ _) | (refine Below.drew ?_) | (refine Below.alloc ?_ (by first | exact Nat.le_refl _ | (simp; done) | (simp; omega) | omega) _) | (refine Below.setCell ?_ (by first | exact Nat.le_refl _ | (simp; done) | (simp; omega) | omega) _) | (refine Below.trans ?_ (Below.mono (by assumption) (by first | exact Nat.le_refl _ | (simp; done) | (simp; omega) | omega)))))⟩
end Go.Proofs.YtkimbgehnhcmaaaDoor
