/- For every number of items, policy and size FnExactNewCache returns true, and nothing that was in memory changes; no conditions beyond what the given row says. -/
import Derived.Test.YtaoacpikmpoodaaBase
namespace Go.Proofs.Ytaoacpikmpoodaa.fnExactNewCache
open Go.ChangeShapes Go.WideShapes Go.ChangeAt Go.RowKit
open Go.ChangeMaps (open_string shut_string)
set_option linter.unusedVariables false

theorem eqIntS_none (A A' : Option Addr) (c c' : Nat) (w : World) :
    Calls Try.prog 17 #[.slice A 0 c, .slice A' 0 c'] w fun e w' => e = .returned (.bool true) ∧ w = w' := by
  go_enter Try.func17, Try.ntmps17
  go_wp2
  go_loop [5] (fun i => i = .int .i64 0) (fun _ => 0)
  case atStart => rfl
  case round =>
    obtain rfl := hrel
    go_wp2
    go_ret
    exact ⟨rfl, rfl⟩
theorem markIntS_none (A : Option Addr) (c : Nat) (k : Int) (w : World) :
    Calls Try.prog 18 #[.slice A 0 c, .int .i64 k] w fun e w' => e = .returned (.int .i64 k) ∧ w = w' := by
  go_enter Try.func18, Try.ntmps18
  go_wp2
  go_loop [1, 5] (fun q i => i = .int .i64 0 ∧ q = .int .i64 k) (fun _ _ => 0)
  case atStart => exact ⟨rfl, rfl⟩
  case round =>
    obtain ⟨rfl, rfl⟩ := hrel
    go_wp2
    go_ret
    exact ⟨rfl, rfl⟩
theorem heldIntS_none (A : Option Addr) (c : Nat) (k : Int) (w : World) :
    Calls Try.prog 19 #[.slice A 0 c, .int .i64 k] w fun e w' => e = .returned (.int .i64 k) ∧ w = w' := by
  go_enter Try.func19, Try.ntmps19
  go_wp2
  go_loop [1, 5] (fun q i => i = .int .i64 0 ∧ q = .int .i64 k) (fun _ _ => 0)
  case atStart => exact ⟨rfl, rfl⟩
  case round =>
    obtain ⟨rfl, rfl⟩ := hrel
    go_wp2
    go_ret
    exact ⟨rfl, rfl⟩
theorem eqCache_none (p s : Int) (A1 A2 A3 A4 : Option Addr) (c1 c2 c3 c4 : Nat) (w : World) :
    Calls Try.prog 24 #[.agg #[.int .i64 p, .int .i64 s, .slice A1 0 c1, .slice A2 0 c2, .int .i64 0], .agg #[.int .i64 p, .int .i64 s, .slice A3 0 c3, .slice A4 0 c4, .int .i64 0]] w fun e w' => e = .returned (.bool true) ∧ Below w.heap.size w w' := by
  have hp : (p != p) = false := by simp
  have hs : (s != s) = false := by simp
  go_enter Try.func24, Try.ntmps24
  go_wp2_with (go_at_call 17; refine (eqIntS_none _ _ _ _ _).mono ?_; rintro e w' ⟨rfl, rfl⟩)
  go_ret
  exact ⟨rfl, (by repeat (first | exact Below.refl _ _ | (refine below_drewN ?_ _) | (refine Below.drew ?_) | (refine Below.alloc ?_ (by first | exact Nat.le_refl _ | (simp; done) | (simp; omega) | omega) _) | (refine Below.setCell ?_ (by first | exact Nat.le_refl _ | (simp; done) | (simp; omega) | omega) _) | (refine Below.trans ?_ (Below.mono (by assumption) (by first | exact Nat.le_refl _ | (simp; done) | (simp; omega) | omega)))))⟩
theorem markCache_none (p s k : Int) (A1 A2 : Option Addr) (c1 c2 : Nat) (w : World) :
    Calls Try.prog 25 #[.agg #[.int .i64 p, .int .i64 s, .slice A1 0 c1, .slice A2 0 c2, .int .i64 0], .int .i64 k] w fun e w' => e = .returned (.int .i64 k) ∧ Below w.heap.size w w' := by
  go_enter Try.func25, Try.ntmps25
  go_wp2_with (go_at_call 18; refine (markIntS_none _ _ _ _).mono ?_; rintro e w' ⟨rfl, rfl⟩)
  go_ret
  exact ⟨rfl, (by repeat (first | exact Below.refl _ _ | (refine below_drewN ?_ _) | (refine Below.drew ?_) | (refine Below.alloc ?_ (by first | exact Nat.le_refl _ | (simp; done) | (simp; omega) | omega) _) | (refine Below.setCell ?_ (by first | exact Nat.le_refl _ | (simp; done) | (simp; omega) | omega) _) | (refine Below.trans ?_ (Below.mono (by assumption) (by first | exact Nat.le_refl _ | (simp; done) | (simp; omega) | omega)))))⟩
theorem heldCache_none (p s k : Int) (A1 A2 : Option Addr) (c1 c2 : Nat) (w : World) (hk : 0 ≤ k) :
    Calls Try.prog 26 #[.agg #[.int .i64 p, .int .i64 s, .slice A1 0 c1, .slice A2 0 c2, .int .i64 0], .int .i64 k] w fun e w' => e = .returned (.int .i64 k) ∧ Below w.heap.size w w' := by
  go_enter Try.func26, Try.ntmps26
  go_wp2_with (go_at_call 19; refine (heldIntS_none _ _ _ _).mono ?_; rintro e w' ⟨rfl, rfl⟩)
  go_ret
  exact ⟨rfl, (by repeat (first | exact Below.refl _ _ | (refine below_drewN ?_ _) | (refine Below.drew ?_) | (refine Below.alloc ?_ (by first | exact Nat.le_refl _ | (simp; done) | (simp; omega) | omega) _) | (refine Below.setCell ?_ (by first | exact Nat.le_refl _ | (simp; done) | (simp; omega) | omega) _) | (refine Below.trans ?_ (Below.mono (by assumption) (by first | exact Nat.le_refl _ | (simp; done) | (simp; omega) | omega)))))⟩
/-- The block of a cache whose two lists are empty. -/
def Empt (w : World) (b : Nat) (p s : Int) (A1 : Option Addr) (c1 : Nat) (A2 : Option Addr) (c2 : Nat) : Prop :=
  b < w.heap.size ∧ w.cell? ⟨b, 0, none⟩ = some (.int .i64 p) ∧ w.cell? ⟨b, 1, none⟩ = some (.int .i64 s) ∧ w.cell? ⟨b, 2, none⟩ = some (.slice A1 0 c1) ∧ w.cell? ⟨b, 3, none⟩ = some (.slice A2 0 c2) ∧ w.cell? ⟨b, 4, none⟩ = some (.int .i64 0)
theorem Empt.on {w w' : World} {b : Nat} {p s : Int} {A1 A2 : Option Addr} {c1 c2 : Nat} (h : Empt w b p s A1 c1 A2 c2) (hb : Below w.heap.size w w') : Empt w' b p s A1 c1 A2 c2 := by
  obtain ⟨h0, h1, h2, h3, h4, h5⟩ := h
  exact ⟨Nat.lt_of_lt_of_le h0 hb.size, (hb.cell (p := ⟨b, 0, none⟩) h0).trans h1, (hb.cell (p := ⟨b, 1, none⟩) h0).trans h2, (hb.cell (p := ⟨b, 2, none⟩) h0).trans h3, (hb.cell (p := ⟨b, 3, none⟩) h0).trans h4, (hb.cell (p := ⟨b, 4, none⟩) h0).trans h5⟩
theorem Empt.new (w : World) (p s : Int) (A1 : Option Addr) (c1 : Nat) (A2 : Option Addr) (c2 : Nat) : Empt (w.alloc (.cells #[.int .i64 p, .int .i64 s, .slice A1 0 c1, .slice A2 0 c2, .int .i64 0] 31)) w.heap.size p s A1 c1 A2 c2 := by
  refine ⟨by simp, ?_, ?_, ?_, ?_, ?_⟩ <;> go_simp
def newV (n p s : Int) : Int × Int × Bool := if (1 ≤ n ∧ n ≤ 8) ∧ (1 ≤ p ∧ p ≤ 7) ∧ (1 ≤ s ∧ s ≤ 6) then (p, s, true) else (0, 0, false)
def RetC (w : World) (r : Int × Int × Bool) (e : Ending) (w' : World) : Prop :=
  ∃ A1 c1 A2 c2, e = .returned (.tuple #[.agg #[.int .i64 r.1, .int .i64 r.2.1, .slice A1 0 c1, .slice A2 0 c2, .int .i64 0], .bool r.2.2]) ∧ Below w.heap.size w w'
theorem l4New_any (p s : Int) (w : World) : Calls Try.prog 60 #[.int .i64 p, .int .i64 s] w fun e w' => ∃ A1 A2, e = .returned (.agg #[.int .i64 p, .int .i64 s, .slice A1 0 0, .slice A2 0 0, .int .i64 0]) ∧ Below w.heap.size w w' := by
  go_enter Try.func60, Try.ntmps60
  go_wp2_with fail
  refine bodyPost_ret (v := .agg #[.int .i64 p, .int .i64 s, .slice (some ⟨w.heap.size + 1, 0, none⟩) 0 0, .slice (some ⟨w.heap.size + 1 + 1, 0, none⟩) 0 0, .int .i64 0]) (by simp [results, Try.results60, go_sem]) rfl ⟨_, _, rfl, (by repeat (first | exact Below.refl _ _ | (refine below_drewN ?_ _) | (refine Below.drew ?_) | (refine Below.alloc ?_ (by first | exact Nat.le_refl _ | (simp; done) | (simp; omega) | omega) _) | (refine Below.setCell ?_ (by first | exact Nat.le_refl _ | (simp; done) | (simp; omega) | omega) _) | (refine Below.trans ?_ (Below.mono (by assumption) (by first | exact Nat.le_refl _ | (simp; done) | (simp; omega) | omega)))))⟩
theorem five_cells {w : World} {b : Nat} {x0 x1 x2 x3 x4 : Value} (h0 : w.cell? ⟨b, 0, none⟩ = some x0) (h1 : w.cell? ⟨b, 1, none⟩ = some x1) (h2 : w.cell? ⟨b, 2, none⟩ = some x2) (h3 : w.cell? ⟨b, 3, none⟩ = some x3) (h4 : w.cell? ⟨b, 4, none⟩ = some x4) :
    (∀ u0 : Value, (w.setCell ⟨b, 0, none⟩ u0).cell? ⟨b, 0, none⟩ = some u0) ∧ (∀ u0 u1 : Value, ((w.setCell ⟨b, 0, none⟩ u0).setCell ⟨b, 1, none⟩ u1).cell? ⟨b, 1, none⟩ = some u1) ∧ (∀ u0 u1 u2 : Value, (((w.setCell ⟨b, 0, none⟩ u0).setCell ⟨b, 1, none⟩ u1).setCell ⟨b, 2, none⟩ u2).cell? ⟨b, 2, none⟩ = some u2) ∧ (∀ u0 u1 u2 u3 : Value, ((((w.setCell ⟨b, 0, none⟩ u0).setCell ⟨b, 1, none⟩ u1).setCell ⟨b, 2, none⟩ u2).setCell ⟨b, 3, none⟩ u3).cell? ⟨b, 3, none⟩ = some u3) ∧ (∀ u0 u1 u2 u3 u4 : Value, (((((w.setCell ⟨b, 0, none⟩ u0).setCell ⟨b, 1, none⟩ u1).setCell ⟨b, 2, none⟩ u2).setCell ⟨b, 3, none⟩ u3).setCell ⟨b, 4, none⟩ u4).cell? ⟨b, 4, none⟩ = some u4) :=
  ⟨fun u0 => World.cell?_setCell_same _ _ _ h0, fun u0 u1 => World.cell?_setCell_same _ _ _ ((World.cell?_setCell_other _ _ _ _ (by simp)).trans h1), fun u0 u1 u2 => World.cell?_setCell_same _ _ _ ((World.cell?_setCell_other _ _ _ _ (by simp)).trans ((World.cell?_setCell_other _ _ _ _ (by simp)).trans h2)), fun u0 u1 u2 u3 => World.cell?_setCell_same _ _ _ ((World.cell?_setCell_other _ _ _ _ (by simp)).trans ((World.cell?_setCell_other _ _ _ _ (by simp)).trans ((World.cell?_setCell_other _ _ _ _ (by simp)).trans h3))), fun u0 u1 u2 u3 u4 => World.cell?_setCell_same _ _ _ ((World.cell?_setCell_other _ _ _ _ (by simp)).trans ((World.cell?_setCell_other _ _ _ _ (by simp)).trans ((World.cell?_setCell_other _ _ _ _ (by simp)).trans ((World.cell?_setCell_other _ _ _ _ (by simp)).trans h4))))⟩
set_option maxHeartbeats 800000 in
theorem spec_NewCache (n p s : Int) (w : World) : Calls Try.prog 22 #[.int .i64 n, .int .i64 p, .int .i64 s] w (RetC w (newV n p s)) := by
  by_cases c1 : 1 ≤ n ∧ n ≤ 8
  · by_cases c2 : 1 ≤ p ∧ p ≤ 7
    · by_cases c3 : 1 ≤ s ∧ s ≤ 6
      · have HV := hide (show newV n p s = (p, s, true) by simp [newV, c1, c2, c3])
        obtain ⟨c11, c12⟩ := c1
        obtain ⟨c21, c22⟩ := c2
        obtain ⟨c31, c32⟩ := c3
        go_enter Try.func22, Try.ntmps22
        go_wp2_with (first | (go_at_call 53; refine (l1In_yes _ _ _ _ (by omega) (by omega)).mono ?_; rintro e w' ⟨rfl, rfl⟩) | (go_at_call 53; refine (l1In_no _ _ _ _ (by omega)).mono ?_; rintro e w' ⟨rfl, rfl⟩) | (go_at_call 60; refine (l4New_any _ _ _).mono ?_; rintro e w1 ⟨A1, A2, rfl, hb⟩; obtain ⟨hc, hf⟩ := bcell hb; obtain ⟨g0, g1, g2, g3, g4, g5⟩ := (Empt.new w 0 0 none 0 none 0).on hb; obtain ⟨r0, r1, r2, r3, r4⟩ := five_cells g1 g2 g3 g4 g5) | go_in)
        rw [HV.out]
        refine bodyPost_ret (v := .tuple #[.agg #[.int .i64 p, .int .i64 s, .slice A1 0 0, .slice A2 0 0, .int .i64 0], .bool true]) (by simp [results, Try.results22, go_sem, r0, r1, r2, r3, r4]) rfl ⟨_, _, _, _, rfl, ?_⟩
        have hB0 := Below.trans ((Below.refl w.heap.size w).alloc (Nat.le_refl _) (.cells #[.int .i64 0, .int .i64 0, .slice none 0 0, .slice none 0 0, .int .i64 0] 31)) (hb.mono (by simp))
        exact ((((hB0.setCell (Nat.le_refl _) _).setCell (Nat.le_refl _) _).setCell (Nat.le_refl _) _).setCell (Nat.le_refl _) _).setCell (Nat.le_refl _) _
      · obtain ⟨c11, c12⟩ := c1
        obtain ⟨c21, c22⟩ := c2
        have HV := hide (show newV n p s = (0, 0, false) by simp [newV]; omega)
        go_enter Try.func22, Try.ntmps22
        go_wp2_with (first | (go_at_call 53; refine (l1In_yes _ _ _ _ (by omega) (by omega)).mono ?_; rintro e w' ⟨rfl, rfl⟩) | (go_at_call 53; refine (l1In_no _ _ _ _ (by omega)).mono ?_; rintro e w' ⟨rfl, rfl⟩) | go_in)
        rw [HV.out]
        refine bodyPost_ret (v := .tuple #[.agg #[.int .i64 0, .int .i64 0, .slice none 0 0, .slice none 0 0, .int .i64 0], .bool false]) (by simp [results, Try.results22, go_sem]) rfl ⟨_, _, _, _, rfl, (by repeat (first | exact Below.refl _ _ | (refine below_drewN ?_ _) | (refine Below.drew ?_) | (refine Below.alloc ?_ (by first | exact Nat.le_refl _ | (simp; done) | (simp; omega) | omega) _) | (refine Below.setCell ?_ (by first | exact Nat.le_refl _ | (simp; done) | (simp; omega) | omega) _) | (refine Below.trans ?_ (Below.mono (by assumption) (by first | exact Nat.le_refl _ | (simp; done) | (simp; omega) | omega)))))⟩
    · obtain ⟨c11, c12⟩ := c1
      have HV := hide (show newV n p s = (0, 0, false) by simp [newV]; omega)
      go_enter Try.func22, Try.ntmps22
      go_wp2_with (first | (go_at_call 53; refine (l1In_yes _ _ _ _ (by omega) (by omega)).mono ?_; rintro e w' ⟨rfl, rfl⟩) | (go_at_call 53; refine (l1In_no _ _ _ _ (by omega)).mono ?_; rintro e w' ⟨rfl, rfl⟩) | go_in)
      rw [HV.out]
      refine bodyPost_ret (v := .tuple #[.agg #[.int .i64 0, .int .i64 0, .slice none 0 0, .slice none 0 0, .int .i64 0], .bool false]) (by simp [results, Try.results22, go_sem]) rfl ⟨_, _, _, _, rfl, (by repeat (first | exact Below.refl _ _ | (refine below_drewN ?_ _) | (refine Below.drew ?_) | (refine Below.alloc ?_ (by first | exact Nat.le_refl _ | (simp; done) | (simp; omega) | omega) _) | (refine Below.setCell ?_ (by first | exact Nat.le_refl _ | (simp; done) | (simp; omega) | omega) _) | (refine Below.trans ?_ (Below.mono (by assumption) (by first | exact Nat.le_refl _ | (simp; done) | (simp; omega) | omega)))))⟩
  · skip
    have HV := hide (show newV n p s = (0, 0, false) by simp [newV]; omega)
    go_enter Try.func22, Try.ntmps22
    go_wp2_with (first | (go_at_call 53; refine (l1In_yes _ _ _ _ (by omega) (by omega)).mono ?_; rintro e w' ⟨rfl, rfl⟩) | (go_at_call 53; refine (l1In_no _ _ _ _ (by omega)).mono ?_; rintro e w' ⟨rfl, rfl⟩) | go_in)
    rw [HV.out]
    refine bodyPost_ret (v := .tuple #[.agg #[.int .i64 0, .int .i64 0, .slice none 0 0, .slice none 0 0, .int .i64 0], .bool false]) (by simp [results, Try.results22, go_sem]) rfl ⟨_, _, _, _, rfl, (by repeat (first | exact Below.refl _ _ | (refine below_drewN ?_ _) | (refine Below.drew ?_) | (refine Below.alloc ?_ (by first | exact Nat.le_refl _ | (simp; done) | (simp; omega) | omega) _) | (refine Below.setCell ?_ (by first | exact Nat.le_refl _ | (simp; done) | (simp; omega) | omega) _) | (refine Below.trans ?_ (Below.mono (by assumption) (by first | exact Nat.le_refl _ | (simp; done) | (simp; omega) | omega)))))⟩
theorem impl_NewCache (n p s : Int) (w : World) : Calls Try.prog 23 #[.int .i64 n, .int .i64 p, .int .i64 s] w (RetC w (newV n p s)) := by
  by_cases c1 : 1 ≤ n ∧ n ≤ 8
  · by_cases c2 : 1 ≤ p ∧ p ≤ 7
    · by_cases c3 : 1 ≤ s ∧ s ≤ 6
      · have HV := hide (show newV n p s = (p, s, true) by simp [newV, c1, c2, c3])
        obtain ⟨c11, c12⟩ := c1
        obtain ⟨c21, c22⟩ := c2
        obtain ⟨c31, c32⟩ := c3
        go_enter Try.func23, Try.ntmps23
        go_wp2_with (first | (go_at_call 57; refine (within_yes _ _ _ _ (by omega) (by omega)).mono ?_; rintro e w' ⟨rfl, rfl⟩) | (go_at_call 57; refine (within_no _ _ _ _ (by omega)).mono ?_; rintro e w' ⟨rfl, rfl⟩) | go_in)
        rw [HV.out]
        refine bodyPost_ret (v := .tuple #[.agg #[.int .i64 p, .int .i64 s, .slice none 0 0, .slice none 0 0, .int .i64 0], .bool true]) (by simp [results, Try.results23, go_sem]) rfl ⟨_, _, _, _, rfl, (by repeat (first | exact Below.refl _ _ | (refine below_drewN ?_ _) | (refine Below.drew ?_) | (refine Below.alloc ?_ (by first | exact Nat.le_refl _ | (simp; done) | (simp; omega) | omega) _) | (refine Below.setCell ?_ (by first | exact Nat.le_refl _ | (simp; done) | (simp; omega) | omega) _) | (refine Below.trans ?_ (Below.mono (by assumption) (by first | exact Nat.le_refl _ | (simp; done) | (simp; omega) | omega)))))⟩
      · obtain ⟨c11, c12⟩ := c1
        obtain ⟨c21, c22⟩ := c2
        have HV := hide (show newV n p s = (0, 0, false) by simp [newV]; omega)
        go_enter Try.func23, Try.ntmps23
        go_wp2_with (first | (go_at_call 57; refine (within_yes _ _ _ _ (by omega) (by omega)).mono ?_; rintro e w' ⟨rfl, rfl⟩) | (go_at_call 57; refine (within_no _ _ _ _ (by omega)).mono ?_; rintro e w' ⟨rfl, rfl⟩) | go_in)
        rw [HV.out]
        refine bodyPost_ret (v := .tuple #[.agg #[.int .i64 0, .int .i64 0, .slice none 0 0, .slice none 0 0, .int .i64 0], .bool false]) (by simp [results, Try.results23, go_sem]) rfl ⟨_, _, _, _, rfl, (by repeat (first | exact Below.refl _ _ | (refine below_drewN ?_ _) | (refine Below.drew ?_) | (refine Below.alloc ?_ (by first | exact Nat.le_refl _ | (simp; done) | (simp; omega) | omega) _) | (refine Below.setCell ?_ (by first | exact Nat.le_refl _ | (simp; done) | (simp; omega) | omega) _) | (refine Below.trans ?_ (Below.mono (by assumption) (by first | exact Nat.le_refl _ | (simp; done) | (simp; omega) | omega)))))⟩
    · obtain ⟨c11, c12⟩ := c1
      have HV := hide (show newV n p s = (0, 0, false) by simp [newV]; omega)
      go_enter Try.func23, Try.ntmps23
      go_wp2_with (first | (go_at_call 57; refine (within_yes _ _ _ _ (by omega) (by omega)).mono ?_; rintro e w' ⟨rfl, rfl⟩) | (go_at_call 57; refine (within_no _ _ _ _ (by omega)).mono ?_; rintro e w' ⟨rfl, rfl⟩) | go_in)
      rw [HV.out]
      refine bodyPost_ret (v := .tuple #[.agg #[.int .i64 0, .int .i64 0, .slice none 0 0, .slice none 0 0, .int .i64 0], .bool false]) (by simp [results, Try.results23, go_sem]) rfl ⟨_, _, _, _, rfl, (by repeat (first | exact Below.refl _ _ | (refine below_drewN ?_ _) | (refine Below.drew ?_) | (refine Below.alloc ?_ (by first | exact Nat.le_refl _ | (simp; done) | (simp; omega) | omega) _) | (refine Below.setCell ?_ (by first | exact Nat.le_refl _ | (simp; done) | (simp; omega) | omega) _) | (refine Below.trans ?_ (Below.mono (by assumption) (by first | exact Nat.le_refl _ | (simp; done) | (simp; omega) | omega)))))⟩
  · skip
    have HV := hide (show newV n p s = (0, 0, false) by simp [newV]; omega)
    go_enter Try.func23, Try.ntmps23
    go_wp2_with (first | (go_at_call 57; refine (within_yes _ _ _ _ (by omega) (by omega)).mono ?_; rintro e w' ⟨rfl, rfl⟩) | (go_at_call 57; refine (within_no _ _ _ _ (by omega)).mono ?_; rintro e w' ⟨rfl, rfl⟩) | go_in)
    rw [HV.out]
    refine bodyPost_ret (v := .tuple #[.agg #[.int .i64 0, .int .i64 0, .slice none 0 0, .slice none 0 0, .int .i64 0], .bool false]) (by simp [results, Try.results23, go_sem]) rfl ⟨_, _, _, _, rfl, (by repeat (first | exact Below.refl _ _ | (refine below_drewN ?_ _) | (refine Below.drew ?_) | (refine Below.alloc ?_ (by first | exact Nat.le_refl _ | (simp; done) | (simp; omega) | omega) _) | (refine Below.setCell ?_ (by first | exact Nat.le_refl _ | (simp; done) | (simp; omega) | omega) _) | (refine Below.trans ?_ (Below.mono (by assumption) (by first | exact Nat.le_refl _ | (simp; done) | (simp; omega) | omega)))))⟩

set_option maxHeartbeats 1600000 in
theorem walk (w : World) (a0 : Int) (w0 : (Lit.int .i64 a0).wf = true) (a1 : Int) (w1 : (Lit.int .i64 a1).wf = true) (a2 : Int) (w2 : (Lit.int .i64 a2).wf = true) :
    Calls Try.prog 5 #[.int .i64 a0, .int .i64 a1, .int .i64 a2] w fun e w' => e = .returned (.bool true) ∧ Below w.heap.size w w' := by
  clear w0 w1 w2
  obtain ⟨P, S, B, HV⟩ : ∃ (P S : Int) (B : Bool), Hid (newV a0 a1 a2 = (P, S, B)) := ⟨_, _, _, rfl⟩
  have hB := hide (Below.refl w.heap.size w)
  go_enter Try.func5, Try.ntmps5
  go_wp2_with fail
  refine (spec_NewCache _ _ _ _).mono ?_
  rintro e W1 ⟨Au, cu, Bu, du, he, hb⟩
  rw [HV.out] at he
  simp only at he
  subst he
  replace hB := hide (hB.out.trans (hb.mono hB.out.size))
  clear hb
  have hb := (Below.refl W1.heap.size W1).alloc (Nat.le_refl _) (.cells #[.int .i64 P, .int .i64 S, .slice Au 0 cu, .slice Bu 0 du, .int .i64 0] 31)
  replace hB := hide (hB.out.trans (hb.mono hB.out.size))
  clear hb
  have fu := hide (Empt.new W1 P S Au cu Bu du)
  go_wp2_with fail
  refine (impl_NewCache _ _ _ _).mono ?_
  rintro e W2 ⟨Ag, cg, Bg, dg, he, hb⟩
  rw [HV.out] at he
  simp only at he
  subst he
  replace fu := hide (fu.out.on hb)
  replace hB := hide (hB.out.trans (hb.mono hB.out.size))
  clear hb
  have hb := (Below.refl W2.heap.size W2).alloc (Nat.le_refl _) (.cells #[.int .i64 P, .int .i64 S, .slice Ag 0 cg, .slice Bg 0 dg, .int .i64 0] 31)
  replace fu := hide (fu.out.on hb)
  replace hB := hide (hB.out.trans (hb.mono hB.out.size))
  clear hb
  have fg := hide (Empt.new W2 P S Ag cg Bg dg)
  obtain ⟨fu_0, fu_1, fu_2, fu_3, fu_4, fu_5⟩ := fu.out
  obtain ⟨fg_0, fg_1, fg_2, fg_3, fg_4, fg_5⟩ := fg.out
  go_wp2_with fail
  refine (eqCache_none _ _ _ _ _ _ _ _ _ _ _).mono ?_
  rintro e W3 ⟨rfl, hb⟩
  clear fu_0 fu_1 fu_2 fu_3 fu_4 fu_5 fg_0 fg_1 fg_2 fg_3 fg_4 fg_5
  replace fu := hide (fu.out.on hb)
  replace fg := hide (fg.out.on hb)
  replace hB := hide (hB.out.trans (hb.mono hB.out.size))
  clear hb
  obtain ⟨fu_0, fu_1, fu_2, fu_3, fu_4, fu_5⟩ := fu.out
  obtain ⟨fg_0, fg_1, fg_2, fg_3, fg_4, fg_5⟩ := fg.out
  go_wp2_with fail
  refine (markCache_none _ _ _ _ _ _ _ _).mono ?_
  rintro e W4 ⟨rfl, hb⟩
  clear fu_0 fu_1 fu_2 fu_3 fu_4 fu_5 fg_0 fg_1 fg_2 fg_3 fg_4 fg_5
  replace fu := hide (fu.out.on hb)
  replace fg := hide (fg.out.on hb)
  replace hB := hide (hB.out.trans (hb.mono hB.out.size))
  clear hb
  obtain ⟨fu_0, fu_1, fu_2, fu_3, fu_4, fu_5⟩ := fu.out
  obtain ⟨fg_0, fg_1, fg_2, fg_3, fg_4, fg_5⟩ := fg.out
  go_wp2_with fail
  refine (heldCache_none _ _ _ _ _ _ _ _ (by omega)).mono ?_
  rintro e W5 ⟨rfl, hb⟩
  clear fu_0 fu_1 fu_2 fu_3 fu_4 fu_5 fg_0 fg_1 fg_2 fg_3 fg_4 fg_5
  replace fu := hide (fu.out.on hb)
  replace fg := hide (fg.out.on hb)
  replace hB := hide (hB.out.trans (hb.mono hB.out.size))
  clear hb
  go_wp2_with fail
  refine (impl_NewCache _ _ _ _).mono ?_
  rintro e W6 ⟨Ah, ch, Bh, dh, he, hb⟩
  rw [HV.out] at he
  simp only at he
  subst he
  replace fu := hide (fu.out.on hb)
  replace fg := hide (fg.out.on hb)
  replace hB := hide (hB.out.trans (hb.mono hB.out.size))
  clear hb
  have hb := (Below.refl W6.heap.size W6).alloc (Nat.le_refl _) (.cells #[.int .i64 P, .int .i64 S, .slice Ah 0 ch, .slice Bh 0 dh, .int .i64 0] 31)
  replace fu := hide (fu.out.on hb)
  replace fg := hide (fg.out.on hb)
  replace hB := hide (hB.out.trans (hb.mono hB.out.size))
  clear hb
  have fh := hide (Empt.new W6 P S Ah ch Bh dh)
  obtain ⟨fu_0, fu_1, fu_2, fu_3, fu_4, fu_5⟩ := fu.out
  obtain ⟨fg_0, fg_1, fg_2, fg_3, fg_4, fg_5⟩ := fg.out
  obtain ⟨fh_0, fh_1, fh_2, fh_3, fh_4, fh_5⟩ := fh.out
  go_wp2_with fail
  refine (eqCache_none _ _ _ _ _ _ _ _ _ _ _).mono ?_
  rintro e W7 ⟨rfl, hb⟩
  clear fu_0 fu_1 fu_2 fu_3 fu_4 fu_5 fg_0 fg_1 fg_2 fg_3 fg_4 fg_5 fh_0 fh_1 fh_2 fh_3 fh_4 fh_5
  replace fu := hide (fu.out.on hb)
  replace fg := hide (fg.out.on hb)
  replace fh := hide (fh.out.on hb)
  replace hB := hide (hB.out.trans (hb.mono hB.out.size))
  clear hb
  obtain ⟨fu_0, fu_1, fu_2, fu_3, fu_4, fu_5⟩ := fu.out
  obtain ⟨fg_0, fg_1, fg_2, fg_3, fg_4, fg_5⟩ := fg.out
  obtain ⟨fh_0, fh_1, fh_2, fh_3, fh_4, fh_5⟩ := fh.out
  go_wp2_with fail
  refine (heldCache_none _ _ _ _ _ _ _ _ (by omega)).mono ?_
  rintro e W8 ⟨rfl, hb⟩
  clear fu_0 fu_1 fu_2 fu_3 fu_4 fu_5 fg_0 fg_1 fg_2 fg_3 fg_4 fg_5 fh_0 fh_1 fh_2 fh_3 fh_4 fh_5
  replace fu := hide (fu.out.on hb)
  replace fg := hide (fg.out.on hb)
  replace fh := hide (fh.out.on hb)
  replace hB := hide (hB.out.trans (hb.mono hB.out.size))
  clear hb
  go_wp2
  go_ret
  exact ⟨rfl, hB.out⟩

set_option maxRecDepth 100000 in
theorem lifted (os : Os) (started : os.Started) (H : Type) (enc : TypeId × Value → H) :
    ReturnsInHanded {} Try.checked os 5 .any (Rows.fnExactNewCacheSpec.pre6 enc Try.prog Try.f5 Rows.fnExactNewCacheRow.domain false) (Rows.fnExactNewCacheSpec.post enc Try.prog Try.f5 false true false false) := by
  refine returnsInHanded_of_change (C := Try.checked) own started (by kernel_rfl) Try.func5
    (ChangeSpec.witness6 (enc := enc) (C := Try.checked) false ⟨#[], #[.int .i64 0, .int .i64 0, .int .i64 0], []⟩ 8 (by kernel_rfl) (by kernel_rfl) (by kernel_rfl) (by kernel_rfl)) ?_
  intro W base args ds gs before hval0 hW hcnd _
  have hval : ∀ (j : Nat) t v, Try.f5.params[j]? = some t → args[j]? = some v → Value.okWide Try.prog W .any base t v := hval0
  have hW' := hW
  obtain ⟨p, q, hA0, hV, rfl, hfz, hnd⟩ := hW
  have hA : DataW.TrodAll enc Try.prog W 0 (fun _ => true) true Try.f5.params.toList args.toList ds p := hA0
  rw [Try.params5] at hA hval
  obtain ⟨v0, vs0, d0, ds0, p0, q0, hargs, rfl, rfl, h0, r0⟩ := trodAll_cons hA
  obtain ⟨v1, vs1, d1, ds1, p1, q1, rfl, rfl, rfl, h1, r1⟩ := trodAll_cons r0
  obtain ⟨v2, vs2, d2, ds2, p2, q2, rfl, rfl, rfl, h2, r2⟩ := trodAll_cons r1
  obtain ⟨rfl, rfl, rfl⟩ := trodAll_nil r2
  obtain rfl : args = #[v0, v1, v2] := by cases args; simp_all
  obtain ⟨rfl, rfl⟩ := trodVars_none hV
  obtain ⟨a0, rfl, rfl, rfl, w0⟩ := open_int Try.underlying3 (hval 0 3 v0 rfl rfl) h0
  obtain ⟨a1, rfl, rfl, rfl, w1⟩ := open_int Try.underlying3 (hval 1 3 v1 rfl rfl) h1
  obtain ⟨a2, rfl, rfl, rfl, w2⟩ := open_int Try.underlying3 (hval 2 3 v2 rfl rfl) h2
  clear hA0 hval0
  refine (walk W a0 w0 a1 w1 a2 w2).mono fun e W' ⟨he, bel⟩ => ?_
  subst he
  exact ⟨_, rfl, _, _, _, [], _, [], hW', trodAll_mk1 (shut_bool Try.underlying4 _), (trodAll_cons_mk (shut_int Try.underlying3 w0) (trodAll_cons_mk (shut_int Try.underlying3 w1) (trodAll_cons_mk (shut_int Try.underlying3 w2) trodAll_mk0))), rfl, bel.frame _, fun h => by cases h⟩

theorem over : Rows.fnExactNewCacheRow.holds Try.pinned (OpenSpec.ofChange Rows.fnExactNewCacheSpec) :=
  OpenClaim.holds_of_wide 5 Try.f5 rfl rfl rfl rfl rfl rfl rfl ⟨rfl, rfl, rfl, rfl, rfl⟩ rfl rfl rfl rfl rfl (by kernel_rfl) Try.func5 (by kernel_rfl)
    (of_decide_eq_true (by kernel_rfl)) (by unfold Func.isWrapper; first | (rw [if_pos (by decide +kernel)]; kernel_rfl) | (rw [if_neg (by decide +kernel)]; exact ⟨rfl, rfl⟩))
    (fun os started H enc _ => lifted os started H enc)

theorem proved : Rows.FnExactNewCacheSaid := over
#print axioms proved
end Go.Proofs.Ytaoacpikmpoodaa.fnExactNewCache
