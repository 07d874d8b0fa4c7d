/- Words and small contracts that the other texts of this seat share: a number in a range, by the reference's and the program's test; no conditions. -/
import Derived.Test.YtkimbgehnhcmaaaGreatDoorRows
import Derived.WalkKit
import Derived.ProofKit
import Derived.Below
import Derived.IntWalk
import Derived.Lib.Hide
import Derived.OpenShut
import Derived.WalkSpells
import Derived.Deep.QuietTactic
import Derived.BigQuiet
namespace Go.Proofs.YtkimbgehnhcmaaaGreatDoor
open Go.RowKit

theorem own : ownKnob Tryz.prog.godebug = none := by kernel_rfl
theorem laidOut : laidOutB Tryz.prog = true := by kernel_rfl

theorem hide {p : Prop} (h : p) : Hid p := h
theorem unhide {p : Prop} (h : Hid p) : p := h
theorem ret_int {k : IntKind} {a b : Int} (h : a = b) : Ending.returned (.int k a) = .returned (.int k b) := by rw [h]
theorem ret_bool {a b : Bool} (h : a = b) : Ending.returned (.bool a) = .returned (.bool b) := by rw [h]

theorem quiet_left {P : Program} {f : FuncId} {args : Array Value} {w : World} {n : Nat} {v : Value}
    (h : Calls P f args (w.drewN n) fun e w' => e = .returned v ∧ w.drewN n = w') : Calls P f args (w.drewN n) fun e w'' => e = .returned v ∧ ∃ m, w'' = w.drewN m :=
  h.mono fun _ _ ⟨he, hm⟩ => ⟨he, n, hm.symm⟩
theorem quiet_add_left {P : Program} {f : FuncId} {args : Array Value} {w : World} {a n : Nat} {v : Value}
    (h : Calls P f args (w.drewN (a + n)) fun e w' => e = .returned v ∧ w.drewN (a + n) = w') :
    Calls P f args (w.drewN (a + n)) fun e w'' => e = .returned v ∧ ∃ m, w'' = w.drewN (a + m) :=
  h.mono fun _ _ ⟨he, hm⟩ => ⟨he, n, hm.symm⟩
theorem below_drewN {B : Nat} {a w : World} (h : Below B a w) (n : Nat) : Below B a (w.drewN n) := ⟨h.os, h.tape, h.output, h.size, h.block⟩

theorem bcell {W w1 : World} (hb : Below W.heap.size W w1) : (∀ b o, b < W.heap.size → w1.cell? ⟨b, o, none⟩ = W.cell? ⟨b, o, none⟩) ∧ (∀ b o, b < W.heap.size → w1.frozen? ⟨b, o, none⟩ = W.frozen? ⟨b, o, none⟩) :=
  ⟨fun b o h => hb.cell (p := ⟨b, o, none⟩) h, fun b o h => hb.frozen (p := ⟨b, o, none⟩) h⟩

/-- What the function's own first blocks hold still stands: below B the world is as W0 was. -/
def Kept (B : Nat) (W0 w1 : World) : Prop := Below B W0 w1 ∧ B ≤ W0.heap.size
theorem Kept.start {B : Nat} {W0 : World} (h : B ≤ W0.heap.size) : Kept B W0 W0 := ⟨Below.refl _ _, h⟩
theorem Kept.size {B : Nat} {W0 w1 : World} (h : Kept B W0 w1) : B ≤ w1.heap.size := Nat.le_trans h.2 h.1.size
theorem Kept.step {B : Nat} {W0 w1 w2 : World} (h : Kept B W0 w1) (hb : Below w1.heap.size w1 w2) : Kept B W0 w2 := ⟨h.1.trans (hb.mono h.size), h.2⟩
theorem Kept.cells {B : Nat} {W0 w1 : World} (h : Kept B W0 w1) : ∀ b o, b < B → w1.cell? ⟨b, o, none⟩ = W0.cell? ⟨b, o, none⟩ := fun b o hb => h.1.cell (p := ⟨b, o, none⟩) hb
theorem Kept.frozen {B : Nat} {W0 w1 : World} (h : Kept B W0 w1) : ∀ b o, b < B → w1.frozen? ⟨b, o, none⟩ = W0.frozen? ⟨b, o, none⟩ := fun b o hb => h.1.frozen (p := ⟨b, o, none⟩) hb
theorem Kept.drew {B : Nat} {W0 w1 : World} (h : Kept B W0 w1) : Kept B W0 w1.drew := ⟨h.1.drew, h.2⟩
theorem Kept.drewN {B : Nat} {W0 w1 : World} (h : Kept B W0 w1) (m : Nat) : Kept B W0 (w1.drewN m) := ⟨below_drewN h.1 m, h.2⟩
theorem Kept.alloc {B : Nat} {W0 w1 : World} (h : Kept B W0 w1) (o : Obj) : Kept B W0 (w1.alloc o) := ⟨h.1.alloc h.size o, h.2⟩
theorem Kept.setCell {B : Nat} {W0 w1 : World} (h : Kept B W0 w1) {p : Addr} (hp : B ≤ p.block) (v : Value) : Kept B W0 (w1.setCell p v) := ⟨h.1.setCell hp v, h.2⟩
theorem Kept.below {B B' : Nat} {w W0 w1 : World} (h : Kept B W0 w1) (hw : Below B' w W0) (hB : B' ≤ B) : Below B' w w1 := hw.trans (h.1.mono hB)

/-- A number of 64 bits. -/
theorem bd64 {a : Int} (h : (Lit.int .i64 a).wf = true) : -9223372036854775808 ≤ a ∧ a ≤ 9223372036854775807 := by
  exact bounds_i64 h

theorem l1In_yes (n lo hi : Int) (w : World) (h : lo ≤ n) (h' : n ≤ hi) :
    Calls Tryz.prog 28 #[.int .i64 n, .int .i64 lo, .int .i64 hi] w fun e w' => e = .returned (.bool true) ∧ w = w' := by
  go_enter Tryz.func28, Tryz.ntmps28
  go_wp2
  go_ret
  exact ⟨rfl, rfl⟩
theorem l1In_no (n lo hi : Int) (w : World) (h : ¬ (lo ≤ n ∧ n ≤ hi)) :
    Calls Tryz.prog 28 #[.int .i64 n, .int .i64 lo, .int .i64 hi] w fun e w' => e = .returned (.bool false) ∧ w = w' := by
  by_cases h1 : lo ≤ n
  · have h2 : decide (n ≤ hi) = false := by simp; omega
    clear h
    go_enter Tryz.func28, Tryz.ntmps28
    go_wp2
    go_ret
    exact ⟨rfl, rfl⟩
  · clear h
    go_enter Tryz.func28, Tryz.ntmps28
    go_wp2
    go_ret
    exact ⟨rfl, rfl⟩
theorem within_yes (n lo hi : Int) (w : World) (h : lo ≤ n) (h' : n ≤ hi) :
    Calls Tryz.prog 48 #[.int .i64 n, .int .i64 lo, .int .i64 hi] w fun e w' => e = .returned (.bool true) ∧ w = w' := by
  go_enter Tryz.func48, Tryz.ntmps48
  go_wp2
  go_ret
  exact ⟨rfl, rfl⟩
theorem within_no (n lo hi : Int) (w : World) (h : ¬ (lo ≤ n ∧ n ≤ hi)) :
    Calls Tryz.prog 48 #[.int .i64 n, .int .i64 lo, .int .i64 hi] w fun e w' => e = .returned (.bool false) ∧ w = w' := by
  by_cases h1 : lo ≤ n
  · have h2 : decide (n ≤ hi) = false := by simp; omega
    clear h
    go_enter Tryz.func48, Tryz.ntmps48
    go_wp2
    go_ret
    exact ⟨rfl, rfl⟩
  · clear h
    go_enter Tryz.func48, Tryz.ntmps48
    go_wp2
    go_ret
    exact ⟨rfl, rfl⟩
end Go.Proofs.YtkimbgehnhcmaaaGreatDoor
