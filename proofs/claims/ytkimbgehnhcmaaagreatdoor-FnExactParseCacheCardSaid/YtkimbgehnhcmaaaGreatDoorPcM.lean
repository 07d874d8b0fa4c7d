/- The law's marks over a cache of the call's own: they are set and they are held; for lists of at most 2^20 numbers. -/
import Derived.Test.YtkimbgehnhcmaaaGreatDoorPcB
import Derived.Test.YtkimbgehnhcmaaaGreatDoorMarks
namespace Go.Proofs.YtkimbgehnhcmaaaGreatDoor
open Go.RowKit

/-- Only the blocks of two slices have been written. -/
structure Marked2 (w w' : World) (A1 A2 : Option Addr) : Prop where
  os : w'.os = w.os
  tape : w'.tape = w.tape
  output : w'.output = w.output
  size : w.heap.size ≤ w'.heap.size
  block : ∀ b, b < w.heap.size → (∀ a, A1 = some a → a.block ≠ b) → (∀ a, A2 = some a → a.block ≠ b) → w'.heap[b]? = w.heap[b]?
theorem row_ne {A : Option Addr} {b : Nat} (h : ∀ a, A = some a → a.block ≠ b) : some b ≠ A.map (·.block) := by
  cases A with
  | none => simp
  | some a => simpa using (h a rfl).symm
theorem Marked2.of {w wa w1 w2 : World} {A1 A2 : Option Addr} (hb : Below w.heap.size w wa) (h1 : Marked wa w1 A1) (h2 : Marked w1 w2 A2) : Marked2 w w2 A1 A2 :=
  ⟨(h2.os.trans h1.os).trans hb.os, (h2.tape.trans h1.tape).trans hb.tape, (h2.output.trans h1.output).trans hb.output, Nat.le_trans hb.size (Nat.le_trans h1.size h2.size),
    fun b hlt n1 n2 => (h2.block b (Nat.lt_of_lt_of_le hlt (Nat.le_trans hb.size h1.size)) (row_ne n2)).trans ((h1.block b (Nat.lt_of_lt_of_le hlt hb.size) (row_ne n1)).trans (hb.block b hlt))⟩
theorem Marked2.below {w w' : World} {A1 A2 : Option Addr} {base n1 c1 n2 c2 : Nat} {xs ys : List Int} (h : Marked2 w w' A1 A2) (o1 : OwnI w base A1 n1 c1 xs) (o2 : OwnI w base A2 n2 c2 ys) (hb : base ≤ w.heap.size) : Below base w w' :=
  ⟨h.os, h.tape, h.output, h.size, fun k hk => h.block k (by omega) (fun a e => by have := (o1.lt a e).1; omega) (fun a e => by have := (o2.lt a e).1; omega)⟩
theorem Marked2.own {w w' : World} {A1 A2 A : Option Addr} {base n c : Nat} {xs : List Int} (h : Marked2 w w' A1 A2) (o : OwnI w base A n c xs) (s1 : Sep A A1) (s2 : Sep A A2) : OwnI w' base A n c xs := by
  obtain ⟨h1, h2⟩ := o
  refine ⟨h1, ?_⟩
  rcases h2 with h2 | ⟨g, cap, cur, hv, hg, hh, r⟩
  · exact Or.inl h2
  · refine Or.inr ⟨g, cap, cur, hv, hg, ?_, r⟩
    have hA : A = some ⟨g, 0, none⟩ := by injection hv
    rw [h.block g (Array.getElem?_eq_some_iff.1 hh).1 (fun a e => (s1 _ a hA e).symm) (fun a e => (s2 _ a hA e).symm)]
    exact hh
theorem Marked2.blk {w w' : World} {A1 A2 : Option Addr} {b base n1 c1 n2 c2 : Nat} {xs ys : List Int} {v0 v1 v2 v3 v4 : Value} (h : Marked2 w w' A1 A2) (hB : Blk w b v0 v1 v2 v3 v4) (o1 : OwnI w base A1 n1 c1 xs) (o2 : OwnI w base A2 n2 c2 ys) : Blk w' b v0 v1 v2 v3 v4 :=
  (h.block b hB.lt (hB.apart o1) (hB.apart o2)).trans hB

set_option maxHeartbeats 800000 in
theorem markCache_any (p s h k : Int) (A1 : Option Addr) (n1 c1 : Nat) (A2 : Option Addr) (n2 c2 base : Nat) (xs ys : List Int) (w : World) (o1 : OwnI w base A1 n1 c1 xs) (o2 : OwnI w base A2 n2 c2 ys) (hs : Sep A1 A2) (hk : 0 ≤ k) (hk' : k ≤ 1000000) (hn1 : n1 ≤ 1048576) (hn2 : n2 ≤ 1048576) :
    Calls Tryz.prog 7 #[.agg #[.int .i64 p, .int .i64 s, .slice A1 n1 c1, .slice A2 n2 c2, .int .i64 h], .int .i64 k] w fun e w' => e = .returned (.int .i64 (k + (n1 : Int) + (n2 : Int))) ∧ OwnI w' base A1 n1 c1 (marksI k n1) ∧ OwnI w' base A2 n2 c2 (marksI (k + (n1 : Int)) n2) ∧ Marked2 w w' A1 A2 := by
  have HX := hide (Blk.new w (.int .i64 p) (.int .i64 s) (.slice A1 n1 c1) (.slice A2 n2 c2) (.int .i64 h))
  have hb := (Below.refl w.heap.size w).alloc (Nat.le_refl _) (.cells #[.int .i64 p, .int .i64 s, .slice A1 n1 c1, .slice A2 n2 c2, .int .i64 h] 24)
  replace o1 := hide (o1.below hb)
  replace o2 := hide (o2.below hb)
  replace hb := hide hb
  replace hs := hide hs
  go_enter Tryz.func7, Tryz.ntmps7
  go_wp2_with fail
  refine (markIntS_any _ _ _ _ _ _ _ o1.out hk (by omega) hn1).mono ?_
  rintro e w1 ⟨rfl, u1, hm1⟩
  have HX1 := hide (HX.out.grown hm1 (HX.out.apart o1.out))
  have u2 := hide (o2.out.marked hm1 hs.out.symm)
  obtain ⟨z0, x0, x1, x2, x3, x4⟩ := HX1.out.five
  replace u1 := hide u1
  replace hm1 := hide hm1
  go_wp2_with fail
  refine (markIntS_any _ _ _ _ _ _ _ u2.out (by omega) (by omega) hn2).mono ?_
  rintro e w2 ⟨rfl, v2, hm2⟩
  have v1 := u1.out.marked hm2 hs.out
  have hM := hide (Marked2.of hb.out hm1.out hm2)
  replace v1 := hide v1
  replace v2 := hide v2
  clear hm2 z0 x0 x1 x2 x3 x4
  go_wp2
  go_ret
  exact ⟨rfl, v1.out, v2.out, hM.out⟩
set_option maxHeartbeats 800000 in
theorem heldCache_any (p s h k : Int) (A1 : Option Addr) (n1 c1 : Nat) (A2 : Option Addr) (n2 c2 : Nat) (w : World) (o1 : RdI w A1 n1 (marksI k n1)) (o2 : RdI w A2 n2 (marksI (k + (n1 : Int)) n2)) (hk : 0 ≤ k) (hk' : k ≤ 1000000) (hn1 : n1 ≤ 1048576) (hn2 : n2 ≤ 1048576) :
    Calls Tryz.prog 8 #[.agg #[.int .i64 p, .int .i64 s, .slice A1 n1 c1, .slice A2 n2 c2, .int .i64 h], .int .i64 k] w fun e w' => e = .returned (.int .i64 (k + (n1 : Int) + (n2 : Int))) ∧ Below w.heap.size w w' := by
  have hb := (Below.refl w.heap.size w).alloc (Nat.le_refl _) (.cells #[.int .i64 p, .int .i64 s, .slice A1 n1 c1, .slice A2 n2 c2, .int .i64 h] 24)
  replace o1 := hide (o1.below hb)
  replace o2 := hide (o2.below hb)
  replace hb := hide hb
  have l1 : ¬ (k + (n1 : Int) < 0) := by omega
  have l2 : ¬ (k + (n1 : Int) + (n2 : Int) < 0) := by omega
  go_enter Tryz.func8, Tryz.ntmps8
  go_wp2_with fail
  refine (heldIntS_any _ _ _ _ _ o1.out hk (by omega) hn1).mono ?_
  rintro e w1 ⟨rfl, rfl⟩
  go_wp2_with fail
  refine (heldIntS_any _ _ _ _ _ o2.out (by omega) (by omega) hn2).mono ?_
  rintro e w2 ⟨rfl, rfl⟩
  go_wp2
  go_ret
  exact ⟨rfl, hb.out⟩
end Go.Proofs.YtkimbgehnhcmaaaGreatDoor
