/- The items of a sequence by their last places, the last first: the program's range over slices.Backward; for slices of at most 2^20 numbers. -/
import Derived.RangeFuncNested
import Derived.RangeFuncBound
import Derived.RangeFuncCalls
import Derived.RangeFuncLeaves
import Derived.RangeFuncBox
import Derived.Shelf.Abstract
import Derived.Shelf.RegionOpen
import Derived.WalkKit
import Derived.OwnWalkIn
import Derived.TacticsInMore
import Derived.LoopNIn
import Derived.LoopIn
import Derived.Maps.AppendAt
import Derived.Test.YtaoacpikmpoodaaOrderP
namespace Go.Proofs.Ytaoacpikmpoodaa
open Go.RowKit Go.Shelf
attribute [local go_sem] Oper.semAt_some

def uptoB {α : Type} (f : Nat → α) (k : Nat) : List α := (List.range k).map f
theorem uptoB_succ {α : Type} (f : Nat → α) (k : Nat) : uptoB f (k + 1) = uptoB f k ++ [f k] := by simp [uptoB, List.range_succ]
theorem uptoB_length {α : Type} (f : Nat → α) (k : Nat) : (uptoB f k).length = k := by simp [uptoB]
/-- What the j-th round gets: an index and the item there. -/
def backF (zs : List Int) (j : Nat) : Nat × Int := (zs.length - 1 - j, zs.getD (zs.length - 1 - j) 0)

/-- What a round keeps: what lay below n₀, and the box with the slice. -/
def KpB (n₀ Bs : Nat) (t : TypeId) (W W' : World) : Prop := Below n₀ W W' ∧ ∀ v, Boxed W Bs t v → Boxed W' Bs t v
theorem kpB_refl (n₀ Bs : Nat) (t : TypeId) (W : World) : KpB n₀ Bs t W W := ⟨Below.refl _ _, fun _ h => h⟩
theorem kpB_t {n₀ Bs : Nat} {t : TypeId} {A B C : World} (h : KpB n₀ Bs t A B) (k : KpB n₀ Bs t B C) : KpB n₀ Bs t A C := ⟨h.1.trans k.1, fun v hv => k.2 v (h.2 v hv)⟩
theorem kpB_b {n₀ Bs : Nat} {t : TypeId} {w : World} (hn : n₀ ≤ w.heap.size) (W : World) (l : Nat) (o o' : Obj) (hl : w.heap.size ≤ l) (h : W.heap[l]? = some o) (hc : o.isCells = false) (hk : o.isWalk = false) : KpB n₀ Bs t W (W.putObj l o') :=
  ⟨belowK_b hn W l o o' hl h hc hk, fun v hv => hv.kept (grownBy_putObj' W l o') (fun e => by
    cases e
    rw [show W.heap[Bs]? = _ from hv] at h
    cases h
    cases hc)⟩

set_option maxRecDepth 100000 in
set_option maxHeartbeats 2000000 in
/-- slices.Backward's closure, for every loop body that keeps what lay below n₀ and the box. -/
theorem back1_in (F : Fence) (n : Nat) (hf : F.fn 83) (hro : F.round = none) (hn : 1 ≤ n) (l Bs n₀ b off cap : Nat) (zs : List Int) (hreach : zs.length ≤ 1048576) (hb : b < n₀) (J Jx : List (Nat × Int) → World → Prop)
    (hY : ∀ pre x W, J pre W → pre.length < zs.length → YieldAt F (n - 1) Try.prog l #[.int .i64 (x.1 : Int), .int .i64 x.2] W fun e W' =>
      (e = .returned (.bool true) ∧ J (pre ++ [x]) W' ∧ KpB n₀ Bs 22 W W') ∨ (e = .returned (.bool false) ∧ Jx (pre ++ [x]) W'))
    (W : World) (hBs : Boxed W Bs 22 (.slice (some ⟨b, off, none⟩) zs.length cap)) (hc : ∀ j, j < zs.length → W.cell? ⟨b, off + j, none⟩ = some (.int .i64 (zs.getD j 0))) (h0 : J [] W) :
    CallsIn F n Try.prog 83 #[.func (.yield l) #[] #[], .pointer (some ⟨Bs, 0, none⟩)] W fun e W' => (∃ v, e = .returned v) ∧
      ((∃ ys, ys = uptoB (backF zs) zs.length ∧ J ys W') ∨ (∃ pre, (∃ k, k ≤ zs.length ∧ pre = uptoB (backF zs) k) ∧ Jx pre W')) := by
  have hc0 := hBs.cell
  obtain ⟨len, hlen⟩ : ∃ len, len = zs.length := ⟨_, rfl⟩
  rw [← hlen] at hc hc0 hY hreach hBs ⊢
  replace hlen := hide hlen
  replace hBs := hide hBs
  replace hc := hide hc
  refine callsIn_of_wp Try.func83 rfl hf ?_ hro
  simp only [Try.ntmps83, List.size_toArray, List.length_cons, List.length_nil, Nat.reduceAdd, Nat.reduceSub, Array.replicate_succ, Array.replicate_zero, List.push_toArray, List.append_toArray, List.nil_append, List.cons_append]
  gi_wp2
  gi_loopw [3] (fun i wr => ∃ k : Nat, k ≤ len ∧ i = .int .i64 ((len : Int) - 1 - k) ∧ J (uptoB (backF zs) k) wr ∧ Hid (KpB n₀ Bs 22 W wr))
    (fun i _ => (intOf i + 1).toNat)
  case atStart => exact ⟨0, Nat.zero_le _, by simp, h0, kpB_refl _ _ _ _⟩
  case round =>
    obtain ⟨k, hk, rfl, hJs, HK⟩ := hrel
    by_cases hlt : k < len
    · obtain ⟨m, hm⟩ : ∃ m, len = m + (k + 1) := ⟨len - (k + 1), by omega⟩
      have e0 : (len : Int) - 1 - (k : Int) = (m : Int) := by omega
      rw [e0]
      have hml : m < len := by omega
      have hml' : (m : Int) < (len : Int) := by omega
      have hcx : wr.cell? ⟨b, off + m, none⟩ = some (.int .i64 (zs.getD m 0)) := (HK.out.1.cell (p := ⟨b, off + m, none⟩) hb).trans (hc.out m hml)
      have hbx := (HK.out.2 _ hBs.out).cell
      have hbf : backF zs k = (m, zs.getD m 0) := by
        have : zs.length - 1 - k = m := by rw [← hlen.out]; omega
        unfold backF
        rw [this]
      have HS := hide (show uptoB (backF zs) (k + 1) = uptoB (backF zs) k ++ [(m, zs.getD m 0)] by rw [uptoB_succ, hbf])
      obtain ⟨fn, tmps, assign, body, hy, hR⟩ := hY _ (m, zs.getD m 0) wr hJs (by rw [uptoB_length]; exact hlt)
      dsimp only at hy
      have HE := hide e0
      replace hm := hide hm
      generalize zs.getD m 0 = x at hcx hy hR HS
      clear hbf hc0 e0
      gi_wp2
      refine hR.mono ?_
      rintro e W3 (⟨rfl, hJ3, hk3⟩ | ⟨rfl, hJx3⟩)
      · gi_wp2
        go_roundw
        case rel => exact ⟨k + 1, by omega, by (have := HE.out; congr 1; omega), by rw [HS.out]; exact hJ3, kpB_t HK.out hk3⟩
        case measure => first | (simp [intOf]; done) | (simp [intOf]; omega)
      · gi_wp2
        refine bodyPost_ret (results_none rfl _ _ _) rfl ?_
        exact ⟨⟨_, rfl⟩, .inr ⟨_, ⟨k + 1, by omega, HS.out.symm⟩, hJx3⟩⟩
    · obtain rfl : k = len := by omega
      have e0 : (k : Int) - 1 - (k : Int) = -1 := by omega
      rw [e0]
      clear e0
      gi_wp2
      go_end0
      exact ⟨⟨_, rfl⟩, .inl ⟨_, rfl, hJs⟩⟩
end Go.Proofs.Ytaoacpikmpoodaa
