/- The different numbers of a list in ascending order, by the reference (l3Different) and by the program (rising); copies, searches and comparisons by the library; for slices of at most 2^20 numbers. -/
import Derived.Test.YtkimbgehnhcmaaaGreatDoorPut
import Derived.Test.YtkimbgehnhcmaaaGreatDoorCnt
import Derived.Test.YtkimbgehnhcmaaaGreatDoorShelf
import Derived.Lib.OwnBridge
import Derived.Sort.OwnSortedInts
namespace Go.Proofs.YtkimbgehnhcmaaaGreatDoor
open Go.RowKit Go.Lib Go.Sort

set_option maxHeartbeats 1600000 in
theorem l3Different_any (A : Option Addr) (n c : Nat) (xs : List Int) (w : World) (hr : RdI w A n xs) (hn : n ≤ 1048575) :
    Calls Tryz.prog 33 #[.slice A n c] w (RetO w (riseL xs)) := by
  have hlen := hide hr.1
  have HR := hide hr
  clear hr
  go_enter Tryz.func33, Tryz.ntmps33
  go_wp2_with fail
  go_loopw [3, 4] (fun u i wr => ∃ (k m : Nat) (A' : Option Addr) (c' : Nat), k ≤ n ∧ i = .int .i64 k ∧ u = .slice A' m c' ∧ Hid (OwnI wr w.heap.size A' m c' (riseL (xs.take k))) ∧ Hid (Below w.heap.size w wr)) (fun _ i _ => n - (intOf i).toNat)
  case atStart => exact ⟨0, 0, _, _, Nat.zero_le _, rfl, rfl, own_empty _ _ (Nat.le_refl _) _ rfl, (by repeat (first | exact Below.refl _ _ | (refine below_drewN ?_ _) | (refine Below.drew ?_) | (refine Below.alloc ?_ (by first | exact Nat.le_refl _ | (simp; done) | (simp; omega) | omega) _) | (refine Below.setCell ?_ (by first | exact Nat.le_refl _ | (simp; done) | (simp; omega) | omega) _) | (refine Below.trans ?_ (Below.mono (by assumption) (by first | exact Nat.le_refl _ | (simp; done) | (simp; omega) | omega)))))⟩
  case round =>
    obtain ⟨k, m, A', c', hk, rfl, rfl, HO, HB⟩ := hrel
    by_cases hlt : k < n
    · have hlt' : (k : Int) < (n : Int) := by omega
      obtain ⟨b, off, rfl, hbb, hcc⟩ := (HR.out).at_ hlt
      obtain ⟨v, hv⟩ : ∃ v, Hid (xs.getD k 0 = v) := ⟨_, rfl⟩
      have hck : wr.cell? ⟨b, off + k, none⟩ = some (.int .i64 v) := by rw [← hv.out]; exact (HB.out.cell (p := ⟨b, off + k, none⟩) hbb).trans hcc
      have hm : m ≤ 1048575 := by
        have h1 := HO.out.len
        have h2 := rise_len (xs.take k)
        have h3 : (xs.take k).length ≤ k := List.length_take_le _ _
        omega
      have HT : Hid (riseL (xs.take (k + 1)) = putL (riseL (xs.take k)) v) := by
        unfold Hid
        rw [take_snocI xs k (by rw [hlen.out]; exact hlt), rise_snoc, hv.out]
      clear hcc hbb
      go_wp2_with (go_at_call 49; refine (l1Put_any _ _ _ w.heap.size (riseL (xs.take k)) v _ HO.out HB.out.size hm).mono ?_; rintro e w1 ⟨A2, m2, c2, rfl, ho2, hb2⟩; replace ho2 := hide ho2; replace hb2 := hide hb2)
      go_roundw
      case rel => first | exact ⟨k + 1, m2, A2, c2, by omega, by go_num, rfl, by have := ho2.out; rw [HT.out]; exact this, HB.out.trans (hb2.out.mono HB.out.size)⟩ | ((repeat apply Exists.intro); refine ⟨?_, rfl⟩; exact ⟨k + 1, m2, A2, c2, by omega, by go_num, rfl, by have := ho2.out; rw [HT.out]; exact this, HB.out.trans (hb2.out.mono HB.out.size)⟩)
      case measure => first | (simp [intOf]; done) | (simp [intOf]; omega)
    · have hkn : k = n := by omega
      subst hkn
      go_wp2
      go_ret
      have := HO.out
      rw [List.take_of_length_le (by rw [hlen.out]; exact Nat.le_refl _)] at this
      exact RetO.of this HB.out rfl

theorem RdI.cellsAll {w : World} {b off n : Nat} {xs : List Int} (h : RdI w (some ⟨b, off, none⟩) n xs) : ∀ j, j < xs.length → w.cell? ⟨b, off + j, none⟩ = some (.int .i64 (xs.getD j 0)) := by
  intro j hj
  rw [h.1] at hj
  obtain ⟨b', off', e, _, hc⟩ := h.2 (by omega)
  injection e with e
  injection e with e1 e2
  subst e1 e2
  exact hc j hj
theorem RdI.nil_of {w : World} {A : Option Addr} {xs : List Int} (h : RdI w A 0 xs) : xs = [] := List.length_eq_zero_iff.1 h.1
theorem own_of_zero {w : World} {base : Nat} {v : Value} (h : w.ownsRow base 3 1 v 0 []) : ∃ A c, v = .slice A 0 c ∧ OwnI w base A 0 c [] := own_form (xs := []) h

theorem clone_any (A : Option Addr) (n c : Nat) (xs : List Int) (w : World) (hr : RdI w A n xs) (hn : n ≤ 1048576) :
    Calls Tryz.prog 57 #[.slice A n c] w (RetO w xs) := by
  rcases Nat.eq_zero_or_pos n with h0 | h0
  · subst h0
    obtain rfl := hr.nil_of
    cases A with
    | none =>
      refine (Tryz.slices_Clone_int_nil 0 c w).mono ?_
      rintro e w' ⟨rfl, rfl⟩
      exact RetO.of (OwnI.nil _ _) (Below.refl _ _) rfl
    | some a =>
      refine (Tryz.slices_Clone_int_zero a c w).mono ?_
      rintro e w' ⟨v', rfl, ho, _, hb⟩
      obtain ⟨A', c', rfl, hO⟩ := own_of_zero ho
      exact RetO.of hO hb rfl
  · obtain ⟨b, off, rfl, _, _⟩ := hr.2 h0
    refine (Tryz.slices_Clone_int b off n c xs w (by rw [hr.1]; exact Nat.le_refl _) (by omega) hr.cellsAll).mono ?_
    rintro e w' ⟨v', rfl, ho, _, hb⟩
    rw [List.take_of_length_le (by rw [hr.1]; exact Nat.le_refl _)] at ho
    obtain ⟨A', c', rfl, hO⟩ := own_form ho
    exact RetO.of hO hb rfl

theorem below_of_marked {w w' : World} {base : Nat} {A : Option Addr} {n c : Nat} {xs : List Int} (h : OwnI w base A n c xs) (hm : Marked w w' A) (hb : base ≤ w.heap.size) : Below base w w' := h.marks hm hb

theorem sort_any (A : Option Addr) (n c base : Nat) (xs : List Int) (w : World) (ho : OwnI w base A n c xs) (hbase : base ≤ w.heap.size) (hn : n ≤ 1048576) :
    Calls Tryz.prog 58 #[.slice A n c] w fun e w' => e = .returned (.tuple #[]) ∧ OwnI w' base A n c (xs.mergeSort fun x y => decide (x ≤ y)) ∧ Marked w w' A := by
  rcases ho.2 with ⟨e1, e2⟩ | ⟨g, cap, cur, e1, hg, hh, h1, h2, h3, h4⟩
  · injection e1 with e3 e4 e5
    subst e3 e4 e5
    have hx : xs = [] := List.length_eq_zero_iff.1 ho.len
    subst hx
    refine (Tryz.slices_Sort_int_none none 0 w).mono ?_
    rintro e w' ⟨rfl, rfl⟩
    exact ⟨rfl, by simpa using ho, ⟨rfl, rfl, rfl, Nat.le_refl _, fun _ _ _ => rfl⟩⟩
  · injection e1 with e3 e4 e5
    subst e3 e5
    have hl := ho.len
    subst hl
    rw [Nat.mul_one] at h4
    have hH := holds_of_blockI (ss := xs) hh h4
    refine (Tryz.slices_Sort_int g 0 c xs w hH (Array.getElem?_eq_some_iff.1 hh).1 (by omega)).mono ?_
    rintro e w' ⟨rfl, q, os, rfl⟩
    exact ⟨rfl, ownsRow_sortedI (by simp) hg hh h1 h2 h3, grownBy_sortedI _⟩

theorem compact_any (A : Option Addr) (n c base : Nat) (xs : List Int) (w : World) (ho : OwnI w base A n c xs) (hbase : base ≤ w.heap.size) (hn : n ≤ 1048576) :
    Calls Tryz.prog 59 #[.slice A n c] w fun e w' => e = .returned (.slice A (compact xs).length c) ∧ OwnI w' base A (compact xs).length c (compact xs) ∧ Below base w w' := by
  rcases Nat.eq_zero_or_pos n with h0 | h0
  · subst h0
    obtain rfl := ho.rd.nil_of
    refine (Tryz.slices_Compact_int_empty A c w).mono ?_
    rintro e w' ⟨rfl, rfl⟩
    exact ⟨rfl, ho, Below.refl _ _⟩
  · have hroom := ho.room
    obtain ⟨g, cap, e1, hg, hlt, _, hm, hl, hH⟩ := holds_of_ownsRow (enc := Value.int .i64) ho (by intro e; injection e with e1 e2 e3; omega)
    injection e1 with e3 _ e5
    subst e3 e5
    subst hl
    have hk : (compact xs).length ≤ xs.length := by
      have := compact_len xs
      exact this
    refine (Tryz.slices_Compact_int g 0 c xs w hH (by omega) (by omega)).mono ?_
    rintro e w' ⟨rfl, q, rfl⟩
    refine ⟨rfl, ?_, below_putRow (Below.refl _ _) hg⟩
    have := ownsRow_putRow (q := q) ho (ys := compact xs ++ List.replicate (xs.length - (compact xs).length) 0) (by simp; omega) hk
    rw [List.take_left] at this
    exact this

theorem rising_big (A : Option Addr) (n c : Nat) (xs : List Int) (w : World) (hr : RdI w A n xs) (hn : n ≤ 1048576) :
    Calls Tryz.prog 45 #[.slice A n c] w (RetO w (riseL xs)) := by
  have hlen := hide hr.1
  have HR := hide hr
  clear hr
  go_enter Tryz.func45, Tryz.ntmps45
  go_wp2_with fail
  refine (clone_any _ _ _ xs _ HR.out (by omega)).mono ?_
  rintro e w1 ⟨A1, c1, rfl, ho1, hb1⟩
  have hz1 := hb1.size
  have hl1 : xs.length ≤ 1048576 := by rw [hlen.out]; omega
  replace hb1 := hide hb1
  replace ho1 := hide ho1
  go_wp2_with fail
  refine (sort_any _ _ _ _ xs _ ho1.out hz1 hl1).mono ?_
  rintro e w2 ⟨rfl, ho2, hm2⟩
  have hb2 := hide (hb1.out.trans (ho1.out.marks hm2 hz1))
  replace ho2 := hide ho2
  clear hm2
  go_wp2_with fail
  refine (compact_any _ _ _ _ _ _ ho2.out hb2.out.size hl1).mono ?_
  rintro e w3 ⟨rfl, ho3, hb3⟩
  rw [rise_compact] at ho3 ⊢
  go_wp2
  go_ret
  exact ⟨A1, c1, rfl, ho3, hb2.out.trans hb3⟩
theorem rising_any (A : Option Addr) (n c : Nat) (xs : List Int) (w : World) (hr : RdI w A n xs) (hn : n ≤ 1048575) :
    Calls Tryz.prog 45 #[.slice A n c] w (RetO w (riseL xs)) := rising_big A n c xs w hr (by omega)
end Go.Proofs.YtkimbgehnhcmaaaGreatDoor
