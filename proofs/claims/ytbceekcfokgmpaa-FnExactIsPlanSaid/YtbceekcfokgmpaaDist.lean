/- The stack distances of a sequence, by the reference and by the program; StackDistances, DistanceCounts and CurveOf return the same; for slices of at most 2^20 numbers that can be read. -/
import Derived.Test.YtbceekcfokgmpaaLies
import Derived.Test.YtbceekcfokgmpaaLastQ
namespace Go.Proofs.Ytbceekcfokgmpaa
open Go.RowKit
def distAt (xs : List Int) (k : Nat) : Int := if lastAt xs k < 0 then 0 else ((riseL ((xs.drop (lastAt xs k).toNat).take (k - (lastAt xs k).toNat))).length : Int)
def distL (xs : List Int) (m : Nat) : List Int := (List.range m).map (distAt xs)
theorem distL_len (xs : List Int) (m : Nat) : (distL xs m).length = m := by simp [distL]
theorem distL_snoc (xs : List Int) (m : Nat) : distL xs (m + 1) = distL xs m ++ [distAt xs m] := by simp [distL, List.range_succ]
theorem lastL_getD (xs : List Int) (n j : Nat) (h : j < n) : (lastL xs n).getD j 0 = lastAt xs j := by simp [lastL, List.getD, h]
set_option maxHeartbeats 3200000 in
theorem l4Distances_any (A : Option Addr) (n c : Nat) (xs : List Int) (w : World) (hr : RdI w A n xs) (hn : n ≤ 1000) (hroom : n ≤ c) :
    Calls Try.prog 53 #[.slice A n c] w fun e w' => ∃ A' c', e = .returned (.slice A' n c') ∧ OwnI w' w.heap.size A' n c' (distL xs n) ∧ Below w.heap.size w w' := by
  have hlen := hide hr.1
  have HR := hide hr
  clear hr
  go_enter Try.func53, Try.ntmps53
  go_wp2_with (go_at_call 83; refine (l3Last_any _ _ _ xs _ (HR.out.below ((Below.refl _ _).alloc (Nat.le_refl _) _)) (by omega)).mono ?_; rintro e w1 ⟨AN, cN, rfl, hoN, hbN⟩; replace hoN := hide hoN; replace hbN := hide hbN)
  have hz1 : w.heap.size + 1 ≤ w1.heap.size := by have := hbN.out.size; simpa using this
  have HB1 : Hid (Below w.heap.size w w1) := ((Below.refl _ _).alloc (Nat.le_refl _) _).trans (hbN.out.mono (by simp))
  have HO1 : Hid (OwnI w1 w.heap.size (some ⟨w.heap.size, 0, none⟩) 0 0 (distL xs 0)) := (own_empty w w.heap.size (Nat.le_refl _) _ rfl).below hbN.out
  have HNs := hide (hoN.out.lt)
  go_loopw [3, 5] (fun u i wr => ∃ (k : Nat) (A' : Option Addr) (c' : Nat), k ≤ n ∧ i = .int .i64 k ∧ u = .slice A' k c' ∧ Hid (OwnI wr w.heap.size A' k c' (distL xs k)) ∧ Hid (Sep A' AN) ∧ Hid (OwnI wr (w.heap.size + 1) AN n cN (lastL xs n)) ∧ Hid (Below w.heap.size w wr)) (fun _ i _ => n - (intOf i).toNat)
  case atStart => exact ⟨0, _, _, Nat.zero_le _, rfl, rfl, HO1, fun a a' e e' he => by
    injection e with e
    subst e
    have := HNs.out a' e'
    simp at this he
    omega, hide (by have := hoN.out; simpa using this), HB1⟩
  case round =>
    obtain ⟨k, A', c', hk, rfl, rfl, HO, HS, HN, HB⟩ := hrel
    by_cases hlt : k < n
    · have hlt' : (k : Int) < (n : Int) := by omega
      obtain ⟨b0, off0, rfl, _, hc⟩ := (HN.out.rd).at_ hlt
      rw [lastL_getD xs n k hlt] at hc
      obtain ⟨a, ha⟩ : ∃ a, Hid (lastAt xs k = a) := ⟨_, rfl⟩
      have hbd := lastAt_bd xs k
      rw [ha.out] at hc hbd
      obtain ⟨hbd1, hbd2⟩ := hbd
      by_cases h0 : a < 0
      · have HE : Hid (distAt xs k = 0) := by
          unfold distAt Hid
          rw [ha.out, if_pos h0]
        go_wp2_with (at_builtin; refine append_int_lies rfl _ _ rfl w.heap.size A' k c' (distL xs k) _ _ rfl rfl HO.out (by omega) HB.out.size ?_; intro A2 c2 w2 ho' hb' hg' hl'; have HN2 := hide (HN.out.marked hg' HS.out.symm); have HS2 := hide (sep_lies hl' HS.out HN.out.lt); clear hl'; replace ho' := hide ho'; replace hb' := hide hb'; clear hg')
        go_roundw
        case rel => first | exact ⟨k + 1, A2, c2, by omega, by go_num, rfl, by have := ho'.out; rw [distL_snoc, HE.out]; exact this, HS2, HN2, HB.out.trans hb'.out⟩ | ((repeat apply Exists.intro); refine ⟨?_, rfl⟩; exact ⟨k + 1, A2, c2, by omega, by go_num, rfl, by have := ho'.out; rw [distL_snoc, HE.out]; exact this, HS2, HN2, HB.out.trans hb'.out⟩)
        case measure => first | (simp [intOf]; done) | (simp [intOf]; omega)
      · obtain ⟨p, rfl⟩ := Int.eq_ofNat_of_zero_le (show 0 ≤ a by omega)
        have hpk : p < k := by omega
        obtain ⟨b, off, rfl, _, _⟩ := (HR.out).at_ hlt
        have HSB := hide ((HR.out.below HB.out).sub p k (by omega) (by omega))
        obtain ⟨L, hL⟩ : ∃ L : Nat, Hid ((riseL ((xs.drop p).take (k - p))).length = L) := ⟨_, rfl⟩
        have HE : Hid (distAt xs k = (L : Int)) := by
          unfold distAt Hid
          rw [ha.out, if_neg h0, ← hL.out]
          rfl
        have h0' : ¬ (p : Int) < 0 := by omega
        have hL2 : L ≤ 1000 := by
          rw [← hL.out]
          have h1 := rise_len ((xs.drop p).take (k - p))
          have h2 : ((xs.drop p).take (k - p)).length ≤ k - p := List.length_take_le _ _
          omega
        have e1 : ¬ c = p := by omega
        have e2 : p ≤ k := by omega
        have e3 : (p : Int) ≤ (k : Int) := by omega
        have e4 : k ≤ c := by omega
        have e5 : (k : Int) ≤ (c : Int) := by omega
        have e8 : k - p ≤ 1048575 := by omega
        clear h0
        go_wp2_with (first
          | (go_at_call 45; refine (l3Different_any _ _ _ _ _ HSB.out e8).mono ?_; rintro e w2 ⟨A1, c1, rfl, ho1, hb1⟩; rw [hL.out]; have HOw := hide (HO.out.below hb1); have HNw := hide (HN.out.below hb1); have HBw := hide (HB.out.trans (hb1.mono HB.out.size)); clear ho1 hb1)
          | (at_builtin; refine append_int_lies rfl _ _ rfl w.heap.size A' k c' (distL xs k) _ _ rfl rfl HOw.out (by omega) HBw.out.size ?_; intro A2 c2 w3 ho' hb' hg' hl'; have HN2 := hide (HNw.out.marked hg' HS.out.symm); have HS2 := hide (sep_lies hl' HS.out HNw.out.lt); clear hl'; replace ho' := hide ho'; replace hb' := hide hb'; clear hg'))
        go_roundw
        case rel => first | exact ⟨k + 1, A2, c2, by omega, by go_num, rfl, by have := ho'.out; rw [distL_snoc, HE.out]; exact this, HS2, HN2, HBw.out.trans hb'.out⟩ | ((repeat apply Exists.intro); refine ⟨?_, rfl⟩; exact ⟨k + 1, A2, c2, by omega, by go_num, rfl, by have := ho'.out; rw [distL_snoc, HE.out]; exact this, HS2, HN2, HBw.out.trans hb'.out⟩)
        case measure => first | (simp [intOf]; done) | (simp [intOf]; omega)
    · have hkn : k = n := by omega
      subst hkn
      go_wp2
      go_ret
      exact ⟨A', c', rfl, HO.out, HB.out⟩
set_option maxHeartbeats 3200000 in
theorem stackDistances_any (A : Option Addr) (n c : Nat) (xs : List Int) (w : World) (hr : RdI w A n xs) (hn : n ≤ 1000) (hroom : n ≤ c) :
    Calls Try.prog 54 #[.slice A n c] w fun e w' => ∃ A' c', e = .returned (.slice A' n c') ∧ OwnI w' w.heap.size A' n c' (distL xs n) ∧ Below w.heap.size w w' := by
  have hlen := hide hr.1
  have HR := hide hr
  clear hr
  go_enter Try.func54, Try.ntmps54
  go_wp2_with (go_at_call 84; refine (lastUses_any _ _ _ xs _ (HR.out.below ((Below.refl _ _).alloc (Nat.le_refl _) _)) (by omega)).mono ?_; rintro e w1 ⟨AN, cN, rfl, hoN, hbN⟩; replace hoN := hide hoN; replace hbN := hide hbN)
  have hz1 : w.heap.size + 1 ≤ w1.heap.size := by have := hbN.out.size; simpa using this
  have HB1 : Hid (Below w.heap.size w w1) := ((Below.refl _ _).alloc (Nat.le_refl _) _).trans (hbN.out.mono (by simp))
  have HO1 : Hid (OwnI w1 w.heap.size (some ⟨w.heap.size, 0, none⟩) 0 0 (distL xs 0)) := (own_empty w w.heap.size (Nat.le_refl _) _ rfl).below hbN.out
  have HNs := hide (hoN.out.lt)
  go_loopw [3, 4, 5, 10] (fun u _ _ i wr => ∃ (k : Nat) (A' : Option Addr) (c' : Nat), k ≤ n ∧ i = .int .i64 k ∧ u = .slice A' k c' ∧ Hid (OwnI wr w.heap.size A' k c' (distL xs k)) ∧ Hid (Sep A' AN) ∧ Hid (OwnI wr (w.heap.size + 1) AN n cN (lastL xs n)) ∧ Hid (Below w.heap.size w wr)) (fun _ _ _ i _ => n - (intOf i).toNat)
  case atStart => exact ⟨0, _, _, Nat.zero_le _, rfl, rfl, HO1, fun a a' e e' he => by
    injection e with e
    subst e
    have := HNs.out a' e'
    simp at this he
    omega, hide (by have := hoN.out; simpa using this), HB1⟩
  case round =>
    obtain ⟨k, A', c', hk, rfl, rfl, HO, HS, HN, HB⟩ := hrel
    by_cases hlt : k < n
    · have hlt' : (k : Int) < (n : Int) := by omega
      obtain ⟨b0, off0, rfl, _, hc⟩ := (HN.out.rd).at_ hlt
      rw [lastL_getD xs n k hlt] at hc
      obtain ⟨a, ha⟩ : ∃ a, Hid (lastAt xs k = a) := ⟨_, rfl⟩
      have hbd := lastAt_bd xs k
      rw [ha.out] at hc hbd
      obtain ⟨hbd1, hbd2⟩ := hbd
      by_cases h0 : a < 0
      · have HE : Hid (distAt xs k = 0) := by
          unfold distAt Hid
          rw [ha.out, if_pos h0]
        go_wp2_with (at_builtin; refine append_int_lies rfl _ _ rfl w.heap.size A' k c' (distL xs k) _ _ rfl rfl HO.out (by omega) HB.out.size ?_; intro A2 c2 w2 ho' hb' hg' hl'; have HN2 := hide (HN.out.marked hg' HS.out.symm); have HS2 := hide (sep_lies hl' HS.out HN.out.lt); clear hl'; replace ho' := hide ho'; replace hb' := hide hb'; clear hg')
        go_roundw
        case rel => first | exact ⟨k + 1, A2, c2, by omega, by go_num, rfl, by have := ho'.out; rw [distL_snoc, HE.out]; exact this, HS2, HN2, HB.out.trans hb'.out⟩ | ((repeat apply Exists.intro); refine ⟨?_, rfl⟩; exact ⟨k + 1, A2, c2, by omega, by go_num, rfl, by have := ho'.out; rw [distL_snoc, HE.out]; exact this, HS2, HN2, HB.out.trans hb'.out⟩)
        case measure => first | (simp [intOf]; done) | (simp [intOf]; omega)
      · obtain ⟨p, rfl⟩ := Int.eq_ofNat_of_zero_le (show 0 ≤ a by omega)
        have hpk : p < k := by omega
        obtain ⟨b, off, rfl, _, _⟩ := (HR.out).at_ hlt
        have HSB := hide ((HR.out.below HB.out).sub p k (by omega) (by omega))
        obtain ⟨L, hL⟩ : ∃ L : Nat, Hid ((riseL ((xs.drop p).take (k - p))).length = L) := ⟨_, rfl⟩
        have HE : Hid (distAt xs k = (L : Int)) := by
          unfold distAt Hid
          rw [ha.out, if_neg h0, ← hL.out]
          rfl
        have h0' : ¬ (p : Int) < 0 := by omega
        have hL2 : L ≤ 1000 := by
          rw [← hL.out]
          have h1 := rise_len ((xs.drop p).take (k - p))
          have h2 : ((xs.drop p).take (k - p)).length ≤ k - p := List.length_take_le _ _
          omega
        have e1 : ¬ c = p := by omega
        have e2 : p ≤ k := by omega
        have e3 : (p : Int) ≤ (k : Int) := by omega
        have e4 : k ≤ c := by omega
        have e5 : (k : Int) ≤ (c : Int) := by omega
        have e8 : k - p ≤ 1048575 := by omega
        clear h0
        go_wp2_with (first
          | (go_at_call 48; refine (rising_any _ _ _ _ _ HSB.out e8).mono ?_; rintro e w2 ⟨A1, c1, rfl, ho1, hb1⟩; rw [hL.out]; have HOw := hide (HO.out.below hb1); have HNw := hide (HN.out.below hb1); have HBw := hide (HB.out.trans (hb1.mono HB.out.size)); clear ho1 hb1)
          | (at_builtin; refine append_int_lies rfl _ _ rfl w.heap.size A' k c' (distL xs k) _ _ rfl rfl HOw.out (by omega) HBw.out.size ?_; intro A2 c2 w3 ho' hb' hg' hl'; have HN2 := hide (HNw.out.marked hg' HS.out.symm); have HS2 := hide (sep_lies hl' HS.out HNw.out.lt); clear hl'; replace ho' := hide ho'; replace hb' := hide hb'; clear hg'))
        go_roundw
        case rel => first | exact ⟨k + 1, A2, c2, by omega, by go_num, rfl, by have := ho'.out; rw [distL_snoc, HE.out]; exact this, HS2, HN2, HBw.out.trans hb'.out⟩ | ((repeat apply Exists.intro); refine ⟨?_, rfl⟩; exact ⟨k + 1, A2, c2, by omega, by go_num, rfl, by have := ho'.out; rw [distL_snoc, HE.out]; exact this, HS2, HN2, HBw.out.trans hb'.out⟩)
        case measure => first | (simp [intOf]; done) | (simp [intOf]; omega)
    · have hkn : k = n := by omega
      subst hkn
      go_wp2
      go_ret
      exact ⟨A', c', rfl, HO.out, HB.out⟩
end Go.Proofs.Ytbceekcfokgmpaa
