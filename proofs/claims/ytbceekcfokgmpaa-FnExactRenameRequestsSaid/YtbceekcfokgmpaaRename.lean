/- RenameRequests: the reference and the program return the same; for slices of at most 2^20 numbers that can be read. -/
import Derived.Test.YtbceekcfokgmpaaDistF
namespace Go.Proofs.Ytbceekcfokgmpaa
open Go.RowKit
/-- Each number below n once. -/
def orderB (q : Int) (ys : List Int) : Bool := decide ((ys.length : Int) = q) && (belowB q ys && decide (((riseL ys).length : Int) = q))
def renOk (q : Int) (xs ys : List Int) : Bool := reqB q xs && orderB q ys
def renL (xs ys : List Int) : List Int := xs.map fun x => ys.getD x.toNat 0
def renameRequestsV (q : Int) (xs ys : List Int) : List Int × Bool := if renOk q xs ys = true then (renL xs ys, true) else ([], false)
theorem renameRequestsV_len (q : Int) (xs ys : List Int) (h : xs.length ≤ 1048576) (_ : ys.length ≤ 1048576) : (renameRequestsV q xs ys).1.length ≤ 1048576 := by
  unfold renameRequestsV
  split
  · simp [renL]; omega
  · simp
theorem renL_snoc (xs ys : List Int) (k : Nat) (hk : k < xs.length) : renL (xs.take (k + 1)) ys = renL (xs.take k) ys ++ [ys.getD (xs.getD k 0).toNat 0] := by
  rw [take_snocI xs k hk]
  simp [renL]
set_option maxHeartbeats 1600000 in
theorem l3Order_any (q : Int) (A : Option Addr) (n c : Nat) (ys : List Int) (w : World) (hr : RdI w A n ys) (hn : n ≤ 1048576) (hq : q ≤ 8) :
    Calls Try.prog 41 #[.int .i64 q, .slice A n c] w fun e w' => e = .returned (.bool (orderB q ys)) ∧ Below w.heap.size w w' := by
  have hl := hr.1
  by_cases h1 : (n : Int) = q
  · subst h1
    have HR := hide hr
    have hd : ((n : Int) == (n : Int)) = true := by simp
    cases h2 : belowB n ys
    · have HV := hide (show orderB n ys = false by unfold orderB; rw [h2]; simp)
      replace h2 := hide h2
      clear hr hl
      go_enter Try.func41, Try.ntmps41
      go_wp2_with (first | (go_at_call 78; refine (l3List_any _ _ _ ys _ _ HR.out hn (by omega) (by omega)).mono ?_; rintro e w1 ⟨rfl, rfl⟩; rw [h2.out]))
      go_ret
      exact ⟨ret_bool HV.out.symm, Below.refl _ _⟩
    · obtain ⟨L, hL⟩ : ∃ L : Nat, Hid ((riseL ys).length = L) := ⟨_, rfl⟩
      have hL2 := rise_len ys
      rw [hL.out, hl] at hL2
      have HV := hide (show orderB n ys = ((L : Int) == (n : Int)) by unfold orderB; rw [h2, hl, hL.out]; by_cases e : (L : Int) = (n : Int) <;> simp [e])
      replace h2 := hide h2
      clear hr hl
      go_enter Try.func41, Try.ntmps41
      go_wp2_with (first | (go_at_call 78; refine (l3List_any _ _ _ ys _ _ HR.out hn (by omega) (by omega)).mono ?_; rintro e w1 ⟨rfl, rfl⟩; rw [h2.out]) | (go_at_call 45; refine (l3Different_any _ _ _ ys _ HR.out (by omega)).mono ?_; rintro e w2 ⟨A2, c2, rfl, _, hb⟩; rw [hL.out]))
      go_ret
      exact ⟨ret_bool (by rw [HV.out]), hb⟩
  · have HV := hide (show orderB q ys = false by unfold orderB; rw [hl]; simp [h1])
    have hd : ((n : Int) == q) = false := by simpa using h1
    clear h1 hr hl
    go_enter Try.func41, Try.ntmps41
    go_wp2
    go_ret
    exact ⟨ret_bool HV.out.symm, Below.refl _ _⟩
set_option maxHeartbeats 1600000 in
theorem isOrder_any (q : Int) (A : Option Addr) (n c : Nat) (ys : List Int) (w : World) (hr : RdI w A n ys) (hn : n ≤ 1048576) (hq : q ≤ 8) :
    Calls Try.prog 43 #[.int .i64 q, .slice A n c] w fun e w' => e = .returned (.bool (orderB q ys)) ∧ Below w.heap.size w w' := by
  have hl := hr.1
  by_cases h1 : (n : Int) = q
  · subst h1
    have HR := hide hr
    have hd : ((n : Int) == (n : Int)) = true := by simp
    cases h2 : belowB n ys
    · have HV := hide (show orderB n ys = false by unfold orderB; rw [h2]; simp)
      replace h2 := hide h2
      clear hr hl
      go_enter Try.func43, Try.ntmps43
      go_wp2_with (first | (go_at_call 57; refine (areBelow_any _ _ _ ys _ _ HR.out hn (by omega) (by omega)).mono ?_; rintro e w1 ⟨rfl, hb1⟩; have HR1 := hide (HR.out.below hb1); replace hb1 := hide hb1; rw [h2.out]))
      go_ret
      exact ⟨ret_bool HV.out.symm, hb1.out⟩
    · obtain ⟨L, hL⟩ : ∃ L : Nat, Hid ((riseL ys).length = L) := ⟨_, rfl⟩
      have hL2 := rise_len ys
      rw [hL.out, hl] at hL2
      have HV := hide (show orderB n ys = ((L : Int) == (n : Int)) by unfold orderB; rw [h2, hl, hL.out]; by_cases e : (L : Int) = (n : Int) <;> simp [e])
      replace h2 := hide h2
      clear hr hl
      go_enter Try.func43, Try.ntmps43
      go_wp2_with (first | (go_at_call 57; refine (areBelow_any _ _ _ ys _ _ HR.out hn (by omega) (by omega)).mono ?_; rintro e w1 ⟨rfl, hb1⟩; have HR1 := hide (HR.out.below hb1); replace hb1 := hide hb1; rw [h2.out]) | (go_at_call 48; refine (rising_any _ _ _ ys _ HR1.out (by omega)).mono ?_; rintro e w2 ⟨A2, c2, rfl, _, hb2⟩; have hb := hb1.out.trans (hb2.mono hb1.out.size); rw [hL.out]))
      go_ret
      exact ⟨ret_bool (by rw [HV.out]), hb⟩
  · have HV := hide (show orderB q ys = false by unfold orderB; rw [hl]; simp [h1])
    have hd : ((n : Int) == q) = false := by simpa using h1
    clear h1 hr hl
    go_enter Try.func43, Try.ntmps43
    go_wp2
    go_ret
    exact ⟨ret_bool HV.out.symm, Below.refl _ _⟩
set_option maxHeartbeats 3200000 in
theorem spec_RenameRequests (q : Int) (A : Option Addr) (n c : Nat) (xs : List Int) (A2 : Option Addr) (n2 c2 : Nat) (ys : List Int) (w : World) (_ : -9223372036854775808 ≤ q) (_ : q ≤ 9223372036854775807) (hr : RdI w A n xs) (hn : n ≤ 1048576) (_ : ∀ x ∈ xs, -9223372036854775808 ≤ x ∧ x ≤ 9223372036854775807) (hr2 : RdI w A2 n2 ys) (hn2 : n2 ≤ 1048576) (_ : ∀ x ∈ ys, -9223372036854775808 ≤ x ∧ x ≤ 9223372036854775807) :
    Calls Try.prog 13 #[.int .i64 q, .slice A n c, .slice A2 n2 c2] w (RetI w (renameRequestsV q xs ys)) := by
  cases hg : reqB q xs
  · have HV := hide (show renameRequestsV q xs ys = ([], false) by unfold renameRequestsV renOk; rw [hg]; rfl)
    replace hg := hide hg
    go_enter Try.func13, Try.ntmps13
    go_wp2_with (first | (go_at_call 40; refine (l3Good_any _ _ _ xs _ _ (RdI.below hr (by repeat (first | exact Below.refl _ _ | (refine below_drewN ?_ _) | (refine Below.drew ?_) | (refine Below.alloc ?_ (by first | exact Nat.le_refl _ | (simp; done) | (simp; omega) | omega) _) | (refine Below.setCell ?_ (by first | exact Nat.le_refl _ | (simp; done) | (simp; omega) | omega) _) | (refine Below.trans ?_ (Below.mono (by assumption) (by first | exact Nat.le_refl _ | (simp; done) | (simp; omega) | omega)))))) hn).mono ?_; rintro e w1 ⟨rfl, rfl⟩; rw [hg.out]))
    go_ret2
    exact RetI.of (own_empty _ _ (Nat.le_refl _) _ rfl) (by repeat (first | exact Below.refl _ _ | (refine below_drewN ?_ _) | (refine Below.drew ?_) | (refine Below.alloc ?_ (by first | exact Nat.le_refl _ | (simp; done) | (simp; omega) | omega) _) | (refine Below.setCell ?_ (by first | exact Nat.le_refl _ | (simp; done) | (simp; omega) | omega) _) | (refine Below.trans ?_ (Below.mono (by assumption) (by first | exact Nat.le_refl _ | (simp; done) | (simp; omega) | omega))))) HV.out
  · obtain ⟨q1, q2, q3, q4⟩ := reqB_parts hg
    have hl := hr.1
    have hl2 := hr2.1
    replace hg := hide hg
    have HX := hide hr
    have HY := hide hr2
    cases ho : orderB q ys
    · have HV := hide (show renameRequestsV q xs ys = ([], false) by unfold renameRequestsV renOk; rw [ho]; simp)
      replace ho := hide ho
      replace hl := hide hl
      replace hl2 := hide hl2
      replace q4 := hide q4
      go_enter Try.func13, Try.ntmps13
      go_wp2_with fail
      refine (l3Good_any _ _ _ xs _ _ (hr.below (by repeat (first | exact Below.refl _ _ | (refine below_drewN ?_ _) | (refine Below.drew ?_) | (refine Below.alloc ?_ (by first | exact Nat.le_refl _ | (simp; done) | (simp; omega) | omega) _) | (refine Below.setCell ?_ (by first | exact Nat.le_refl _ | (simp; done) | (simp; omega) | omega) _) | (refine Below.trans ?_ (Below.mono (by assumption) (by first | exact Nat.le_refl _ | (simp; done) | (simp; omega) | omega)))))) hn).mono ?_
      rintro e w1 ⟨rfl, rfl⟩
      rw [hg.out]
      go_wp2_with fail
      refine (l3Order_any _ _ _ _ ys _ (hr2.below (by repeat (first | exact Below.refl _ _ | (refine below_drewN ?_ _) | (refine Below.drew ?_) | (refine Below.alloc ?_ (by first | exact Nat.le_refl _ | (simp; done) | (simp; omega) | omega) _) | (refine Below.setCell ?_ (by first | exact Nat.le_refl _ | (simp; done) | (simp; omega) | omega) _) | (refine Below.trans ?_ (Below.mono (by assumption) (by first | exact Nat.le_refl _ | (simp; done) | (simp; omega) | omega)))))) hn2 q2).mono ?_
      rintro e w1 ⟨rfl, hb1⟩
      rw [ho.out]
      have HB1 := hide ((show Below w.heap.size w (w.alloc (.cells #[] 3)) from (by repeat (first | exact Below.refl _ _ | (refine below_drewN ?_ _) | (refine Below.drew ?_) | (refine Below.alloc ?_ (by first | exact Nat.le_refl _ | (simp; done) | (simp; omega) | omega) _) | (refine Below.setCell ?_ (by first | exact Nat.le_refl _ | (simp; done) | (simp; omega) | omega) _) | (refine Below.trans ?_ (Below.mono (by assumption) (by first | exact Nat.le_refl _ | (simp; done) | (simp; omega) | omega)))))).trans (hb1.mono (by simp)))
      have HO1 := hide ((own_empty w w.heap.size (Nat.le_refl _) _ rfl).below hb1)
      clear hb1 hr hr2
      go_wp2
      go_ret2
      exact RetI.of HO1.out HB1.out HV.out
    · have HV := hide (show renameRequestsV q xs ys = (renL xs ys, true) by unfold renameRequestsV renOk; rw [hg.out, ho]; rfl)
      have hnq : (n2 : Int) = q := by
        unfold orderB at ho
        rw [hl2] at ho
        simp only [Bool.and_eq_true, decide_eq_true_eq] at ho
        exact ho.1
      have HZ := hide (fun k (hk : k < xs.length) => (show 0 ≤ xs.getD k 0 ∧ xs.getD k 0 < (n2 : Int) by have := belowB_get q4 k hk; omega))
      replace ho := hide ho
      replace hl := hide hl
      replace hl2 := hide hl2
      replace hnq := hide hnq
      replace q4 := hide q4
      have hn3 : n ≤ 60 := by rw [← hl.out]; exact q3
      go_enter Try.func13, Try.ntmps13
      go_wp2_with fail
      refine (l3Good_any _ _ _ xs _ _ (hr.below (by repeat (first | exact Below.refl _ _ | (refine below_drewN ?_ _) | (refine Below.drew ?_) | (refine Below.alloc ?_ (by first | exact Nat.le_refl _ | (simp; done) | (simp; omega) | omega) _) | (refine Below.setCell ?_ (by first | exact Nat.le_refl _ | (simp; done) | (simp; omega) | omega) _) | (refine Below.trans ?_ (Below.mono (by assumption) (by first | exact Nat.le_refl _ | (simp; done) | (simp; omega) | omega)))))) hn).mono ?_
      rintro e w1 ⟨rfl, rfl⟩
      rw [hg.out]
      go_wp2_with fail
      refine (l3Order_any _ _ _ _ ys _ (hr2.below (by repeat (first | exact Below.refl _ _ | (refine below_drewN ?_ _) | (refine Below.drew ?_) | (refine Below.alloc ?_ (by first | exact Nat.le_refl _ | (simp; done) | (simp; omega) | omega) _) | (refine Below.setCell ?_ (by first | exact Nat.le_refl _ | (simp; done) | (simp; omega) | omega) _) | (refine Below.trans ?_ (Below.mono (by assumption) (by first | exact Nat.le_refl _ | (simp; done) | (simp; omega) | omega)))))) hn2 q2).mono ?_
      rintro e w1 ⟨rfl, hb1⟩
      rw [ho.out]
      have HB1 := hide ((show Below w.heap.size w (w.alloc (.cells #[] 3)) from (by repeat (first | exact Below.refl _ _ | (refine below_drewN ?_ _) | (refine Below.drew ?_) | (refine Below.alloc ?_ (by first | exact Nat.le_refl _ | (simp; done) | (simp; omega) | omega) _) | (refine Below.setCell ?_ (by first | exact Nat.le_refl _ | (simp; done) | (simp; omega) | omega) _) | (refine Below.trans ?_ (Below.mono (by assumption) (by first | exact Nat.le_refl _ | (simp; done) | (simp; omega) | omega)))))).trans (hb1.mono (by simp)))
      have HO1 := hide ((own_empty w w.heap.size (Nat.le_refl _) _ rfl).below hb1)
      clear hb1 hr hr2
      go_wp2_with fail
      go_loopw [8, 9] (fun u i wr => ∃ (k : Nat) (A' : Option Addr) (c' : Nat), k ≤ n ∧ i = .int .i64 k ∧ u = .slice A' k c' ∧ Hid (OwnI wr w.heap.size A' k c' (renL (xs.take k) ys)) ∧ Hid (Below w.heap.size w wr)) (fun _ i _ => n - (intOf i).toNat)
      case atStart => exact ⟨0, _, _, Nat.zero_le _, rfl, rfl, HO1, HB1⟩
      case round =>
        obtain ⟨k, A', c', hk, rfl, rfl, HO, HB⟩ := hrel
        by_cases hlt : k < n
        · have hlt' : (k : Int) < (n : Int) := by omega
          obtain ⟨b, off, rfl, _, hc⟩ := (HX.out.below HB.out).at_ hlt
          obtain ⟨z1, z2⟩ := HZ.out k (by rw [hl.out]; exact hlt)
          obtain ⟨p, hp⟩ := Int.eq_ofNat_of_zero_le z1
          have HP := hide hp
          rw [hp] at hc z2
          clear hp z1
          have hpn : p < n2 := by omega
          obtain ⟨b2, off2, rfl, _, hc2⟩ := (HY.out.below HB.out).at_ hpn
          obtain ⟨v, hv⟩ : ∃ v, Hid (ys.getD p 0 = v) := ⟨_, rfl⟩
          rw [hv.out] at hc2
          have HE : Hid (renL (xs.take (k + 1)) ys = renL (xs.take k) ys ++ [v]) := by
            unfold Hid
            rw [renL_snoc xs ys k (by rw [hl.out]; exact hlt), HP.out, ← hv.out]
            rfl
          have hp0 : (0 : Int) ≤ (p : Int) := by omega
          go_wp2_with (at_builtin; refine append_int rfl _ _ rfl w.heap.size A' k c' (renL (xs.take k) ys) _ _ rfl rfl HO.out (by omega) HB.out.size ?_; intro A3 c3 w3 ho3 hb3 hg3; replace ho3 := hide ho3; replace hb3 := hide hb3; clear hg3)
          go_roundw
          case rel => first | exact ⟨k + 1, A3, c3, by omega, by go_num, rfl, by have := ho3.out; rw [HE.out]; exact this, HB.out.trans hb3.out⟩ | ((repeat apply Exists.intro); refine ⟨?_, rfl⟩; exact ⟨k + 1, A3, c3, by omega, by go_num, rfl, by have := ho3.out; rw [HE.out]; exact this, HB.out.trans hb3.out⟩)
          case measure => first | (simp [intOf]; done) | (simp [intOf]; omega)
        · have hkn : k = n := by omega
          subst hkn
          have HT : Hid (renL (xs.take k) ys = renL xs ys) := by
            unfold Hid
            rw [List.take_of_length_le (by rw [hl.out]; exact Nat.le_refl _)]
          rw [HT.out] at HO
          go_wp2
          go_ret2
          exact RetI.of HO.out HB.out HV.out
set_option maxHeartbeats 3200000 in
theorem impl_RenameRequests (q : Int) (A : Option Addr) (n c : Nat) (xs : List Int) (A2 : Option Addr) (n2 c2 : Nat) (ys : List Int) (w : World) (_ : -9223372036854775808 ≤ q) (_ : q ≤ 9223372036854775807) (hr : RdI w A n xs) (hn : n ≤ 1048576) (_ : ∀ x ∈ xs, -9223372036854775808 ≤ x ∧ x ≤ 9223372036854775807) (hr2 : RdI w A2 n2 ys) (hn2 : n2 ≤ 1048576) (_ : ∀ x ∈ ys, -9223372036854775808 ≤ x ∧ x ≤ 9223372036854775807) :
    Calls Try.prog 15 #[.int .i64 q, .slice A n c, .slice A2 n2 c2] w (RetI w (renameRequestsV q xs ys)) := by
  cases hg : reqB q xs
  · have HV := hide (show renameRequestsV q xs ys = ([], false) by unfold renameRequestsV renOk; rw [hg]; rfl)
    replace hg := hide hg
    go_enter Try.func15, Try.ntmps15
    go_wp2_with (first | (go_at_call 42; refine (isRequests_any _ _ _ xs _ _ hr hn).mono ?_; rintro e wa ⟨rfl, hba⟩; rw [hg.out]))
    go_ret2
    exact RetI.of (OwnI.nil _ _) hba HV.out
  · obtain ⟨q1, q2, q3, q4⟩ := reqB_parts hg
    have hl := hr.1
    have hl2 := hr2.1
    replace hg := hide hg
    have HX := hide hr
    have HY := hide hr2
    cases ho : orderB q ys
    · have HV := hide (show renameRequestsV q xs ys = ([], false) by unfold renameRequestsV renOk; rw [ho]; simp)
      replace ho := hide ho
      replace hl := hide hl
      replace hl2 := hide hl2
      replace q4 := hide q4
      go_enter Try.func15, Try.ntmps15
      go_wp2_with fail
      refine (isRequests_any _ _ _ xs _ _ hr hn).mono ?_
      rintro e wa ⟨rfl, hba⟩
      rw [hg.out]
      have HYa := hide (hr2.below hba)
      have HBA := hide hba
      clear hr hr2 hba
      go_wp2_with fail
      refine (isOrder_any _ _ _ _ ys _ HYa.out hn2 q2).mono ?_
      rintro e w1 ⟨rfl, hb1⟩
      rw [ho.out]
      have HB1 := hide (HBA.out.trans (hb1.mono HBA.out.size))
      clear hb1
      go_wp2
      go_ret2
      exact RetI.of (OwnI.nil _ _) HB1.out HV.out
    · have HV := hide (show renameRequestsV q xs ys = (renL xs ys, true) by unfold renameRequestsV renOk; rw [hg.out, ho]; rfl)
      have hnq : (n2 : Int) = q := by
        unfold orderB at ho
        rw [hl2] at ho
        simp only [Bool.and_eq_true, decide_eq_true_eq] at ho
        exact ho.1
      have HZ := hide (fun k (hk : k < xs.length) => (show 0 ≤ xs.getD k 0 ∧ xs.getD k 0 < (n2 : Int) by have := belowB_get q4 k hk; omega))
      replace ho := hide ho
      replace hl := hide hl
      replace hl2 := hide hl2
      replace hnq := hide hnq
      replace q4 := hide q4
      have hn3 : n ≤ 60 := by rw [← hl.out]; exact q3
      go_enter Try.func15, Try.ntmps15
      go_wp2_with fail
      refine (isRequests_any _ _ _ xs _ _ hr hn).mono ?_
      rintro e wa ⟨rfl, hba⟩
      rw [hg.out]
      have HYa := hide (hr2.below hba)
      have HBA := hide hba
      clear hr hr2 hba
      go_wp2_with fail
      refine (isOrder_any _ _ _ _ ys _ HYa.out hn2 q2).mono ?_
      rintro e w1 ⟨rfl, hb1⟩
      rw [ho.out]
      have HB1 := hide (HBA.out.trans (hb1.mono HBA.out.size))
      clear hb1
      go_wp2_with fail
      go_loopw [8, 10, 24] (fun u _ i wr => ∃ (k : Nat) (A' : Option Addr) (c' : Nat), k ≤ n ∧ i = .int .i64 k ∧ u = .slice A' k c' ∧ Hid (OwnI wr w1.heap.size A' k c' (renL (xs.take k) ys)) ∧ Hid (Below w.heap.size w wr) ∧ Hid (w1.heap.size ≤ wr.heap.size)) (fun _ _ i _ => n - (intOf i).toNat)
      case atStart => exact ⟨0, _, _, Nat.zero_le _, rfl, rfl, own_empty _ _ (Nat.le_refl _) _ rfl, HB1.out.alloc HB1.out.size _, by simp [Hid]⟩
      case round =>
        obtain ⟨k, A', c', hk, rfl, rfl, HO, HB, HZ1⟩ := hrel
        by_cases hlt : k < n
        · have hlt' : (k : Int) < (n : Int) := by omega
          obtain ⟨b, off, rfl, _, hc⟩ := (HX.out.below HB.out).at_ hlt
          obtain ⟨z1, z2⟩ := HZ.out k (by rw [hl.out]; exact hlt)
          obtain ⟨p, hp⟩ := Int.eq_ofNat_of_zero_le z1
          have HP := hide hp
          rw [hp] at hc z2
          clear hp z1
          have hpn : p < n2 := by omega
          obtain ⟨b2, off2, rfl, _, hc2⟩ := (HY.out.below HB.out).at_ hpn
          obtain ⟨v, hv⟩ : ∃ v, Hid (ys.getD p 0 = v) := ⟨_, rfl⟩
          rw [hv.out] at hc2
          have HE : Hid (renL (xs.take (k + 1)) ys = renL (xs.take k) ys ++ [v]) := by
            unfold Hid
            rw [renL_snoc xs ys k (by rw [hl.out]; exact hlt), HP.out, ← hv.out]
            rfl
          have hp0 : (0 : Int) ≤ (p : Int) := by omega
          go_wp2_with (at_builtin; refine append_int rfl _ _ rfl w1.heap.size A' k c' (renL (xs.take k) ys) _ _ rfl rfl HO.out (by omega) HZ1.out ?_; intro A3 c3 w3 ho3 hb3 hg3; replace ho3 := hide ho3; replace hb3 := hide hb3; clear hg3)
          go_roundw
          case rel => first | exact ⟨k + 1, A3, c3, by omega, by go_num, rfl, by have := ho3.out; rw [HE.out]; exact this, HB.out.trans (hb3.out.mono HB1.out.size), Nat.le_trans HZ1.out hb3.out.size⟩ | ((repeat apply Exists.intro); refine ⟨?_, rfl⟩; exact ⟨k + 1, A3, c3, by omega, by go_num, rfl, by have := ho3.out; rw [HE.out]; exact this, HB.out.trans (hb3.out.mono HB1.out.size), Nat.le_trans HZ1.out hb3.out.size⟩)
          case measure => first | (simp [intOf]; done) | (simp [intOf]; omega)
        · have hkn : k = n := by omega
          subst hkn
          have HT : Hid (renL (xs.take k) ys = renL xs ys) := by
            unfold Hid
            rw [List.take_of_length_le (by rw [hl.out]; exact Nat.le_refl _)]
          rw [HT.out] at HO
          go_wp2
          go_ret2
          exact RetI.of (HO.out.more HB1.out.size) HB.out HV.out
end Go.Proofs.Ytbceekcfokgmpaa
