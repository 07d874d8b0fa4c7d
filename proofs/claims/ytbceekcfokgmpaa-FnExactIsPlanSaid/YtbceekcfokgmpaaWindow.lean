/- WindowSizes: the reference and the program return the same; for slices of at most 2^20 numbers that can be read. -/
import Derived.Test.YtbceekcfokgmpaaRise
namespace Go.Proofs.Ytbceekcfokgmpaa
open Go.RowKit
def winAt (xs : List Int) (q i : Nat) : Int := ((riseL ((xs.drop (i + 1 - q)).take (i + 1 - (i + 1 - q)))).length : Int)
def winL (xs : List Int) (q m : Nat) : List Int := (List.range m).map (winAt xs q)
theorem winL_len (xs : List Int) (q m : Nat) : (winL xs q m).length = m := by simp [winL]
theorem winL_snoc (xs : List Int) (q m : Nat) : winL xs q (m + 1) = winL xs q m ++ [winAt xs q m] := by simp [winL, List.range_succ]
def winOk (n : Int) (xs : List Int) (q : Int) : Bool := reqB n xs && decide (1 ≤ q ∧ q ≤ 60)
def windowSizesV (n : Int) (xs : List Int) (q : Int) : List Int × Bool := if winOk n xs q = true then (winL xs q.toNat xs.length, true) else ([], false)
theorem windowSizesV_len (n : Int) (xs : List Int) (q : Int) (h : xs.length ≤ 1048576) : (windowSizesV n xs q).1.length ≤ 1048576 := by
  unfold windowSizesV
  split
  · simp [winL_len]; omega
  · simp
theorem RdI.sub {w : World} {b off n : Nat} {xs : List Int} (h : RdI w (some ⟨b, off, none⟩) n xs) (lo hi : Nat) (h1 : lo ≤ hi) (h2 : hi ≤ n) : RdI w (some ⟨b, off + lo, none⟩) (hi - lo) ((xs.drop lo).take (hi - lo)) :=
  (h.drop lo (by omega)).take (hi - lo) (by omega)
theorem l1Most_any (a b : Int) (w : World) : Calls Try.prog 46 #[.int .i64 a, .int .i64 b] w fun e w' => e = .returned (.int .i64 (max a b)) ∧ w = w' := by
  by_cases h : b < a
  · have e : Hid (max a b = a) := by unfold Hid; omega
    go_enter Try.func46, Try.ntmps46
    go_wp2
    go_ret
    exact ⟨ret_int e.out.symm, rfl⟩
  · have e : Hid (max a b = b) := by unfold Hid; omega
    go_enter Try.func46, Try.ntmps46
    go_wp2
    go_ret
    exact ⟨ret_int e.out.symm, rfl⟩

set_option maxHeartbeats 3200000 in
theorem spec_WindowSizes (q : Int) (A : Option Addr) (n c : Nat) (xs : List Int) (v : Int) (w : World) (_ : -9223372036854775808 ≤ q) (_ : q ≤ 9223372036854775807) (hr : RdI w A n xs) (hn : n ≤ 1048576) (_ : ∀ x ∈ xs, -9223372036854775808 ≤ x ∧ x ≤ 9223372036854775807) (hroom : n ≤ c) (_ : -9223372036854775808 ≤ v) (_ : v ≤ 9223372036854775807) :
    Calls Try.prog 19 #[.int .i64 q, .slice A n c, .int .i64 v] w (RetI w (windowSizesV q xs v)) := by
  cases hg : reqB q xs
  · have HV := hide (show windowSizesV q xs v = ([], false) by unfold windowSizesV winOk; rw [hg]; rfl)
    replace hg := hide hg
    go_enter Try.func19, Try.ntmps19
    go_wp2_with (first | (go_at_call 40; refine (l3Good_any _ _ _ xs _ _ (RdI.below hr (by repeat (first | exact Below.refl _ _ | (refine below_drewN ?_ _) | (refine Below.drew ?_) | (refine Below.alloc ?_ (by first | exact Nat.le_refl _ | (simp; done) | (simp; omega) | omega) _) | (refine Below.setCell ?_ (by first | exact Nat.le_refl _ | (simp; done) | (simp; omega) | omega) _) | (refine Below.trans ?_ (Below.mono (by assumption) (by first | exact Nat.le_refl _ | (simp; done) | (simp; omega) | omega)))))) hn).mono ?_; rintro e w1 ⟨rfl, rfl⟩; rw [hg.out]) | (go_at_call 44; refine (l1In_yes _ _ _ _ (by omega) (by omega)).mono ?_; rintro e w' ⟨rfl, rfl⟩) | (go_at_call 44; refine (l1In_no _ _ _ _ (by omega)).mono ?_; rintro e w' ⟨rfl, rfl⟩))
    go_ret2
    exact RetI.of (own_empty _ _ (Nat.le_refl _) _ rfl) (by repeat (first | exact Below.refl _ _ | (refine below_drewN ?_ _) | (refine Below.drew ?_) | (refine Below.alloc ?_ (by first | exact Nat.le_refl _ | (simp; done) | (simp; omega) | omega) _) | (refine Below.setCell ?_ (by first | exact Nat.le_refl _ | (simp; done) | (simp; omega) | omega) _) | (refine Below.trans ?_ (Below.mono (by assumption) (by first | exact Nat.le_refl _ | (simp; done) | (simp; omega) | omega))))) HV.out
  · by_cases c1 : 1 ≤ v ∧ v ≤ 60
    · obtain ⟨q1, q2, q3, q4⟩ := reqB_parts hg
      obtain ⟨c11, c12⟩ := c1
      obtain ⟨z, rfl⟩ := Int.eq_ofNat_of_zero_le (show 0 ≤ v by omega)
      have hl := hr.1
      have HV := hide (show windowSizesV q xs z = (winL xs z n, true) by unfold windowSizesV winOk; rw [hg, ← hl]; simp; omega)
      replace hg := hide hg
      have hn2 : n ≤ 60 := by omega
      replace hl := hide hl
      clear q4
      have HR := hide hr
      go_enter Try.func19, Try.ntmps19
      go_wp2_with (first | (go_at_call 40; refine (l3Good_any _ _ _ xs _ _ (RdI.below hr (by repeat (first | exact Below.refl _ _ | (refine below_drewN ?_ _) | (refine Below.drew ?_) | (refine Below.alloc ?_ (by first | exact Nat.le_refl _ | (simp; done) | (simp; omega) | omega) _) | (refine Below.setCell ?_ (by first | exact Nat.le_refl _ | (simp; done) | (simp; omega) | omega) _) | (refine Below.trans ?_ (Below.mono (by assumption) (by first | exact Nat.le_refl _ | (simp; done) | (simp; omega) | omega)))))) hn).mono ?_; rintro e w1 ⟨rfl, rfl⟩; rw [hg.out]) | (go_at_call 44; refine (l1In_yes _ _ _ _ (by omega) (by omega)).mono ?_; rintro e w' ⟨rfl, rfl⟩) | (go_at_call 44; refine (l1In_no _ _ _ _ (by omega)).mono ?_; rintro e w' ⟨rfl, rfl⟩))
      clear hr
      obtain ⟨wa, hwa⟩ : ∃ wa, Hid (w = wa) := ⟨_, rfl⟩
      go_loopw [8, 9] (fun u i wr => ∃ (k : Nat) (A' : Option Addr) (c' : Nat), k ≤ n ∧ i = .int .i64 k ∧ u = .slice A' k c' ∧ Hid (OwnI wr w.heap.size A' k c' (winL xs z k)) ∧ Hid (Below w.heap.size w wr)) (fun _ i _ => n - (intOf i).toNat)
      case atStart => exact ⟨0, _, _, Nat.zero_le _, rfl, rfl, own_empty _ _ (Nat.le_refl _) _ rfl, (by repeat (first | exact Below.refl _ _ | (refine below_drewN ?_ _) | (refine Below.drew ?_) | (refine Below.alloc ?_ (by first | exact Nat.le_refl _ | (simp; done) | (simp; omega) | omega) _) | (refine Below.setCell ?_ (by first | exact Nat.le_refl _ | (simp; done) | (simp; omega) | omega) _) | (refine Below.trans ?_ (Below.mono (by assumption) (by first | exact Nat.le_refl _ | (simp; done) | (simp; omega) | omega)))))⟩
      case round =>
        obtain ⟨k, A', c', hk, rfl, rfl, HO, HB⟩ := hrel
        by_cases hlt : k < n
        · have hlt' : (k : Int) < (n : Int) := by omega
          obtain ⟨b, off, rfl, _, _⟩ := (HR.out).at_ hlt
          obtain ⟨lo, hlo⟩ : ∃ lo, k + 1 - z = lo := ⟨_, rfl⟩
          have hmax : Hid (max 0 ((k : Int) - (z : Int) + 1) = (lo : Int)) := by unfold Hid; omega
          have HS := hide ((HR.out.below HB.out).sub lo (k + 1) (by omega) (by omega))
          obtain ⟨L, hL⟩ : ∃ L : Nat, Hid ((riseL ((xs.drop lo).take (k + 1 - lo))).length = L) := ⟨_, rfl⟩
          have HE : Hid (winAt xs z k = (L : Int)) := by
            unfold winAt Hid
            rw [hlo, hL.out]
          have hL2 : L ≤ 60 := by
            rw [← hL.out]
            have h1 := rise_len ((xs.drop lo).take (k + 1 - lo))
            have h2 : ((xs.drop lo).take (k + 1 - lo)).length ≤ k + 1 - lo := List.length_take_le _ _
            omega
          have e1 : ¬ c = lo := by omega
          have e2 : lo ≤ k + 1 := by omega
          have e3 : (lo : Int) ≤ (k : Int) + 1 := by omega
          have e4 : k + 1 ≤ c := by omega
          have e5 : (k : Int) + 1 ≤ (c : Int) := by omega
          have e6 : lo ≤ k := by omega
          have e7 : (lo : Int) ≤ (k : Int) := by omega
          have e8 : k + 1 - lo ≤ 1048575 := by omega
          replace hlo := hide hlo
          go_wp2_with (first
          | (go_at_call 46; refine (l1Most_any _ _ _).mono ?_; rintro e w' ⟨rfl, rfl⟩; rw [hmax.out])
          | (go_at_call 45; refine (l3Different_any _ _ _ _ _ HS.out e8).mono ?_; rintro e w1 ⟨A1, c1, rfl, ho1, hb1⟩; rw [hL.out]; have HO1 := hide (HO.out.below hb1); have HB1 := hide (HB.out.trans (hb1.mono HB.out.size)); clear ho1 hb1)
          | (at_builtin; refine append_int rfl _ _ rfl w.heap.size A' k c' (winL xs z k) _ _ rfl rfl HO1.out (by omega) HB1.out.size ?_; intro A2 c2 w2 ho2 hb2 hg2; replace ho2 := hide ho2; replace hb2 := hide hb2; clear hg2))
          go_roundw
          case rel => first | exact ⟨k + 1, A2, c2, by omega, by go_num, rfl, by have := ho2.out; rw [winL_snoc, HE.out]; exact this, HB1.out.trans hb2.out⟩ | ((repeat apply Exists.intro); refine ⟨?_, rfl⟩; exact ⟨k + 1, A2, c2, by omega, by go_num, rfl, by have := ho2.out; rw [winL_snoc, HE.out]; exact this, HB1.out.trans hb2.out⟩)
          case measure => first | (simp [intOf]; done) | (simp [intOf]; omega)
        · have hkn : k = n := by omega
          subst hkn
          go_wp2
          go_ret2
          exact RetI.of HO.out HB.out HV.out
    · have HV := hide (show windowSizesV q xs v = ([], false) by unfold windowSizesV winOk; rw [hg]; simp; omega)
      replace hg := hide hg
      go_enter Try.func19, Try.ntmps19
      go_wp2_with (first | (go_at_call 40; refine (l3Good_any _ _ _ xs _ _ (RdI.below hr (by repeat (first | exact Below.refl _ _ | (refine below_drewN ?_ _) | (refine Below.drew ?_) | (refine Below.alloc ?_ (by first | exact Nat.le_refl _ | (simp; done) | (simp; omega) | omega) _) | (refine Below.setCell ?_ (by first | exact Nat.le_refl _ | (simp; done) | (simp; omega) | omega) _) | (refine Below.trans ?_ (Below.mono (by assumption) (by first | exact Nat.le_refl _ | (simp; done) | (simp; omega) | omega)))))) hn).mono ?_; rintro e w1 ⟨rfl, rfl⟩; rw [hg.out]) | (go_at_call 44; refine (l1In_yes _ _ _ _ (by omega) (by omega)).mono ?_; rintro e w' ⟨rfl, rfl⟩) | (go_at_call 44; refine (l1In_no _ _ _ _ (by omega)).mono ?_; rintro e w' ⟨rfl, rfl⟩))
      go_ret2
      exact RetI.of (own_empty _ _ (Nat.le_refl _) _ rfl) (by repeat (first | exact Below.refl _ _ | (refine below_drewN ?_ _) | (refine Below.drew ?_) | (refine Below.alloc ?_ (by first | exact Nat.le_refl _ | (simp; done) | (simp; omega) | omega) _) | (refine Below.setCell ?_ (by first | exact Nat.le_refl _ | (simp; done) | (simp; omega) | omega) _) | (refine Below.trans ?_ (Below.mono (by assumption) (by first | exact Nat.le_refl _ | (simp; done) | (simp; omega) | omega))))) HV.out

set_option maxHeartbeats 3200000 in
theorem impl_WindowSizes (q : Int) (A : Option Addr) (n c : Nat) (xs : List Int) (v : Int) (w : World) (_ : -9223372036854775808 ≤ q) (_ : q ≤ 9223372036854775807) (hr : RdI w A n xs) (hn : n ≤ 1048576) (_ : ∀ x ∈ xs, -9223372036854775808 ≤ x ∧ x ≤ 9223372036854775807) (hroom : n ≤ c) (_ : -9223372036854775808 ≤ v) (_ : v ≤ 9223372036854775807) :
    Calls Try.prog 20 #[.int .i64 q, .slice A n c, .int .i64 v] w (RetI w (windowSizesV q xs v)) := by
  cases hg : reqB q xs
  · have HV := hide (show windowSizesV q xs v = ([], false) by unfold windowSizesV winOk; rw [hg]; rfl)
    replace hg := hide hg
    go_enter Try.func20, Try.ntmps20
    go_wp2_with (first | (go_at_call 42; refine (isRequests_any _ _ _ xs _ _ hr hn).mono ?_; rintro e wa ⟨rfl, hba⟩; rw [hg.out]) | (go_at_call 47; refine (within_yes _ _ _ _ (by omega) (by omega)).mono ?_; rintro e w' ⟨rfl, rfl⟩) | (go_at_call 47; refine (within_no _ _ _ _ (by omega)).mono ?_; rintro e w' ⟨rfl, rfl⟩))
    go_ret2
    exact RetI.of (OwnI.nil _ _) hba HV.out
  · by_cases c1 : 1 ≤ v ∧ v ≤ 60
    · obtain ⟨q1, q2, q3, q4⟩ := reqB_parts hg
      obtain ⟨c11, c12⟩ := c1
      obtain ⟨z, rfl⟩ := Int.eq_ofNat_of_zero_le (show 0 ≤ v by omega)
      have hl := hr.1
      have HV := hide (show windowSizesV q xs z = (winL xs z n, true) by unfold windowSizesV winOk; rw [hg, ← hl]; simp; omega)
      replace hg := hide hg
      have hn2 : n ≤ 60 := by omega
      replace hl := hide hl
      clear q4
      go_enter Try.func20, Try.ntmps20
      go_wp2_with fail
      refine (isRequests_any _ _ _ xs _ _ hr hn).mono ?_
      rintro e wa ⟨rfl, hba⟩
      rw [hg.out]
      have HR := hide (hr.below hba)
      have HBA := hide hba
      have hza := hba.size
      clear hr hba
      go_wp2_with (first | (go_at_call 47; refine (within_yes _ _ _ _ (by omega) (by omega)).mono ?_; rintro e w' ⟨rfl, rfl⟩) | (go_at_call 47; refine (within_no _ _ _ _ (by omega)).mono ?_; rintro e w' ⟨rfl, rfl⟩))
      go_loopw [8, 9, 22] (fun u _ i wr => ∃ (k : Nat) (A' : Option Addr) (c' : Nat), k ≤ n ∧ i = .int .i64 k ∧ u = .slice A' k c' ∧ Hid (OwnI wr wa.heap.size A' k c' (winL xs z k)) ∧ Hid (Below wa.heap.size wa wr)) (fun _ _ i _ => n - (intOf i).toNat)
      case atStart => exact ⟨0, _, _, Nat.zero_le _, rfl, rfl, own_empty _ _ (Nat.le_refl _) _ rfl, (by repeat (first | exact Below.refl _ _ | (refine below_drewN ?_ _) | (refine Below.drew ?_) | (refine Below.alloc ?_ (by first | exact Nat.le_refl _ | (simp; done) | (simp; omega) | omega) _) | (refine Below.setCell ?_ (by first | exact Nat.le_refl _ | (simp; done) | (simp; omega) | omega) _) | (refine Below.trans ?_ (Below.mono (by assumption) (by first | exact Nat.le_refl _ | (simp; done) | (simp; omega) | omega)))))⟩
      case round =>
        obtain ⟨k, A', c', hk, rfl, rfl, HO, HB⟩ := hrel
        by_cases hlt : k < n
        · have hlt' : (k : Int) < (n : Int) := by omega
          obtain ⟨b, off, rfl, _, _⟩ := (HR.out).at_ hlt
          obtain ⟨lo, hlo⟩ : ∃ lo, k + 1 - z = lo := ⟨_, rfl⟩
          have hmax : Hid (max 0 ((k : Int) - (z : Int) + 1) = (lo : Int)) := by unfold Hid; omega
          have HS := hide ((HR.out.below HB.out).sub lo (k + 1) (by omega) (by omega))
          obtain ⟨L, hL⟩ : ∃ L : Nat, Hid ((riseL ((xs.drop lo).take (k + 1 - lo))).length = L) := ⟨_, rfl⟩
          have HE : Hid (winAt xs z k = (L : Int)) := by
            unfold winAt Hid
            rw [hlo, hL.out]
          have hL2 : L ≤ 60 := by
            rw [← hL.out]
            have h1 := rise_len ((xs.drop lo).take (k + 1 - lo))
            have h2 : ((xs.drop lo).take (k + 1 - lo)).length ≤ k + 1 - lo := List.length_take_le _ _
            omega
          have e1 : ¬ c = lo := by omega
          have e2 : lo ≤ k + 1 := by omega
          have e3 : (lo : Int) ≤ (k : Int) + 1 := by omega
          have e4 : k + 1 ≤ c := by omega
          have e5 : (k : Int) + 1 ≤ (c : Int) := by omega
          have e6 : lo ≤ k := by omega
          have e7 : (lo : Int) ≤ (k : Int) := by omega
          have e8 : k + 1 - lo ≤ 1048575 := by omega
          replace hlo := hide hlo
          have hmx := hmax.out
          go_wp2_with (first
          | (go_at_call 48; refine (rising_any _ _ _ _ _ HS.out e8).mono ?_; rintro e w1 ⟨A1, c1, rfl, ho1, hb1⟩; rw [hL.out]; have HO1 := hide (HO.out.below hb1); have HB1 := hide (HB.out.trans (hb1.mono HB.out.size)); clear ho1 hb1)
          | (at_builtin; refine append_int rfl _ _ rfl wa.heap.size A' k c' (winL xs z k) _ _ rfl rfl HO1.out (by omega) HB1.out.size ?_; intro A2 c2 w2 ho2 hb2 hg2; replace ho2 := hide ho2; replace hb2 := hide hb2; clear hg2))
          go_roundw
          case rel => first | exact ⟨k + 1, A2, c2, by omega, by go_num, rfl, by have := ho2.out; rw [winL_snoc, HE.out]; exact this, HB1.out.trans hb2.out⟩ | ((repeat apply Exists.intro); refine ⟨?_, rfl⟩; exact ⟨k + 1, A2, c2, by omega, by go_num, rfl, by have := ho2.out; rw [winL_snoc, HE.out]; exact this, HB1.out.trans hb2.out⟩)
          case measure => first | (simp [intOf]; done) | (simp [intOf]; omega)
        · have hkn : k = n := by omega
          subst hkn
          go_wp2
          go_ret2
          exact RetI.of (HO.out.more hza) (HBA.out.trans (HB.out.mono hza)) HV.out
    · have HV := hide (show windowSizesV q xs v = ([], false) by unfold windowSizesV winOk; rw [hg]; simp; omega)
      replace hg := hide hg
      go_enter Try.func20, Try.ntmps20
      go_wp2_with (first | (go_at_call 42; refine (isRequests_any _ _ _ xs _ _ hr hn).mono ?_; rintro e wa ⟨rfl, hba⟩; rw [hg.out]) | (go_at_call 47; refine (within_yes _ _ _ _ (by omega) (by omega)).mono ?_; rintro e w' ⟨rfl, rfl⟩) | (go_at_call 47; refine (within_no _ _ _ _ (by omega)).mono ?_; rintro e w' ⟨rfl, rfl⟩))
      go_ret2
      exact RetI.of (OwnI.nil _ _) hba HV.out
end Go.Proofs.Ytbceekcfokgmpaa
