/- StackDistances, DistanceCounts and CurveOf: the reference and the program return the same; for slices of at most 2^20 numbers that can be read. -/
import Derived.Test.YtbceekcfokgmpaaDist
namespace Go.Proofs.Ytbceekcfokgmpaa
open Go.RowKit
def stackDistancesV (q : Int) (xs : List Int) : List Int × Bool := if reqB q xs = true then (distL xs xs.length, true) else ([], false)
theorem stackDistancesV_len (q : Int) (xs : List Int) (h : xs.length ≤ 1048576) : (stackDistancesV q xs).1.length ≤ 1048576 := by
  unfold stackDistancesV
  split
  · simp [distL_len]; omega
  · simp
theorem rising_few (l : List Int) (lo hi : Int) (hs : l.Pairwise (· < ·)) (hb : ∀ x ∈ l, lo ≤ x ∧ x < hi) (h : lo ≤ hi) : (l.length : Int) ≤ hi - lo := by
  induction l generalizing lo with
  | nil => simp; omega
  | cons a r ih =>
    rw [List.pairwise_cons] at hs
    have ha := hb a (by simp)
    have := ih (a + 1) hs.2 (fun x hx => ⟨by have := hs.1 x hx; omega, (hb x (List.mem_cons_of_mem _ hx)).2⟩) (by omega)
    simp only [List.length_cons]
    omega
theorem mem_getD {xs : List Int} {k : Nat} (h : k < xs.length) : xs.getD k 0 ∈ xs := by
  rw [List.getD_eq_getElem?_getD, List.getElem?_eq_getElem h]
  exact List.getElem_mem h
theorem belowB_mem {q : Int} {xs : List Int} (h : belowB q xs = true) (x : Int) (hx : x ∈ xs) : 0 ≤ x ∧ x ≤ q - 1 := by
  unfold belowB at h
  rw [List.all_eq_true] at h
  simpa using h x hx
theorem rise_few {q : Int} {xs ys : List Int} (h : belowB q xs = true) (hq : 0 ≤ q) (hy : ∀ y ∈ ys, y ∈ xs) : ((riseL ys).length : Int) ≤ q := by
  have := rising_few (riseL ys) 0 q (rise_sorted ys) (fun x hx => by
    have := belowB_mem h x (hy x ((rise_mem ys x).1 hx))
    omega) hq
  omega
theorem distAt_bd {q : Int} {xs : List Int} (h : belowB q xs = true) (hq : 0 ≤ q) (k : Nat) : 0 ≤ distAt xs k ∧ distAt xs k < q + 1 := by
  unfold distAt
  split
  · omega
  · have := rise_few (ys := (xs.drop (lastAt xs k).toNat).take (k - (lastAt xs k).toNat)) h hq (fun y hy => List.mem_of_mem_drop (List.mem_of_mem_take hy))
    omega
theorem distL_get (xs : List Int) (n j : Nat) (h : j < n) : (distL xs n).getD j 0 = distAt xs j := by simp [distL, List.getD, h]

set_option maxHeartbeats 3200000 in
theorem spec_StackDistances (q : Int) (A : Option Addr) (n c : Nat) (xs : List Int) (w : World) (_ : -9223372036854775808 ≤ q) (_ : q ≤ 9223372036854775807) (hr : RdI w A n xs) (hn : n ≤ 1048576) (_ : ∀ x ∈ xs, -9223372036854775808 ≤ x ∧ x ≤ 9223372036854775807) (hroom : n ≤ c) :
    Calls Try.prog 23 #[.int .i64 q, .slice A n c] w (RetI w (stackDistancesV q xs)) := by
  cases hg : reqB q xs
  · have HV := hide (show stackDistancesV q xs = ([], false) by unfold stackDistancesV; rw [hg]; rfl)
    replace hg := hide hg
    go_enter Try.func23, Try.ntmps23
    go_wp2_with (go_at_call 40; refine (l3Good_any _ _ _ xs _ _ (RdI.below hr (by repeat (first | exact Below.refl _ _ | (refine below_drewN ?_ _) | (refine Below.drew ?_) | (refine Below.alloc ?_ (by first | exact Nat.le_refl _ | (simp; done) | (simp; omega) | omega) _) | (refine Below.setCell ?_ (by first | exact Nat.le_refl _ | (simp; done) | (simp; omega) | omega) _) | (refine Below.trans ?_ (Below.mono (by assumption) (by first | exact Nat.le_refl _ | (simp; done) | (simp; omega) | omega)))))) hn).mono ?_; rintro e w1 ⟨rfl, rfl⟩; rw [hg.out])
    go_ret2
    exact RetI.of (own_empty _ _ (Nat.le_refl _) _ rfl) (by repeat (first | exact Below.refl _ _ | (refine below_drewN ?_ _) | (refine Below.drew ?_) | (refine Below.alloc ?_ (by first | exact Nat.le_refl _ | (simp; done) | (simp; omega) | omega) _) | (refine Below.setCell ?_ (by first | exact Nat.le_refl _ | (simp; done) | (simp; omega) | omega) _) | (refine Below.trans ?_ (Below.mono (by assumption) (by first | exact Nat.le_refl _ | (simp; done) | (simp; omega) | omega))))) HV.out
  · obtain ⟨q1, q2, q3, q4⟩ := reqB_parts hg
    have hl := hr.1
    have HV := hide (show stackDistancesV q xs = (distL xs n, true) by unfold stackDistancesV; rw [hg, hl]; rfl)
    replace hg := hide hg
    have hn2 : n ≤ 60 := by omega
    replace hl := hide hl
    replace q4 := hide q4
    have HR := hide hr
    go_enter Try.func23, Try.ntmps23
    go_wp2_with fail
    refine (l3Good_any _ _ _ xs _ _ (hr.below (by repeat (first | exact Below.refl _ _ | (refine below_drewN ?_ _) | (refine Below.drew ?_) | (refine Below.alloc ?_ (by first | exact Nat.le_refl _ | (simp; done) | (simp; omega) | omega) _) | (refine Below.setCell ?_ (by first | exact Nat.le_refl _ | (simp; done) | (simp; omega) | omega) _) | (refine Below.trans ?_ (Below.mono (by assumption) (by first | exact Nat.le_refl _ | (simp; done) | (simp; omega) | omega)))))) hn).mono ?_
    rintro e w1 ⟨rfl, rfl⟩
    rw [hg.out]
    clear hr
    go_wp2_with (go_at_call 53; refine (l4Distances_any _ _ _ xs _ HR.out (by omega) hroom).mono ?_; rintro e w2 ⟨A2, c2, rfl, ho, hb⟩)
    go_ret2
    exact RetI.of ho hb HV.out
set_option maxHeartbeats 3200000 in
theorem impl_StackDistances (q : Int) (A : Option Addr) (n c : Nat) (xs : List Int) (w : World) (_ : -9223372036854775808 ≤ q) (_ : q ≤ 9223372036854775807) (hr : RdI w A n xs) (hn : n ≤ 1048576) (_ : ∀ x ∈ xs, -9223372036854775808 ≤ x ∧ x ≤ 9223372036854775807) (hroom : n ≤ c) :
    Calls Try.prog 24 #[.int .i64 q, .slice A n c] w (RetI w (stackDistancesV q xs)) := by
  cases hg : reqB q xs
  · have HV := hide (show stackDistancesV q xs = ([], false) by unfold stackDistancesV; rw [hg]; rfl)
    replace hg := hide hg
    go_enter Try.func24, Try.ntmps24
    go_wp2_with (go_at_call 42; refine (isRequests_any _ _ _ xs _ _ hr hn).mono ?_; rintro e w1 ⟨rfl, hb⟩; rw [hg.out])
    go_ret2
    exact RetI.of (OwnI.nil _ _) hb HV.out
  · obtain ⟨q1, q2, q3, q4⟩ := reqB_parts hg
    have hl := hr.1
    have HV := hide (show stackDistancesV q xs = (distL xs n, true) by unfold stackDistancesV; rw [hg, hl]; rfl)
    replace hg := hide hg
    have hn2 : n ≤ 60 := by omega
    replace hl := hide hl
    replace q4 := hide q4
    go_enter Try.func24, Try.ntmps24
    go_wp2_with fail
    refine (isRequests_any _ _ _ xs _ _ hr hn).mono ?_
    rintro e wa ⟨rfl, hba⟩
    rw [hg.out]
    have HR := hide (hr.below hba)
    have HBA := hide hba
    have hza := hba.size
    clear hr hba
    go_wp2_with (go_at_call 54; refine (stackDistances_any _ _ _ xs _ HR.out (by omega) hroom).mono ?_; rintro e w2 ⟨A2, c2, rfl, ho, hb⟩)
    go_ret2
    exact RetI.of (ho.more hza) (HBA.out.trans (hb.mono hza)) HV.out
def distanceCountsV (q : Int) (xs : List Int) : List Int × Bool := if reqB q xs = true then (cnt (q.toNat + 1) (distL xs xs.length), true) else ([], false)
theorem distanceCountsV_len (q : Int) (xs : List Int) (_ : xs.length ≤ 1048576) : (distanceCountsV q xs).1.length ≤ 1048576 := by
  unfold distanceCountsV
  split
  · rename_i h
    have := reqB_parts h
    simp [cnt_len]
    omega
  · simp

set_option maxHeartbeats 3200000 in
theorem spec_DistanceCounts (q : Int) (A : Option Addr) (n c : Nat) (xs : List Int) (w : World) (_ : -9223372036854775808 ≤ q) (_ : q ≤ 9223372036854775807) (hr : RdI w A n xs) (hn : n ≤ 1048576) (_ : ∀ x ∈ xs, -9223372036854775808 ≤ x ∧ x ≤ 9223372036854775807) (hroom : n ≤ c) :
    Calls Try.prog 27 #[.int .i64 q, .slice A n c] w (RetI w (distanceCountsV q xs)) := by
  cases hg : reqB q xs
  · have HV := hide (show distanceCountsV q xs = ([], false) by unfold distanceCountsV; rw [hg]; rfl)
    replace hg := hide hg
    go_enter Try.func27, Try.ntmps27
    go_wp2_with (go_at_call 40; refine (l3Good_any _ _ _ xs _ _ (RdI.below hr (by repeat (first | exact Below.refl _ _ | (refine below_drewN ?_ _) | (refine Below.drew ?_) | (refine Below.alloc ?_ (by first | exact Nat.le_refl _ | (simp; done) | (simp; omega) | omega) _) | (refine Below.setCell ?_ (by first | exact Nat.le_refl _ | (simp; done) | (simp; omega) | omega) _) | (refine Below.trans ?_ (Below.mono (by assumption) (by first | exact Nat.le_refl _ | (simp; done) | (simp; omega) | omega)))))) hn).mono ?_; rintro e w1 ⟨rfl, rfl⟩; rw [hg.out])
    go_ret2
    exact RetI.of (own_empty _ _ (Nat.le_refl _) _ rfl) (by repeat (first | exact Below.refl _ _ | (refine below_drewN ?_ _) | (refine Below.drew ?_) | (refine Below.alloc ?_ (by first | exact Nat.le_refl _ | (simp; done) | (simp; omega) | omega) _) | (refine Below.setCell ?_ (by first | exact Nat.le_refl _ | (simp; done) | (simp; omega) | omega) _) | (refine Below.trans ?_ (Below.mono (by assumption) (by first | exact Nat.le_refl _ | (simp; done) | (simp; omega) | omega))))) HV.out
  · obtain ⟨q1, q2, q3, q4⟩ := reqB_parts hg
    have hl := hr.1
    obtain ⟨m, rfl⟩ := Int.eq_ofNat_of_zero_le (show 0 ≤ q by omega)
    have HV := hide (show distanceCountsV m xs = (cnt (m + 1) (distL xs n), true) by unfold distanceCountsV; rw [hg, hl]; rfl)
    have HX := hide (fun k (hk : k < (distL xs n).length) => (show 0 ≤ (distL xs n).getD k 0 ∧ (distL xs n).getD k 0 < ((m + 1 : Nat) : Int) by rw [distL_len] at hk; rw [distL_get xs n k hk]; have := distAt_bd q4 (by omega) k; omega))
    replace hg := hide hg
    have hn2 : n ≤ 60 := by omega
    replace hl := hide hl
    replace q4 := hide q4
    have HR := hide hr
    go_enter Try.func27, Try.ntmps27
    go_wp2_with fail
    refine (l3Good_any _ _ _ xs _ _ (hr.below (by repeat (first | exact Below.refl _ _ | (refine below_drewN ?_ _) | (refine Below.drew ?_) | (refine Below.alloc ?_ (by first | exact Nat.le_refl _ | (simp; done) | (simp; omega) | omega) _) | (refine Below.setCell ?_ (by first | exact Nat.le_refl _ | (simp; done) | (simp; omega) | omega) _) | (refine Below.trans ?_ (Below.mono (by assumption) (by first | exact Nat.le_refl _ | (simp; done) | (simp; omega) | omega)))))) hn).mono ?_
    rintro e w1 ⟨rfl, rfl⟩
    rw [hg.out]
    clear hr
    go_wp2_with (first
      | (go_at_call 53; refine (l4Distances_any _ _ _ xs _ HR.out (by omega) hroom).mono ?_; rintro e w2 ⟨A2, c2, rfl, ho, hb⟩; have HO2 := hide ho; have HB2 := hide hb; clear ho hb)
      | (go_at_call 63; refine (l3Counts_any _ n _ (distL xs n) (m + 1) _ HO2.out.rd (by omega) (by omega) HX.out).mono ?_; rintro e w3 ⟨A3, c3, rfl, ho, hb⟩))
    go_ret2
    exact RetI.of (ho.more HB2.out.size) (HB2.out.trans (hb.mono HB2.out.size)) HV.out
set_option maxHeartbeats 3200000 in
theorem impl_DistanceCounts (q : Int) (A : Option Addr) (n c : Nat) (xs : List Int) (w : World) (_ : -9223372036854775808 ≤ q) (_ : q ≤ 9223372036854775807) (hr : RdI w A n xs) (hn : n ≤ 1048576) (_ : ∀ x ∈ xs, -9223372036854775808 ≤ x ∧ x ≤ 9223372036854775807) (hroom : n ≤ c) :
    Calls Try.prog 28 #[.int .i64 q, .slice A n c] w (RetI w (distanceCountsV q xs)) := by
  cases hg : reqB q xs
  · have HV := hide (show distanceCountsV q xs = ([], false) by unfold distanceCountsV; rw [hg]; rfl)
    replace hg := hide hg
    go_enter Try.func28, Try.ntmps28
    go_wp2_with (go_at_call 42; refine (isRequests_any _ _ _ xs _ _ hr hn).mono ?_; rintro e w1 ⟨rfl, hb⟩; rw [hg.out])
    go_ret2
    exact RetI.of (OwnI.nil _ _) hb HV.out
  · obtain ⟨q1, q2, q3, q4⟩ := reqB_parts hg
    have hl := hr.1
    obtain ⟨m, rfl⟩ := Int.eq_ofNat_of_zero_le (show 0 ≤ q by omega)
    have HV := hide (show distanceCountsV m xs = (cnt (m + 1) (distL xs n), true) by unfold distanceCountsV; rw [hg, hl]; rfl)
    have HX := hide (fun k (hk : k < (distL xs n).length) => (show 0 ≤ (distL xs n).getD k 0 ∧ (distL xs n).getD k 0 < ((m + 1 : Nat) : Int) by rw [distL_len] at hk; rw [distL_get xs n k hk]; have := distAt_bd q4 (by omega) k; omega))
    replace hg := hide hg
    have hn2 : n ≤ 60 := by omega
    replace hl := hide hl
    replace q4 := hide q4
    go_enter Try.func28, Try.ntmps28
    go_wp2_with fail
    refine (isRequests_any _ _ _ xs _ _ hr hn).mono ?_
    rintro e wa ⟨rfl, hba⟩
    rw [hg.out]
    have HR := hide (hr.below hba)
    have HBA := hide hba
    have hza := hba.size
    clear hr hba
    obtain ⟨i0, hi, hz0, hz1, hz2⟩ := info_parts info_int
    go_wp2_with (first
      | (at_make; refine wpList_make_full _ rfl _ _ _ rfl wa.heap.size 3 i0 (.int .i64 0) 1 Try.underlying22 hi hz0 hz1 _ _ _ _ (m + 1) rfl rfl rfl rfl (by rw [hz2]; omega) (by unfold maxLen; omega) (by simp) ?_; intro w1 hown hgrow; have HM := hide (show OwnI w1 wa.heap.size (some ⟨wa.heap.size, 0, none⟩) (m + 1) (m + 1) (cnt (m + 1) []) by simpa [toList_madeCells_one, Value.cells, OwnI, cnt_nil] using hown); have HB1 := hide (show Below wa.heap.size wa w1 from (Below.refl _ wa).grown hgrow (Nat.le_refl _) (fun k h => by cases h)); clear hown hgrow)
      | (go_at_call 54; refine (stackDistances_any _ _ _ xs _ (HR.out.below HB1.out) (by omega) hroom).mono ?_; rintro e w2 ⟨A2, c2, rfl, ho, hb⟩; have HO2 := hide ho; have HB2 := hide hb; clear ho hb))
    have HM2 := hide (HM.out.below HB2.out)
    have HS2 := hide (sep_new HM.out HO2.out)
    have HBz := hide (HB1.out.trans (HB2.out.mono HB1.out.size))
    go_loopw [8, 19] (fun _ i wr => ∃ k : Nat, k ≤ n ∧ i = .int .i64 k ∧ Hid (OwnI wr wa.heap.size (some ⟨wa.heap.size, 0, none⟩) (m + 1) (m + 1) (cnt (m + 1) ((distL xs n).take k))) ∧ Hid (OwnI wr w1.heap.size A2 n c2 (distL xs n)) ∧ Hid (Below wa.heap.size wa wr)) (fun _ i _ => n - (intOf i).toNat)
    case atStart => exact ⟨0, Nat.zero_le _, rfl, HM2, HO2, HBz⟩
    case round =>
      obtain ⟨k, hk, rfl, HO, HD, HB⟩ := hrel
      by_cases hlt : k < n
      · have hlt' : (k : Int) < (n : Int) := by omega
        obtain ⟨b, off, rfl, hbb, hc⟩ := (HD.out.rd).at_ hlt
        obtain ⟨x1, x2⟩ := HX.out k (by rw [distL_len]; exact hlt)
        obtain ⟨p, hp⟩ := Int.eq_ofNat_of_zero_le x1
        have HP := hide hp
        rw [hp] at x2 hc
        clear hp x1
        have hpm : p < m + 1 := by omega
        have hpm' : (p : Int) < ((m : Int) + 1) := by omega
        have hc2 : wr.cell? ⟨wa.heap.size, p, none⟩ = some (.int .i64 ((cnt (m + 1) ((distL xs n).take k)).getD p 0)) := by
          rw [World.ownsRow.cellAt HO.out p (by omega)]
          exact getD_map (by rw [cnt_len]; exact hpm)
        have hv := cnt_bd (m + 1) ((distL xs n).take k) p
        have hl2 : ((distL xs n).take k).length ≤ 1048576 := by simp [distL_len]; omega
        obtain ⟨v, HV2⟩ : ∃ v, Hid ((cnt (m + 1) ((distL xs n).take k)).getD p 0 = v) := ⟨_, rfl⟩
        rw [HV2.out] at hc2 hv
        have hv1 := hv.1
        have hv2 : v ≤ 1048576 := by omega
        have hf2 := World.ownsRow.frozenAt HO.out p
        have HS := hide (World.ownsRow.stored HO.out p (.int .i64 (v + 1)))
        have HD2 := hide (HD.out.marked (A' := some ⟨wa.heap.size, 0, none⟩) HS.out.2 HS2.out.symm)
        clear hbb hv hl2
        go_wp2
        go_roundw
        case rel => first | exact ⟨k + 1, by omega, by go_num, by
          have := HS.out.1
          rw [← List.map_set, ← HV2.out, cnt_snoc (m + 1) _ p hpm, ← HP.out, ← take_snocI (distL xs n) k (by rw [distL_len]; exact hlt)] at this
          rw [← HV2.out]
          exact this, HD2, (HB.out.setCell (Nat.le_refl _) _)⟩ | ((repeat apply Exists.intro); refine ⟨?_, rfl⟩; exact ⟨k + 1, by omega, by go_num, by
          have := HS.out.1
          rw [← List.map_set, ← HV2.out, cnt_snoc (m + 1) _ p hpm, ← HP.out, ← take_snocI (distL xs n) k (by rw [distL_len]; exact hlt)] at this
          rw [← HV2.out]
          exact this, HD2, (HB.out.setCell (Nat.le_refl _) _)⟩)
        case measure => first | (simp [intOf]; done) | (simp [intOf]; omega)
      · have hkn : k = n := by omega
        subst hkn
        go_wp2
        go_ret2
        have := HO.out
        rw [List.take_of_length_le (by rw [distL_len]; exact Nat.le_refl _)] at this
        exact RetI.of (this.more hza) (HBA.out.trans (HB.out.mono hza)) HV.out
end Go.Proofs.Ytbceekcfokgmpaa
