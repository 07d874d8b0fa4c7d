/- IsPlan: the reference and the program return the same; for slices of at most 2^20 numbers that can be read. -/
import Derived.Test.YtbceekcfokgmpaaPlanI
namespace Go.Proofs.Ytbceekcfokgmpaa
open Go.RowKit Go.Lib Go.Sort Go.Shelf
def RetB (w : World) (r : Bool × Bool) (e : Ending) (w' : World) : Prop := e = .returned (.tuple #[.bool r.1, .bool r.2]) ∧ Below w.heap.size w w'
theorem RetB.of {w w' : World} {r : Bool × Bool} {a b : Bool} (hb : Below w.heap.size w w') (h : r = (a, b)) : RetB w r (.returned (.tuple #[.bool a, .bool b])) w' := by
  subst h
  exact ⟨rfl, hb⟩

set_option maxHeartbeats 1600000 in
theorem l5Plan_any (q : Int) (A1 : Option Addr) (n c1 : Nat) (A2 : Option Addr) (n2 c2 : Nat) (ps : List Int) (w : World) (hr2 : RdI w A2 n2 ps) (hn2 : n2 ≤ 1048576) (hq1 : 1 ≤ q) (hq8 : q ≤ 8) :
    Calls Try.prog 71 #[.int .i64 q, .slice A1 n c1, .slice A2 n2 c2] w fun e w' => e = .returned (.bool (decide (n2 = n) && planB q ps)) ∧ w = w' := by
  by_cases hne : n2 = n
  · subst hne
    have hlen := hide hr2.1
    have HR := hide hr2
    have hd : (((n2 : Nat) : Int) != (n2 : Int)) = false := by simp
    clear hr2
    go_enter Try.func71, Try.ntmps71
    go_wp2_with fail
    go_loop [7] (fun i => ∃ k : Nat, k ≤ n2 ∧ i = .int .i64 k ∧ Hid (∀ j, j < k → -1 ≤ ps.getD j 0 ∧ ps.getD j 0 ≤ q - 1)) (fun i => n2 - (intOf i).toNat)
    case atStart => exact ⟨0, Nat.zero_le _, rfl, fun j hj => absurd hj (Nat.not_lt_zero _)⟩
    case round =>
      obtain ⟨k, hk, rfl, HA⟩ := hrel
      by_cases hlt : k < n2
      · obtain ⟨b, off, rfl, _, hc⟩ := (HR.out).at_ hlt
        have hlt' : (k : Int) < (n2 : Int) := by omega
        obtain ⟨x, hx⟩ : ∃ x, Hid (ps.getD k 0 = x) := ⟨_, rfl⟩
        rw [hx.out] at hc
        by_cases hin : -1 ≤ x ∧ x ≤ q - 1
        · have HA2 : Hid (∀ j, j < k + 1 → -1 ≤ ps.getD j 0 ∧ ps.getD j 0 ≤ q - 1) := fun j hj => by
            by_cases e : j < k
            · exact HA.out j e
            · obtain rfl : j = k := by omega
              rw [hx.out]
              exact hin
          obtain ⟨h1, h2⟩ := hin
          go_wp2_with (first | (go_at_call 44; refine (l1In_yes _ _ _ _ (by omega) (by omega)).mono ?_; rintro e w' ⟨rfl, rfl⟩) | (go_at_call 44; refine (l1In_no _ _ _ _ (by omega)).mono ?_; rintro e w' ⟨rfl, rfl⟩))
          go_round
          case rel => first | exact ⟨k + 1, by omega, by go_num, HA2⟩ | ((repeat apply Exists.intro); refine ⟨?_, rfl⟩; exact ⟨k + 1, by omega, by go_num, HA2⟩)
          case measure => first | (simp [intOf]; done) | (simp [intOf]; omega)
        · have HF : Hid ((decide (n2 = n2) && planB q ps) = false) := by
            unfold Hid
            rw [planB_no q ps k (by rw [hlen.out]; exact hlt) (by rw [hx.out]; exact hin)]
            simp
          go_wp2_with (first | (go_at_call 44; refine (l1In_yes _ _ _ _ (by omega) (by omega)).mono ?_; rintro e w' ⟨rfl, rfl⟩) | (go_at_call 44; refine (l1In_no _ _ _ _ (by omega)).mono ?_; rintro e w' ⟨rfl, rfl⟩))
          go_ret
          exact ⟨ret_bool HF.out.symm, rfl⟩
      · obtain rfl : k = n2 := by omega
        have HF : Hid ((decide (k = k) && planB q ps) = true) := by
          unfold Hid
          rw [planB_yes q ps (by rw [hlen.out]; exact HA.out)]
          simp
        go_wp2
        go_ret
        exact ⟨ret_bool HF.out.symm, rfl⟩
  · have HF : Hid ((decide (n2 = n) && planB q ps) = false) := by simp [Hid, hne]
    have hd : (((n2 : Nat) : Int) != (n : Int)) = true := by simp; omega
    clear hne hr2
    go_enter Try.func71, Try.ntmps71
    go_wp2
    go_ret
    exact ⟨ret_bool HF.out.symm, rfl⟩

theorem planPred_any (q x : Int) (B : Nat) (w : World) (hc : w.cell? ⟨B, 0, none⟩ = some (.int .i64 q)) (hq1 : 1 ≤ q) (hq8 : q ≤ 8) :
    Calls Try.prog 96 (#[.int .i64 x] ++ #[.pointer (some ⟨B, 0, none⟩)]) w fun e w' => e = .returned (.bool (!decide (-1 ≤ x ∧ x ≤ q - 1))) ∧ w = w' := by
  show Calls Try.prog 96 #[.int .i64 x, .pointer (some ⟨B, 0, none⟩)] _ _
  by_cases hin : -1 ≤ x ∧ x ≤ q - 1
  · have hd : Hid (decide (-1 ≤ x ∧ x ≤ q - 1) = true) := by unfold Hid; simpa using hin
    obtain ⟨h1, h2⟩ := hin
    go_enter Try.func96, Try.ntmps96
    go_wp2_with (first | (go_at_call 47; refine (within_yes _ _ _ _ (by omega) (by omega)).mono ?_; rintro e w' ⟨rfl, rfl⟩) | (go_at_call 47; refine (within_no _ _ _ _ (by omega)).mono ?_; rintro e w' ⟨rfl, rfl⟩))
    go_ret
    exact ⟨ret_bool (by rw [hd.out]; rfl), rfl⟩
  · have hd : Hid (decide (-1 ≤ x ∧ x ≤ q - 1) = false) := by unfold Hid; simpa using hin
    go_enter Try.func96, Try.ntmps96
    go_wp2_with (first | (go_at_call 47; refine (within_yes _ _ _ _ (by omega) (by omega)).mono ?_; rintro e w' ⟨rfl, rfl⟩) | (go_at_call 47; refine (within_no _ _ _ _ (by omega)).mono ?_; rintro e w' ⟨rfl, rfl⟩))
    go_ret
    exact ⟨ret_bool (by rw [hd.out]; rfl), rfl⟩

set_option maxHeartbeats 1600000 in
theorem isPlanList_any (k q : Int) (A1 : Option Addr) (n c1 : Nat) (xs : List Int) (A2 : Option Addr) (n2 c2 : Nat) (ps : List Int) (w : World) (hr1 : RdI w A1 n xs) (hr2 : RdI w A2 n2 ps) (hn : n ≤ 1048576) (hn2 : n2 ≤ 1048576) :
    Calls Try.prog 73 #[.int .i64 k, .int .i64 q, .slice A1 n c1, .slice A2 n2 c2] w fun e w' => e = .returned (.bool (planOk k q xs ps)) ∧ Below w.heap.size w w' := by
  have HX := hide hr1
  have HP := hide hr2
  have hl1 := hr1.1
  have hl2 := hr2.1
  clear hr1 hr2
  by_cases c1' : 1 ≤ k ∧ k ≤ 6
  · cases hg : reqB q xs
    · have HV : Hid (planOk k q xs ps = false) := by unfold planOk Hid; rw [hg]; simp
      obtain ⟨c11, c12⟩ := c1'
      replace hg := hide hg
      clear hl1 hl2
      go_enter Try.func73, Try.ntmps73
      go_wp2_with (first | (go_at_call 47; refine (within_yes _ _ _ _ (by omega) (by omega)).mono ?_; rintro e w' ⟨rfl, rfl⟩) | (go_at_call 47; refine (within_no _ _ _ _ (by omega)).mono ?_; rintro e w' ⟨rfl, rfl⟩) | (go_at_call 42; refine (isRequests_any _ _ _ xs _ _ (HX.out.below (by repeat (first | exact Below.refl _ _ | (refine below_drewN ?_ _) | (refine Below.drew ?_) | (refine Below.alloc ?_ (by first | exact Nat.le_refl _ | (simp; done) | (simp; omega) | omega) _) | (refine Below.setCell ?_ (by first | exact Nat.le_refl _ | (simp; done) | (simp; omega) | omega) _) | (refine Below.trans ?_ (Below.mono (by assumption) (by first | exact Nat.le_refl _ | (simp; done) | (simp; omega) | omega)))))) hn).mono ?_; rintro e w1 ⟨rfl, hb⟩; rw [hg.out]) | go_in)
      go_ret
      exact ⟨ret_bool HV.out.symm, Below.trans (show Below w.heap.size w (w.alloc _) from (by repeat (first | exact Below.refl _ _ | (refine below_drewN ?_ _) | (refine Below.drew ?_) | (refine Below.alloc ?_ (by first | exact Nat.le_refl _ | (simp; done) | (simp; omega) | omega) _) | (refine Below.setCell ?_ (by first | exact Nat.le_refl _ | (simp; done) | (simp; omega) | omega) _) | (refine Below.trans ?_ (Below.mono (by assumption) (by first | exact Nat.le_refl _ | (simp; done) | (simp; omega) | omega)))))) (hb.mono (by simp))⟩
    · obtain ⟨q1, q2, q3, q4⟩ := reqB_parts hg
      obtain ⟨c11, c12⟩ := c1'
      replace q4 := hide q4
      by_cases hne : n2 = n
      · subst hne
        have HV : Hid (planOk k q xs ps = planB q ps) := by
          unfold planOk Hid
          rw [hg, hl1, hl2]
          simp [c11, c12]
        have hd : (((n2 : Nat) : Int) == (n2 : Int)) = true := by simp
        replace hg := hide hg
        clear hl1 hl2
        have HFn : Hid ((!ps.any fun x => !decide (-1 ≤ x ∧ x ≤ q - 1)) = planB q ps) := by
          unfold planB Hid
          rw [List.not_any_eq_all_not]
          congr 1
          funext x
          simp
        have hmf : ∀ (fn : Fn) (first cap : Array Value) (w : World), (Instr.makeFunc fn first cap).run Try.prog w = .ok (.func fn first cap) w := fun _ _ _ _ => rfl
        generalize hgen : (ps.any fun x => !decide (-1 ≤ x ∧ x ≤ q - 1)) = r at HFn
        have HGen := hide hgen
        clear hgen
        go_enter Try.func73, Try.ntmps73
        go_wp2_with (first
          | (go_at_call 47; refine (within_yes _ _ _ _ (by omega) (by omega)).mono ?_; rintro e w' ⟨rfl, rfl⟩) | (go_at_call 47; refine (within_no _ _ _ _ (by omega)).mono ?_; rintro e w' ⟨rfl, rfl⟩)
          | (go_at_call 42; refine (isRequests_any _ _ _ xs _ _ (HX.out.below (by repeat (first | exact Below.refl _ _ | (refine below_drewN ?_ _) | (refine Below.drew ?_) | (refine Below.alloc ?_ (by first | exact Nat.le_refl _ | (simp; done) | (simp; omega) | omega) _) | (refine Below.setCell ?_ (by first | exact Nat.le_refl _ | (simp; done) | (simp; omega) | omega) _) | (refine Below.trans ?_ (Below.mono (by assumption) (by first | exact Nat.le_refl _ | (simp; done) | (simp; omega) | omega)))))) hn).mono ?_; rintro e w1 ⟨rfl, hb⟩; rw [hg.out]; have hcq : Hid (w1.cell? ⟨w.heap.size, 0, none⟩ = some (.int .i64 q)) := (hb.cell (p := ⟨w.heap.size, 0, none⟩) (by simp)).trans (by go_simp); have HB := hide (Below.trans (show Below w.heap.size w (w.alloc (.cells #[.int .i64 q] 3)) from (by repeat (first | exact Below.refl _ _ | (refine below_drewN ?_ _) | (refine Below.drew ?_) | (refine Below.alloc ?_ (by first | exact Nat.le_refl _ | (simp; done) | (simp; omega) | omega) _) | (refine Below.setCell ?_ (by first | exact Nat.le_refl _ | (simp; done) | (simp; omega) | omega) _) | (refine Below.trans ?_ (Below.mono (by assumption) (by first | exact Nat.le_refl _ | (simp; done) | (simp; omega) | omega)))))) (hb.mono (by simp))); clear hb)
          | (go_at_call 85; refine (containsFunc_any 96 #[.pointer (some ⟨w.heap.size, 0, none⟩)] (enters_of Try.func96 (by kernel_rfl) rfl) (fun x => !decide (-1 ≤ x ∧ x ≤ q - 1)) _ _ _ ps _ (HP.out.below HB.out) hn2 (fun x _ => planPred_any q x w.heap.size _ hcq.out (by omega) (by omega))).mono ?_; rintro e w2 ⟨rfl, rfl⟩; rw [HGen.out])
          | go_in)
        go_ret
        exact ⟨ret_bool (by rw [HV.out, ← HFn.out]), HB.out⟩
      · have HV : Hid (planOk k q xs ps = false) := by unfold planOk Hid; rw [hl1, hl2]; simp [hne]
        have hd : (((n2 : Nat) : Int) == (n : Int)) = false := by simp; omega
        replace hg := hide hg
        clear hne hl1 hl2
        go_enter Try.func73, Try.ntmps73
        go_wp2_with (first | (go_at_call 47; refine (within_yes _ _ _ _ (by omega) (by omega)).mono ?_; rintro e w' ⟨rfl, rfl⟩) | (go_at_call 47; refine (within_no _ _ _ _ (by omega)).mono ?_; rintro e w' ⟨rfl, rfl⟩) | (go_at_call 42; refine (isRequests_any _ _ _ xs _ _ (HX.out.below (by repeat (first | exact Below.refl _ _ | (refine below_drewN ?_ _) | (refine Below.drew ?_) | (refine Below.alloc ?_ (by first | exact Nat.le_refl _ | (simp; done) | (simp; omega) | omega) _) | (refine Below.setCell ?_ (by first | exact Nat.le_refl _ | (simp; done) | (simp; omega) | omega) _) | (refine Below.trans ?_ (Below.mono (by assumption) (by first | exact Nat.le_refl _ | (simp; done) | (simp; omega) | omega)))))) hn).mono ?_; rintro e w1 ⟨rfl, hb⟩; rw [hg.out]) | go_in)
        go_ret
        exact ⟨ret_bool HV.out.symm, Below.trans (show Below w.heap.size w (w.alloc _) from (by repeat (first | exact Below.refl _ _ | (refine below_drewN ?_ _) | (refine Below.drew ?_) | (refine Below.alloc ?_ (by first | exact Nat.le_refl _ | (simp; done) | (simp; omega) | omega) _) | (refine Below.setCell ?_ (by first | exact Nat.le_refl _ | (simp; done) | (simp; omega) | omega) _) | (refine Below.trans ?_ (Below.mono (by assumption) (by first | exact Nat.le_refl _ | (simp; done) | (simp; omega) | omega)))))) (hb.mono (by simp))⟩
  · have HV : Hid (planOk k q xs ps = false) := by unfold planOk Hid; simp; omega
    clear hl1 hl2
    go_enter Try.func73, Try.ntmps73
    go_wp2_with (first | (go_at_call 47; refine (within_yes _ _ _ _ (by omega) (by omega)).mono ?_; rintro e w' ⟨rfl, rfl⟩) | (go_at_call 47; refine (within_no _ _ _ _ (by omega)).mono ?_; rintro e w' ⟨rfl, rfl⟩) | go_in)
    go_ret
    exact ⟨ret_bool HV.out.symm, (by repeat (first | exact Below.refl _ _ | (refine below_drewN ?_ _) | (refine Below.drew ?_) | (refine Below.alloc ?_ (by first | exact Nat.le_refl _ | (simp; done) | (simp; omega) | omega) _) | (refine Below.setCell ?_ (by first | exact Nat.le_refl _ | (simp; done) | (simp; omega) | omega) _) | (refine Below.trans ?_ (Below.mono (by assumption) (by first | exact Nat.le_refl _ | (simp; done) | (simp; omega) | omega)))))⟩

set_option maxHeartbeats 1600000 in
theorem spec_IsPlan (k q : Int) (A1 : Option Addr) (n c1 : Nat) (xs : List Int) (A2 : Option Addr) (n2 c2 : Nat) (ps : List Int) (w : World) (hr1 : RdI w A1 n xs) (hn : n ≤ 1048576) (hr2 : RdI w A2 n2 ps) (hn2 : n2 ≤ 1048576) :
    Calls Try.prog 36 #[.int .i64 k, .int .i64 q, .slice A1 n c1, .slice A2 n2 c2] w (RetB w (isPlanV k q xs ps)) := by
  have HX := hide hr1
  have HP := hide hr2
  have hl1 := hr1.1
  have hl2 := hr2.1
  clear hr1 hr2
  by_cases c1' : 1 ≤ k ∧ k ≤ 6
  · obtain ⟨c11, c12⟩ := c1'
    cases hg : reqB q xs
    · have HV : Hid (isPlanV k q xs ps = (false, false)) := by unfold isPlanV planOk Hid; rw [hg]; simp
      replace hg := hide hg
      clear hl1 hl2
      go_enter Try.func36, Try.ntmps36
      go_wp2_with (first | (go_at_call 44; refine (l1In_yes _ _ _ _ (by omega) (by omega)).mono ?_; rintro e w' ⟨rfl, rfl⟩) | (go_at_call 44; refine (l1In_no _ _ _ _ (by omega)).mono ?_; rintro e w' ⟨rfl, rfl⟩) | (go_at_call 40; refine (l3Good_any _ _ _ xs _ _ HX.out hn).mono ?_; rintro e w1 ⟨rfl, rfl⟩; rw [hg.out]) | go_in)
      go_ret2
      exact RetB.of (Below.refl _ _) HV.out
    · obtain ⟨q1, q2, q3, q4⟩ := reqB_parts hg
      have HXB := hide (fun i (hi : i < n) => (belowB_get q4 i (by rw [hl1]; exact hi)).1)
      replace q4 := hide q4
      cases h2 : (decide (n2 = n) && planB q ps)
      · have HV : Hid (isPlanV k q xs ps = (false, false)) := by unfold isPlanV planOk Hid; rw [hg, hl1, hl2, h2]; simp
        replace hg := hide hg
        replace h2 := hide h2
        clear hl1 hl2
        go_enter Try.func36, Try.ntmps36
        go_wp2_with (first | (go_at_call 44; refine (l1In_yes _ _ _ _ (by omega) (by omega)).mono ?_; rintro e w' ⟨rfl, rfl⟩) | (go_at_call 44; refine (l1In_no _ _ _ _ (by omega)).mono ?_; rintro e w' ⟨rfl, rfl⟩) | (go_at_call 40; refine (l3Good_any _ _ _ xs _ _ HX.out hn).mono ?_; rintro e w1 ⟨rfl, rfl⟩; rw [hg.out]) | (go_at_call 71; refine (l5Plan_any _ _ _ _ _ _ _ ps _ HP.out hn2 q1 q2).mono ?_; rintro e w2 ⟨rfl, rfl⟩; rw [h2.out]) | go_in)
        go_ret2
        exact RetB.of (Below.refl _ _) HV.out
      · have hne : n2 = n := by simp only [Bool.and_eq_true, decide_eq_true_eq] at h2; exact h2.1
        have HV : Hid (isPlanV k q xs ps = ((plRun k xs ps n).isSome, true)) := by unfold isPlanV planOk Hid; rw [hg, hl1, hl2, h2]; simp [c11, c12]
        have h3 : Hid (planB q ps = true) := by simp only [Bool.and_eq_true, decide_eq_true_eq] at h2; exact h2.2
        clear h2
        subst hne
        have hn60 : n2 ≤ 60 := by omega
        replace hg := hide hg
        clear hl1 hl2
        obtain ⟨R, hR⟩ : ∃ R, Hid ((plRun k xs ps n2).isSome = R) := ⟨_, rfl⟩
        rw [hR.out] at HV
        go_enter Try.func36, Try.ntmps36
        go_wp2_with (first | (go_at_call 44; refine (l1In_yes _ _ _ _ (by omega) (by omega)).mono ?_; rintro e w' ⟨rfl, rfl⟩) | (go_at_call 44; refine (l1In_no _ _ _ _ (by omega)).mono ?_; rintro e w' ⟨rfl, rfl⟩) | (go_at_call 40; refine (l3Good_any _ _ _ xs _ _ HX.out hn).mono ?_; rintro e w1 ⟨rfl, rfl⟩; rw [hg.out]) | (go_at_call 71; refine (l5Plan_any _ _ _ _ _ _ _ ps _ HP.out hn2 q1 q2).mono ?_; rintro e w2 ⟨rfl, rfl⟩; rw [h3.out, Bool.and_true, decide_eq_true (Eq.refl n2)]) | (go_at_call 72; refine (l5Run_any k _ _ _ xs _ _ ps _ HX.out HP.out hn60 c11 c12 HXB.out).mono ?_; rintro e w3 ⟨V, F, rfl, hb⟩; rw [hR.out]) | go_in)
        go_ret2
        exact RetB.of hb HV.out
  · have HV : Hid (isPlanV k q xs ps = (false, false)) := by unfold isPlanV planOk Hid; simp; omega
    clear hl1 hl2
    go_enter Try.func36, Try.ntmps36
    go_wp2_with (first | (go_at_call 44; refine (l1In_yes _ _ _ _ (by omega) (by omega)).mono ?_; rintro e w' ⟨rfl, rfl⟩) | (go_at_call 44; refine (l1In_no _ _ _ _ (by omega)).mono ?_; rintro e w' ⟨rfl, rfl⟩) | go_in)
    go_ret2
    exact RetB.of (Below.refl _ _) HV.out

set_option maxHeartbeats 1600000 in
theorem impl_IsPlan (k q : Int) (A1 : Option Addr) (n c1 : Nat) (xs : List Int) (A2 : Option Addr) (n2 c2 : Nat) (ps : List Int) (w : World) (hr1 : RdI w A1 n xs) (hn : n ≤ 1048576) (hr2 : RdI w A2 n2 ps) (hn2 : n2 ≤ 1048576) :
    Calls Try.prog 37 #[.int .i64 k, .int .i64 q, .slice A1 n c1, .slice A2 n2 c2] w (RetB w (isPlanV k q xs ps)) := by
  have HX := hide hr1
  have HP := hide hr2
  have hl1 := hr1.1
  have hl2 := hr2.1
  clear hr1 hr2
  cases hg : planOk k q xs ps
  · have HV : Hid (isPlanV k q xs ps = (false, false)) := by unfold isPlanV Hid; rw [hg]; rfl
    replace hg := hide hg
    clear hl1 hl2
    go_enter Try.func37, Try.ntmps37
    go_wp2_with (go_at_call 73; refine (isPlanList_any k q _ _ _ xs _ _ _ ps _ HX.out HP.out hn hn2).mono ?_; rintro e w1 ⟨rfl, hb⟩; rw [hg.out])
    go_ret2
    exact RetB.of hb HV.out
  · have hg2 := hg
    unfold planOk at hg2
    rw [hl1, hl2] at hg2
    simp only [Bool.and_eq_true, decide_eq_true_eq] at hg2
    obtain ⟨⟨c11, c12⟩, hq, hne, _⟩ := hg2
    obtain ⟨q1, q2, q3, q4⟩ := reqB_parts hq
    have HXB := hide (fun i (hi : i < n) => (belowB_get q4 i (by rw [hl1]; exact hi)).1)
    have HV : Hid (isPlanV k q xs ps = ((plRun k xs ps n).isSome, true)) := by unfold isPlanV Hid; rw [hg, hl1]; rfl
    replace q4 := hide q4
    replace hq := hide hq
    subst hne
    have hn60 : n2 ≤ 60 := by omega
    replace hg := hide hg
    clear hl1 hl2
    obtain ⟨R, hR⟩ : ∃ R, Hid ((plRun k xs ps n2).isSome = R) := ⟨_, rfl⟩
    rw [hR.out] at HV
    go_enter Try.func37, Try.ntmps37
    go_wp2_with (first
      | (go_at_call 73; refine (isPlanList_any k q _ _ _ xs _ _ _ ps _ HX.out HP.out hn hn2).mono ?_; rintro e w1 ⟨rfl, hb⟩; rw [hg.out]; have HX1 := hide (HX.out.below hb); have HP1 := hide (HP.out.below hb); have HB1 := hide hb; clear hb)
      | (go_at_call 74; refine (played_any k _ _ _ xs _ _ ps _ HX1.out HP1.out hn60 c11 c12 HXB.out).mono ?_; rintro e w3 ⟨V, F, rfl, hb⟩; rw [hR.out]))
    go_ret2
    exact RetB.of (HB1.out.trans (hb.mono HB1.out.size)) HV.out
end Go.Proofs.Ytbceekcfokgmpaa
