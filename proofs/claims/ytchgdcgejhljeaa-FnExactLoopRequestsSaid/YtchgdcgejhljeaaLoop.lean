/- LoopRequests: the reference and the program return the same numbers; for numbers of 64 bits. -/
import Derived.Test.YtchgdcgejhljeaaInts
namespace Go.Proofs.Ytchgdcgejhljeaa
open Go.RowKit

/-- The numbers i modulo k below a length, where the arguments are in their ranges. -/
def loopOk (n k l : Int) : Bool := decide (1 ≤ n ∧ n ≤ 8 ∧ 1 ≤ k ∧ k ≤ n ∧ 0 ≤ l ∧ l ≤ 60)
def loopL (k : Int) (m : Nat) : List Int := (List.range m).map fun (i : Nat) => (i : Int) % k
def loopRequestsV (n k l : Int) : List Int × Bool := if loopOk n k l = true then (loopL k l.toNat, true) else ([], false)
theorem loopRequestsV_len (n k l : Int) : (loopRequestsV n k l).1.length ≤ 1048576 := by
  unfold loopRequestsV
  split
  · rename_i h; simp [loopOk] at h; simp [loopL]; omega
  · simp

set_option maxHeartbeats 800000 in
theorem spec_LoopRequests (n k l : Int) (w : World) (_ : -9223372036854775808 ≤ n) (_ : n ≤ 9223372036854775807) (_ : -9223372036854775808 ≤ k) (_ : k ≤ 9223372036854775807) (_ : -9223372036854775808 ≤ l) (_ : l ≤ 9223372036854775807) :
    Calls Try.prog 20 #[.int .i64 n, .int .i64 k, .int .i64 l] w (RetI w (loopRequestsV n k l)) := by
  by_cases c1 : 1 ≤ n ∧ n ≤ 8
  · obtain ⟨c11, c12⟩ := c1
    by_cases c2 : 1 ≤ k ∧ k ≤ n
    · obtain ⟨c21, c22⟩ := c2
      by_cases c3 : 0 ≤ l ∧ l ≤ 60
      · obtain ⟨c31, c32⟩ := c3
        obtain ⟨m, rfl⟩ := Int.eq_ofNat_of_zero_le c31
        have HV := hide (show loopRequestsV n k m = (loopL k m, true) by simp [loopRequestsV, loopOk, *])
        go_enter Try.func20, Try.ntmps20
        go_wp2_with (first | (go_at_call 34; refine (l1In_yes _ _ _ _ (by omega) (by omega)).mono ?_; rintro e w' ⟨rfl, rfl⟩) | (go_at_call 34; refine (l1In_no _ _ _ _ (by omega)).mono ?_; rintro e w' ⟨rfl, rfl⟩) | go_in)
        go_loopw [8, 9] (fun u i wr => ∃ (q : Nat) (A : Option Addr) (c : Nat), q ≤ m ∧ i = .int .i64 q ∧ u = .slice A q c ∧ Hid (OwnI wr w.heap.size A q c (loopL k q)) ∧ Hid (Below w.heap.size w wr)) (fun _ i _ => m - (intOf i).toNat)
        case atStart => exact ⟨0, _, _, Nat.zero_le _, rfl, rfl, own_empty _ _ (Nat.le_refl _) _ rfl, (by repeat (first | exact Below.refl _ _ | (refine below_drewN ?_ _) | (refine Below.drew ?_) | (refine Below.alloc ?_ (by first | exact Nat.le_refl _ | (simp; done) | (simp; omega) | omega) _) | (refine Below.setCell ?_ (by first | exact Nat.le_refl _ | (simp; done) | (simp; omega) | omega) _) | (refine Below.trans ?_ (Below.mono (by assumption) (by first | exact Nat.le_refl _ | (simp; done) | (simp; omega) | omega)))))⟩
        case round =>
          obtain ⟨q, A, c, hq, rfl, rfl, HO, HB⟩ := hrel
          by_cases hlt : q < m
          · have hlt' : (q : Int) < (m : Int) := by omega
            go_wp2_with (at_builtin; refine append_int rfl _ _ rfl w.heap.size A q c (loopL k q) _ _ rfl rfl HO.out (by omega) HB.out.size ?_; intro A' c' w1 ho' hb' hg'; replace ho' := hide ho'; replace hb' := hide hb'; clear hg')
            go_roundw
            case rel => first | exact ⟨q + 1, A', c', by omega, by go_num, rfl, by have := ho'.out; simpa [loopL, List.range_succ, Hid] using this, HB.out.trans hb'.out⟩ | ((repeat apply Exists.intro); refine ⟨?_, rfl⟩; exact ⟨q + 1, A', c', by omega, by go_num, rfl, by have := ho'.out; simpa [loopL, List.range_succ, Hid] using this, HB.out.trans hb'.out⟩)
            case measure => simp [intOf]; omega
          · have hqm : q = m := by omega
            subst hqm
            go_wp2
            go_ret2
            exact RetI.of HO.out HB.out HV.out
      · have HV := hide (show loopRequestsV n k l = ([], false) by simp [loopRequestsV, loopOk]; omega)
        go_enter Try.func20, Try.ntmps20
        go_wp2_with (first | (go_at_call 34; refine (l1In_yes _ _ _ _ (by omega) (by omega)).mono ?_; rintro e w' ⟨rfl, rfl⟩) | (go_at_call 34; refine (l1In_no _ _ _ _ (by omega)).mono ?_; rintro e w' ⟨rfl, rfl⟩) | go_in)
        go_ret2
        exact RetI.of (own_empty _ _ (Nat.le_refl _) _ rfl) (by repeat (first | exact Below.refl _ _ | (refine below_drewN ?_ _) | (refine Below.drew ?_) | (refine Below.alloc ?_ (by first | exact Nat.le_refl _ | (simp; done) | (simp; omega) | omega) _) | (refine Below.setCell ?_ (by first | exact Nat.le_refl _ | (simp; done) | (simp; omega) | omega) _) | (refine Below.trans ?_ (Below.mono (by assumption) (by first | exact Nat.le_refl _ | (simp; done) | (simp; omega) | omega))))) HV.out
    · have HV := hide (show loopRequestsV n k l = ([], false) by simp [loopRequestsV, loopOk]; omega)
      go_enter Try.func20, Try.ntmps20
      go_wp2_with (first | (go_at_call 34; refine (l1In_yes _ _ _ _ (by omega) (by omega)).mono ?_; rintro e w' ⟨rfl, rfl⟩) | (go_at_call 34; refine (l1In_no _ _ _ _ (by omega)).mono ?_; rintro e w' ⟨rfl, rfl⟩) | go_in)
      go_ret2
      exact RetI.of (own_empty _ _ (Nat.le_refl _) _ rfl) (by repeat (first | exact Below.refl _ _ | (refine below_drewN ?_ _) | (refine Below.drew ?_) | (refine Below.alloc ?_ (by first | exact Nat.le_refl _ | (simp; done) | (simp; omega) | omega) _) | (refine Below.setCell ?_ (by first | exact Nat.le_refl _ | (simp; done) | (simp; omega) | omega) _) | (refine Below.trans ?_ (Below.mono (by assumption) (by first | exact Nat.le_refl _ | (simp; done) | (simp; omega) | omega))))) HV.out
  · have HV := hide (show loopRequestsV n k l = ([], false) by simp [loopRequestsV, loopOk]; omega)
    go_enter Try.func20, Try.ntmps20
    go_wp2_with (first | (go_at_call 34; refine (l1In_yes _ _ _ _ (by omega) (by omega)).mono ?_; rintro e w' ⟨rfl, rfl⟩) | (go_at_call 34; refine (l1In_no _ _ _ _ (by omega)).mono ?_; rintro e w' ⟨rfl, rfl⟩) | go_in)
    go_ret2
    exact RetI.of (own_empty _ _ (Nat.le_refl _) _ rfl) (by repeat (first | exact Below.refl _ _ | (refine below_drewN ?_ _) | (refine Below.drew ?_) | (refine Below.alloc ?_ (by first | exact Nat.le_refl _ | (simp; done) | (simp; omega) | omega) _) | (refine Below.setCell ?_ (by first | exact Nat.le_refl _ | (simp; done) | (simp; omega) | omega) _) | (refine Below.trans ?_ (Below.mono (by assumption) (by first | exact Nat.le_refl _ | (simp; done) | (simp; omega) | omega))))) HV.out

set_option maxHeartbeats 800000 in
theorem impl_LoopRequests (n k l : Int) (w : World) (_ : -9223372036854775808 ≤ n) (_ : n ≤ 9223372036854775807) (_ : -9223372036854775808 ≤ k) (_ : k ≤ 9223372036854775807) (_ : -9223372036854775808 ≤ l) (_ : l ≤ 9223372036854775807) :
    Calls Try.prog 21 #[.int .i64 n, .int .i64 k, .int .i64 l] w (RetI w (loopRequestsV n k l)) := by
  by_cases c1 : 1 ≤ n ∧ n ≤ 8
  · obtain ⟨c11, c12⟩ := c1
    by_cases c2 : 1 ≤ k ∧ k ≤ n
    · obtain ⟨c21, c22⟩ := c2
      by_cases c3 : 0 ≤ l ∧ l ≤ 60
      · obtain ⟨c31, c32⟩ := c3
        obtain ⟨m, rfl⟩ := Int.eq_ofNat_of_zero_le c31
        have HV := hide (show loopRequestsV n k m = (loopL k m, true) by simp [loopRequestsV, loopOk, *])
        go_enter Try.func21, Try.ntmps21
        go_wp2_with (first | (go_at_call 27; refine (within_yes _ _ _ _ (by omega) (by omega)).mono ?_; rintro e w' ⟨rfl, rfl⟩) | (go_at_call 27; refine (within_no _ _ _ _ (by omega)).mono ?_; rintro e w' ⟨rfl, rfl⟩) | go_in)
        go_loopw [8, 26] (fun u i wr => ∃ (q : Nat) (A : Option Addr) (c : Nat), q ≤ m ∧ i = .int .i64 q ∧ u = .slice A q c ∧ Hid (OwnI wr w.heap.size A q c (loopL k q)) ∧ Hid (Below w.heap.size w wr)) (fun _ i _ => m - (intOf i).toNat)
        case atStart => exact ⟨0, _, _, Nat.zero_le _, rfl, rfl, own_empty _ _ (Nat.le_refl _) _ rfl, (by repeat (first | exact Below.refl _ _ | (refine below_drewN ?_ _) | (refine Below.drew ?_) | (refine Below.alloc ?_ (by first | exact Nat.le_refl _ | (simp; done) | (simp; omega) | omega) _) | (refine Below.setCell ?_ (by first | exact Nat.le_refl _ | (simp; done) | (simp; omega) | omega) _) | (refine Below.trans ?_ (Below.mono (by assumption) (by first | exact Nat.le_refl _ | (simp; done) | (simp; omega) | omega)))))⟩
        case round =>
          obtain ⟨q, A, c, hq, rfl, rfl, HO, HB⟩ := hrel
          by_cases hlt : q < m
          · have hlt' : (q : Int) < (m : Int) := by omega
            go_wp2_with (at_builtin; refine append_int rfl _ _ rfl w.heap.size A q c (loopL k q) _ _ rfl rfl HO.out (by omega) HB.out.size ?_; intro A' c' w1 ho' hb' hg'; replace ho' := hide ho'; replace hb' := hide hb'; clear hg')
            go_roundw
            case rel => first | exact ⟨q + 1, A', c', by omega, by go_num, rfl, by have := ho'.out; simpa [loopL, List.range_succ, Hid] using this, HB.out.trans hb'.out⟩ | ((repeat apply Exists.intro); refine ⟨?_, rfl⟩; exact ⟨q + 1, A', c', by omega, by go_num, rfl, by have := ho'.out; simpa [loopL, List.range_succ, Hid] using this, HB.out.trans hb'.out⟩)
            case measure => simp [intOf]; omega
          · have hqm : q = m := by omega
            subst hqm
            go_wp2
            go_ret2
            exact RetI.of HO.out HB.out HV.out
      · have HV := hide (show loopRequestsV n k l = ([], false) by simp [loopRequestsV, loopOk]; omega)
        go_enter Try.func21, Try.ntmps21
        go_wp2_with (first | (go_at_call 27; refine (within_yes _ _ _ _ (by omega) (by omega)).mono ?_; rintro e w' ⟨rfl, rfl⟩) | (go_at_call 27; refine (within_no _ _ _ _ (by omega)).mono ?_; rintro e w' ⟨rfl, rfl⟩) | go_in)
        go_ret2
        exact RetI.of (OwnI.nil _ _) (Below.refl _ _) HV.out
    · have HV := hide (show loopRequestsV n k l = ([], false) by simp [loopRequestsV, loopOk]; omega)
      go_enter Try.func21, Try.ntmps21
      go_wp2_with (first | (go_at_call 27; refine (within_yes _ _ _ _ (by omega) (by omega)).mono ?_; rintro e w' ⟨rfl, rfl⟩) | (go_at_call 27; refine (within_no _ _ _ _ (by omega)).mono ?_; rintro e w' ⟨rfl, rfl⟩) | go_in)
      go_ret2
      exact RetI.of (OwnI.nil _ _) (Below.refl _ _) HV.out
  · have HV := hide (show loopRequestsV n k l = ([], false) by simp [loopRequestsV, loopOk]; omega)
    go_enter Try.func21, Try.ntmps21
    go_wp2_with (first | (go_at_call 27; refine (within_yes _ _ _ _ (by omega) (by omega)).mono ?_; rintro e w' ⟨rfl, rfl⟩) | (go_at_call 27; refine (within_no _ _ _ _ (by omega)).mono ?_; rintro e w' ⟨rfl, rfl⟩) | go_in)
    go_ret2
    exact RetI.of (OwnI.nil _ _) (Below.refl _ _) HV.out
end Go.Proofs.Ytchgdcgejhljeaa
