/- WeaveRequests: the reference and the program return the same; for slices of at most 2^20 numbers that can be read. -/
import Derived.Test.YtaoacpikmpoodaaCounts
namespace Go.Proofs.Ytaoacpikmpoodaa
open Go.RowKit

/-- Two lists, number by number in turn, up to a place. -/
def weave (xs ys : List Int) (k : Nat) : List Int := (List.range k).flatMap fun (i : Nat) => (if i < xs.length then [xs.getD i 0] else []) ++ (if i < ys.length then [ys.getD i 0] else [])
theorem weave_succ (xs ys : List Int) (k : Nat) : weave xs ys (k + 1) = weave xs ys k ++ ((if k < xs.length then [xs.getD k 0] else []) ++ (if k < ys.length then [ys.getD k 0] else [])) := by
  simp [weave, List.range_succ]
theorem weave_len (xs ys : List Int) (k : Nat) : (weave xs ys k).length ≤ 2 * k := by
  induction k with
  | zero => simp [weave]
  | succ k ih =>
    rw [weave_succ, List.length_append, List.length_append]
    have h1 : (if k < xs.length then [xs.getD k 0] else []).length ≤ 1 := by split <;> simp
    have h2 : (if k < ys.length then [ys.getD k 0] else []).length ≤ 1 := by split <;> simp
    omega
def twoOk (q : Int) (xs ys : List Int) : Bool := reqB q xs && (reqB q ys && decide (xs.length + ys.length ≤ 60))
def weaveRequestsV (q : Int) (xs ys : List Int) : List Int × Bool := if twoOk q xs ys = true then (weave xs ys (max xs.length ys.length), true) else ([], false)
theorem weaveRequestsV_len (q : Int) (xs ys : List Int) (_ : xs.length ≤ 1048576) (_ : ys.length ≤ 1048576) : (weaveRequestsV q xs ys).1.length ≤ 1048576 := by
  unfold weaveRequestsV
  split
  · rename_i h
    have := weave_len xs ys (max xs.length ys.length)
    simp [twoOk] at h
    have h2 : max xs.length ys.length ≤ 60 := by omega
    show (weave xs ys (max xs.length ys.length)).length ≤ 1048576
    omega
  · simp

set_option maxHeartbeats 3200000 in
theorem spec_WeaveRequests (q : Int) (A : Option Addr) (n c : Nat) (xs : List Int) (A2 : Option Addr) (n2 c2 : Nat) (ys : List Int) (w : World) (_ : -9223372036854775808 ≤ q) (_ : q ≤ 9223372036854775807) (hr : RdI w A n xs) (hn : n ≤ 1048576) (_ : ∀ x ∈ xs, -9223372036854775808 ≤ x ∧ x ≤ 9223372036854775807) (hr2 : RdI w A2 n2 ys) (hn2 : n2 ≤ 1048576) (_ : ∀ x ∈ ys, -9223372036854775808 ≤ x ∧ x ≤ 9223372036854775807) :
    Calls Try.prog 30 #[.int .i64 q, .slice A n c, .slice A2 n2 c2] w (RetI w (weaveRequestsV q xs ys)) := by
  cases h1 : reqB q xs
  · have HV := hide (show weaveRequestsV q xs ys = ([], false) by unfold weaveRequestsV twoOk; rw [h1]; rfl)
    replace h1 := hide h1
    go_enter Try.func30, Try.ntmps30
    go_wp2_with fail
    refine (l3Good_any _ _ _ xs _ _ (hr.below (by repeat (first | exact Below.refl _ _ | (refine below_drewN ?_ _) | (refine Below.drew ?_) | (refine Below.alloc ?_ (by first | exact Nat.le_refl _ | (simp; done) | (simp; omega) | omega) _) | (refine Below.setCell ?_ (by first | exact Nat.le_refl _ | (simp; done) | (simp; omega) | omega) _) | (refine Below.trans ?_ (Below.mono (by assumption) (by first | exact Nat.le_refl _ | (simp; done) | (simp; omega) | omega)))))) hn).mono ?_
    rintro e w1 ⟨rfl, rfl⟩
    rw [h1.out]
    go_wp2
    go_ret2
    exact RetI.of (own_empty _ _ (Nat.le_refl _) _ rfl) (by repeat (first | exact Below.refl _ _ | (refine below_drewN ?_ _) | (refine Below.drew ?_) | (refine Below.alloc ?_ (by first | exact Nat.le_refl _ | (simp; done) | (simp; omega) | omega) _) | (refine Below.setCell ?_ (by first | exact Nat.le_refl _ | (simp; done) | (simp; omega) | omega) _) | (refine Below.trans ?_ (Below.mono (by assumption) (by first | exact Nat.le_refl _ | (simp; done) | (simp; omega) | omega))))) HV.out
  · cases h2 : reqB q ys
    · have HV := hide (show weaveRequestsV q xs ys = ([], false) by unfold weaveRequestsV twoOk; rw [h1, h2]; rfl)
      replace h1 := hide h1
      replace h2 := hide h2
      go_enter Try.func30, Try.ntmps30
      go_wp2_with fail
      refine (l3Good_any _ _ _ xs _ _ (hr.below (by repeat (first | exact Below.refl _ _ | (refine below_drewN ?_ _) | (refine Below.drew ?_) | (refine Below.alloc ?_ (by first | exact Nat.le_refl _ | (simp; done) | (simp; omega) | omega) _) | (refine Below.setCell ?_ (by first | exact Nat.le_refl _ | (simp; done) | (simp; omega) | omega) _) | (refine Below.trans ?_ (Below.mono (by assumption) (by first | exact Nat.le_refl _ | (simp; done) | (simp; omega) | omega)))))) hn).mono ?_
      rintro e w1 ⟨rfl, rfl⟩
      rw [h1.out]
      go_wp2_with fail
      refine (l3Good_any _ _ _ ys _ _ (hr2.below (by repeat (first | exact Below.refl _ _ | (refine below_drewN ?_ _) | (refine Below.drew ?_) | (refine Below.alloc ?_ (by first | exact Nat.le_refl _ | (simp; done) | (simp; omega) | omega) _) | (refine Below.setCell ?_ (by first | exact Nat.le_refl _ | (simp; done) | (simp; omega) | omega) _) | (refine Below.trans ?_ (Below.mono (by assumption) (by first | exact Nat.le_refl _ | (simp; done) | (simp; omega) | omega)))))) hn2).mono ?_
      rintro e w1 ⟨rfl, rfl⟩
      rw [h2.out]
      go_wp2
      go_ret2
      exact RetI.of (own_empty _ _ (Nat.le_refl _) _ rfl) (by repeat (first | exact Below.refl _ _ | (refine below_drewN ?_ _) | (refine Below.drew ?_) | (refine Below.alloc ?_ (by first | exact Nat.le_refl _ | (simp; done) | (simp; omega) | omega) _) | (refine Below.setCell ?_ (by first | exact Nat.le_refl _ | (simp; done) | (simp; omega) | omega) _) | (refine Below.trans ?_ (Below.mono (by assumption) (by first | exact Nat.le_refl _ | (simp; done) | (simp; omega) | omega))))) HV.out
    · by_cases h3 : n + n2 ≤ 60
      · have HV := hide (show weaveRequestsV q xs ys = (weave xs ys (max n n2), true) by unfold weaveRequestsV twoOk; rw [h1, h2, hr.1, hr2.1]; simp [h3])
        replace h1 := hide h1
        replace h2 := hide h2
        have h3' : ((n : Int) + (n2 : Int)) ≤ 60 := by omega
        obtain ⟨M, HM⟩ : ∃ M, Hid (max n n2 = M) := ⟨_, rfl⟩
        have hm3 : M ≤ 60 := by have := HM.out; omega
        rw [HM.out] at HV
        have HMX := hide (show ∀ k, n ≤ k → n2 ≤ k → k ≤ M → k = M by intro k a b c; have := HM.out; omega)
        have HML := hide (show ∀ k, k < n ∨ k < n2 → k + 1 ≤ M by intro k a; have := HM.out; omega)
        have hm1 : n ≤ M := by have := HM.out; omega
        have hm2 : n2 ≤ M := by have := HM.out; omega
        clear HM
        go_enter Try.func30, Try.ntmps30
        go_wp2_with fail
        refine (l3Good_any _ _ _ xs _ _ (hr.below (by repeat (first | exact Below.refl _ _ | (refine below_drewN ?_ _) | (refine Below.drew ?_) | (refine Below.alloc ?_ (by first | exact Nat.le_refl _ | (simp; done) | (simp; omega) | omega) _) | (refine Below.setCell ?_ (by first | exact Nat.le_refl _ | (simp; done) | (simp; omega) | omega) _) | (refine Below.trans ?_ (Below.mono (by assumption) (by first | exact Nat.le_refl _ | (simp; done) | (simp; omega) | omega)))))) hn).mono ?_
        rintro e w1 ⟨rfl, rfl⟩
        rw [h1.out]
        go_wp2_with fail
        refine (l3Good_any _ _ _ ys _ _ (hr2.below (by repeat (first | exact Below.refl _ _ | (refine below_drewN ?_ _) | (refine Below.drew ?_) | (refine Below.alloc ?_ (by first | exact Nat.le_refl _ | (simp; done) | (simp; omega) | omega) _) | (refine Below.setCell ?_ (by first | exact Nat.le_refl _ | (simp; done) | (simp; omega) | omega) _) | (refine Below.trans ?_ (Below.mono (by assumption) (by first | exact Nat.le_refl _ | (simp; done) | (simp; omega) | omega)))))) hn2).mono ?_
        rintro e w1 ⟨rfl, rfl⟩
        rw [h2.out]
        have HX := hide hr
        have HY := hide hr2
        have hz0 : w.heap.size ≤ w.heap.size := Nat.le_refl _
        have hB0 : Hid (Below w.heap.size w w) := Below.refl _ _
        clear hr hr2
        go_wp2_with fail
        go_loopw [8, 9] (fun u i wr => ∃ (k k2 : Nat) (A' : Option Addr) (c' : Nat), k ≤ M ∧ k2 ≤ 2 * k ∧ i = .int .i64 k ∧ u = .slice A' k2 c' ∧ Hid (OwnI wr w.heap.size A' k2 c' (weave xs ys k)) ∧ Hid (Below w.heap.size w wr)) (fun _ i _ => M - (intOf i).toNat)
        case atStart => exact ⟨0, 0, _, _, Nat.zero_le _, Nat.zero_le _, rfl, rfl, own_empty _ _ (Nat.le_refl _) _ rfl, (by repeat (first | exact Below.refl _ _ | (refine below_drewN ?_ _) | (refine Below.drew ?_) | (refine Below.alloc ?_ (by first | exact Nat.le_refl _ | (simp; done) | (simp; omega) | omega) _) | (refine Below.setCell ?_ (by first | exact Nat.le_refl _ | (simp; done) | (simp; omega) | omega) _) | (refine Below.trans ?_ (Below.mono (by assumption) (by first | exact Nat.le_refl _ | (simp; done) | (simp; omega) | omega)))))⟩
        case round =>
          obtain ⟨k, k2, A', c', hk, hk2, rfl, rfl, HO, HB⟩ := hrel
          by_cases hx : k < n
          · obtain ⟨b1, o1, rfl, hb1, hx0⟩ := (HX.out).at_ hx
            obtain ⟨x, hxv⟩ : ∃ x, Hid (xs.getD k 0 = x) := ⟨_, rfl⟩
            have hcx : wr.cell? ⟨b1, o1 + k, none⟩ = some (.int .i64 x) := by rw [← hxv.out]; exact (HB.out.cell (p := ⟨b1, o1 + k, none⟩) hb1).trans hx0
            have hx' : (k : Int) < (n : Int) := by omega
            clear hx0 hb1
            by_cases hy : k < n2
            · obtain ⟨b2, o2, rfl, hb2, hy0⟩ := (HY.out).at_ hy
              obtain ⟨y, hyv⟩ : ∃ y, Hid (ys.getD k 0 = y) := ⟨_, rfl⟩
              have hy' : (k : Int) < (n2 : Int) := by omega
              have HYC := hide (fun (W : World) (h : Below w.heap.size w W) => (h.cell (p := ⟨b2, o2 + k, none⟩) hb2).trans hy0)
              rw [hyv.out] at HYC
              clear hy0 hb2
              have HWV : Hid (weave xs ys (k + 1) = weave xs ys k ++ ([x] ++ [y])) := by unfold Hid; rw [weave_succ, if_pos (by rw [HX.out.1]; exact hx), if_pos (by rw [HY.out.1]; exact hy), hxv.out, hyv.out]
              have tok1 := trivial
              go_wp2_with (first | (at_builtin; have _t := tok1; clear _t; refine append_int rfl _ _ rfl w.heap.size A' k2 c' (weave xs ys k) _ _ rfl rfl HO.out (by omega) HB.out.size ?_; intro A3 c3 w3 ho3 hb3 hg3; replace ho3 := hide ho3; replace hb3 := hide hb3; clear hg3 tok1; have hcy := HYC.out _ (HB.out.trans hb3.out)) | (at_builtin; refine append_int rfl _ _ rfl w.heap.size A3 (k2 + 1) c3 (weave xs ys k ++ [x]) _ _ rfl rfl ho3.out (by omega) (HB.out.trans hb3.out).size ?_; intro A4 c4 w4 ho4 hb4 hg4; replace ho4 := hide ho4; replace hb4 := hide hb4; clear hg4))
              go_roundw
              case rel => first | exact ⟨k + 1, k2 + 1 + 1, A4, c4, by omega, by omega, by go_num, rfl, by have := ho4.out; rw [HWV.out]; simpa [Hid, List.append_assoc] using this, (HB.out.trans hb3.out).trans hb4.out⟩ | ((repeat apply Exists.intro); refine ⟨?_, rfl⟩; exact ⟨k + 1, k2 + 1 + 1, A4, c4, by omega, by omega, by go_num, rfl, by have := ho4.out; rw [HWV.out]; simpa [Hid, List.append_assoc] using this, (HB.out.trans hb3.out).trans hb4.out⟩)
              case measure => first | (simp [intOf]; done) | (simp [intOf]; omega)
            · have hy' : ¬ (k : Int) < (n2 : Int) := by omega
              have HWV : Hid (weave xs ys (k + 1) = weave xs ys k ++ ([x] ++ [])) := by unfold Hid; rw [weave_succ, if_pos (by rw [HX.out.1]; exact hx), if_neg (by rw [HY.out.1]; exact hy), hxv.out]
              have tok1 := trivial
              go_wp2_with (first | (at_builtin; have _t := tok1; clear _t; refine append_int rfl _ _ rfl w.heap.size A' k2 c' (weave xs ys k) _ _ rfl rfl HO.out (by omega) HB.out.size ?_; intro A3 c3 w3 ho3 hb3 hg3; replace ho3 := hide ho3; replace hb3 := hide hb3; clear hg3 tok1))
              go_roundw
              case rel => first | exact ⟨k + 1, k2 + 1, A3, c3, by omega, by omega, by go_num, rfl, by have := ho3.out; rw [HWV.out]; simpa [Hid] using this, HB.out.trans hb3.out⟩ | ((repeat apply Exists.intro); refine ⟨?_, rfl⟩; exact ⟨k + 1, k2 + 1, A3, c3, by omega, by omega, by go_num, rfl, by have := ho3.out; rw [HWV.out]; simpa [Hid] using this, HB.out.trans hb3.out⟩)
              case measure => first | (simp [intOf]; done) | (simp [intOf]; omega)
          · have hx' : ¬ (k : Int) < (n : Int) := by omega
            by_cases hy : k < n2
            · obtain ⟨b2, o2, rfl, hb2, hy0⟩ := (HY.out).at_ hy
              obtain ⟨y, hyv⟩ : ∃ y, Hid (ys.getD k 0 = y) := ⟨_, rfl⟩
              have hy' : (k : Int) < (n2 : Int) := by omega
              have hcy : wr.cell? ⟨b2, o2 + k, none⟩ = some (.int .i64 y) := by rw [← hyv.out]; exact (HB.out.cell (p := ⟨b2, o2 + k, none⟩) hb2).trans hy0
              clear hy0 hb2
              have HWV : Hid (weave xs ys (k + 1) = weave xs ys k ++ ([] ++ [y])) := by unfold Hid; rw [weave_succ, if_neg (by rw [HX.out.1]; exact hx), if_pos (by rw [HY.out.1]; exact hy), hyv.out]
              have tok1 := trivial
              go_wp2_with (first | (at_builtin; have _t := tok1; clear _t; refine append_int rfl _ _ rfl w.heap.size A' k2 c' (weave xs ys k) _ _ rfl rfl HO.out (by omega) HB.out.size ?_; intro A3 c3 w3 ho3 hb3 hg3; replace ho3 := hide ho3; replace hb3 := hide hb3; clear hg3 tok1))
              go_roundw
              case rel => first | exact ⟨k + 1, k2 + 1, A3, c3, by omega, by omega, by go_num, rfl, by have := ho3.out; rw [HWV.out]; simpa [Hid] using this, HB.out.trans hb3.out⟩ | ((repeat apply Exists.intro); refine ⟨?_, rfl⟩; exact ⟨k + 1, k2 + 1, A3, c3, by omega, by omega, by go_num, rfl, by have := ho3.out; rw [HWV.out]; simpa [Hid] using this, HB.out.trans hb3.out⟩)
              case measure => first | (simp [intOf]; done) | (simp [intOf]; omega)
            · have hy' : ¬ (k : Int) < (n2 : Int) := by omega
              obtain rfl := HMX.out k (by omega) (by omega) (by omega)
              go_wp2
              go_ret2
              exact RetI.of (HO.out.more hz0) (hB0.out.trans (HB.out.mono hz0)) HV.out
      · have HV := hide (show weaveRequestsV q xs ys = ([], false) by unfold weaveRequestsV twoOk; rw [h1, h2, hr.1, hr2.1]; simp; omega)
        replace h1 := hide h1
        replace h2 := hide h2
        have h3' : ¬ ((n : Int) + (n2 : Int)) ≤ 60 := by omega
        go_enter Try.func30, Try.ntmps30
        go_wp2_with fail
        refine (l3Good_any _ _ _ xs _ _ (hr.below (by repeat (first | exact Below.refl _ _ | (refine below_drewN ?_ _) | (refine Below.drew ?_) | (refine Below.alloc ?_ (by first | exact Nat.le_refl _ | (simp; done) | (simp; omega) | omega) _) | (refine Below.setCell ?_ (by first | exact Nat.le_refl _ | (simp; done) | (simp; omega) | omega) _) | (refine Below.trans ?_ (Below.mono (by assumption) (by first | exact Nat.le_refl _ | (simp; done) | (simp; omega) | omega)))))) hn).mono ?_
        rintro e w1 ⟨rfl, rfl⟩
        rw [h1.out]
        go_wp2_with fail
        refine (l3Good_any _ _ _ ys _ _ (hr2.below (by repeat (first | exact Below.refl _ _ | (refine below_drewN ?_ _) | (refine Below.drew ?_) | (refine Below.alloc ?_ (by first | exact Nat.le_refl _ | (simp; done) | (simp; omega) | omega) _) | (refine Below.setCell ?_ (by first | exact Nat.le_refl _ | (simp; done) | (simp; omega) | omega) _) | (refine Below.trans ?_ (Below.mono (by assumption) (by first | exact Nat.le_refl _ | (simp; done) | (simp; omega) | omega)))))) hn2).mono ?_
        rintro e w1 ⟨rfl, rfl⟩
        rw [h2.out]
        go_wp2
        go_ret2
        exact RetI.of (own_empty _ _ (Nat.le_refl _) _ rfl) (by repeat (first | exact Below.refl _ _ | (refine below_drewN ?_ _) | (refine Below.drew ?_) | (refine Below.alloc ?_ (by first | exact Nat.le_refl _ | (simp; done) | (simp; omega) | omega) _) | (refine Below.setCell ?_ (by first | exact Nat.le_refl _ | (simp; done) | (simp; omega) | omega) _) | (refine Below.trans ?_ (Below.mono (by assumption) (by first | exact Nat.le_refl _ | (simp; done) | (simp; omega) | omega))))) HV.out

set_option maxHeartbeats 3200000 in
theorem impl_WeaveRequests (q : Int) (A : Option Addr) (n c : Nat) (xs : List Int) (A2 : Option Addr) (n2 c2 : Nat) (ys : List Int) (w : World) (_ : -9223372036854775808 ≤ q) (_ : q ≤ 9223372036854775807) (hr : RdI w A n xs) (hn : n ≤ 1048576) (_ : ∀ x ∈ xs, -9223372036854775808 ≤ x ∧ x ≤ 9223372036854775807) (hr2 : RdI w A2 n2 ys) (hn2 : n2 ≤ 1048576) (_ : ∀ x ∈ ys, -9223372036854775808 ≤ x ∧ x ≤ 9223372036854775807) :
    Calls Try.prog 31 #[.int .i64 q, .slice A n c, .slice A2 n2 c2] w (RetI w (weaveRequestsV q xs ys)) := by
  cases h1 : reqB q xs
  · have HV := hide (show weaveRequestsV q xs ys = ([], false) by unfold weaveRequestsV twoOk; rw [h1]; rfl)
    replace h1 := hide h1
    go_enter Try.func31, Try.ntmps31
    go_wp2_with fail
    refine (isRequests_any _ _ _ xs _ _ hr hn).mono ?_
    rintro e w1 ⟨rfl, hb1⟩
    rw [h1.out]
    go_wp2
    go_ret2
    exact RetI.of (OwnI.nil _ _) hb1 HV.out
  · cases h2 : reqB q ys
    · have HV := hide (show weaveRequestsV q xs ys = ([], false) by unfold weaveRequestsV twoOk; rw [h1, h2]; rfl)
      replace h1 := hide h1
      replace h2 := hide h2
      go_enter Try.func31, Try.ntmps31
      go_wp2_with fail
      refine (isRequests_any _ _ _ xs _ _ hr hn).mono ?_
      rintro e w1 ⟨rfl, hb1⟩
      rw [h1.out]
      go_wp2_with fail
      refine (isRequests_any _ _ _ ys _ _ (hr2.below hb1) hn2).mono ?_
      rintro e w2 ⟨rfl, hb2⟩
      rw [h2.out]
      replace hb2 := hide (hb1.trans (hb2.mono hb1.size))
      clear hb1
      go_wp2
      go_ret2
      exact RetI.of (OwnI.nil _ _) hb2.out HV.out
    · by_cases h3 : n + n2 ≤ 60
      · have HV := hide (show weaveRequestsV q xs ys = (weave xs ys (max n n2), true) by unfold weaveRequestsV twoOk; rw [h1, h2, hr.1, hr2.1]; simp [h3])
        replace h1 := hide h1
        replace h2 := hide h2
        have h3' : ((n : Int) + (n2 : Int)) ≤ 60 := by omega
        have HX0 := hide hr
        have HY0 := hide hr2
        obtain ⟨M, hm1, hm2, hm3, HM, HMX⟩ : ∃ M : Nat, n ≤ M ∧ n2 ≤ M ∧ M ≤ 60 ∧ Hid (max n n2 = M) ∧ Hid (∀ k, n ≤ k → n2 ≤ k → k ≤ M → k = M) := ⟨max n n2, by omega, by omega, by omega, rfl, by intro k a b c; omega⟩
        rw [HM.out] at HV
        have hcs : Hid ((n < n2 ∧ M = n2) ∨ (n2 ≤ n ∧ M = n)) := by have := HM.out; unfold Hid; omega
        clear HM
        have key : ∀ (wx : World), Below w.heap.size w wx → True := fun _ _ => trivial
        rcases hcs.out with ⟨hle, he⟩ | ⟨hle, he⟩
        · obtain rfl := he.symm
          have hle2 : ¬ ((n2 : Int) ≤ (n : Int)) := by omega
          clear hcs
          go_enter Try.func31, Try.ntmps31
          go_wp2_with fail
          refine (isRequests_any _ _ _ xs _ _ hr hn).mono ?_
          rintro e w1 ⟨rfl, hb1⟩
          rw [h1.out]
          go_wp2_with fail
          refine (isRequests_any _ _ _ ys _ _ (hr2.below hb1) hn2).mono ?_
          rintro e w2 ⟨rfl, hb2⟩
          rw [h2.out]
          replace hb2 := hide (hb1.trans (hb2.mono hb1.size))
          clear hb1
          have HX := hide (HX0.out.below hb2.out)
          have HY := hide (HY0.out.below hb2.out)
          have hz0 : w.heap.size ≤ w2.heap.size := hb2.out.size
          have hB0 := hb2
          clear hr hr2
          go_wp2_with fail
          go_loopw [8, 9, 34] (fun u _ i wr => ∃ (k k2 : Nat) (A' : Option Addr) (c' : Nat), k ≤ n2 ∧ k2 ≤ 2 * k ∧ i = .int .i64 k ∧ u = .slice A' k2 c' ∧ Hid (OwnI wr w2.heap.size A' k2 c' (weave xs ys k)) ∧ Hid (Below w2.heap.size w2 wr)) (fun _ _ i _ => n2 - (intOf i).toNat)
          case atStart => exact ⟨0, 0, _, _, Nat.zero_le _, Nat.zero_le _, rfl, rfl, own_empty _ _ (Nat.le_refl _) _ rfl, (by repeat (first | exact Below.refl _ _ | (refine below_drewN ?_ _) | (refine Below.drew ?_) | (refine Below.alloc ?_ (by first | exact Nat.le_refl _ | (simp; done) | (simp; omega) | omega) _) | (refine Below.setCell ?_ (by first | exact Nat.le_refl _ | (simp; done) | (simp; omega) | omega) _) | (refine Below.trans ?_ (Below.mono (by assumption) (by first | exact Nat.le_refl _ | (simp; done) | (simp; omega) | omega)))))⟩
          case round =>
            obtain ⟨k, k2, A', c', hk, hk2, rfl, rfl, HO, HB⟩ := hrel
            by_cases hx : k < n
            · obtain ⟨b1, o1, rfl, hb1, hx0⟩ := (HX.out).at_ hx
              obtain ⟨x, hxv⟩ : ∃ x, Hid (xs.getD k 0 = x) := ⟨_, rfl⟩
              have hcx : wr.cell? ⟨b1, o1 + k, none⟩ = some (.int .i64 x) := by rw [← hxv.out]; exact (HB.out.cell (p := ⟨b1, o1 + k, none⟩) hb1).trans hx0
              have hx' : (k : Int) < (n : Int) := by omega
              clear hx0 hb1
              by_cases hy : k < n2
              · obtain ⟨b2, o2, rfl, hb2, hy0⟩ := (HY.out).at_ hy
                obtain ⟨y, hyv⟩ : ∃ y, Hid (ys.getD k 0 = y) := ⟨_, rfl⟩
                have hy' : (k : Int) < (n2 : Int) := by omega
                have HYC := hide (fun (W : World) (h : Below w2.heap.size w2 W) => (h.cell (p := ⟨b2, o2 + k, none⟩) hb2).trans hy0)
                rw [hyv.out] at HYC
                clear hy0 hb2
                have HWV : Hid (weave xs ys (k + 1) = weave xs ys k ++ ([x] ++ [y])) := by unfold Hid; rw [weave_succ, if_pos (by rw [HX.out.1]; exact hx), if_pos (by rw [HY.out.1]; exact hy), hxv.out, hyv.out]
                have tok1 := trivial
                go_wp2_with (first | (at_builtin; have _t := tok1; clear _t; refine append_int rfl _ _ rfl w2.heap.size A' k2 c' (weave xs ys k) _ _ rfl rfl HO.out (by omega) HB.out.size ?_; intro A3 c3 w3 ho3 hb3 hg3; replace ho3 := hide ho3; replace hb3 := hide hb3; clear hg3 tok1; have hcy := HYC.out _ (HB.out.trans hb3.out)) | (at_builtin; refine append_int rfl _ _ rfl w2.heap.size A3 (k2 + 1) c3 (weave xs ys k ++ [x]) _ _ rfl rfl ho3.out (by omega) (HB.out.trans hb3.out).size ?_; intro A4 c4 w4 ho4 hb4 hg4; replace ho4 := hide ho4; replace hb4 := hide hb4; clear hg4))
                go_roundw
                case rel => first | exact ⟨k + 1, k2 + 1 + 1, A4, c4, by omega, by omega, by go_num, rfl, by have := ho4.out; rw [HWV.out]; simpa [Hid, List.append_assoc] using this, (HB.out.trans hb3.out).trans hb4.out⟩ | ((repeat apply Exists.intro); refine ⟨?_, rfl⟩; exact ⟨k + 1, k2 + 1 + 1, A4, c4, by omega, by omega, by go_num, rfl, by have := ho4.out; rw [HWV.out]; simpa [Hid, List.append_assoc] using this, (HB.out.trans hb3.out).trans hb4.out⟩)
                case measure => first | (simp [intOf]; done) | (simp [intOf]; omega)
              · exfalso; omega
            · have hx' : ¬ (k : Int) < (n : Int) := by omega
              by_cases hy : k < n2
              · obtain ⟨b2, o2, rfl, hb2, hy0⟩ := (HY.out).at_ hy
                obtain ⟨y, hyv⟩ : ∃ y, Hid (ys.getD k 0 = y) := ⟨_, rfl⟩
                have hy' : (k : Int) < (n2 : Int) := by omega
                have hcy : wr.cell? ⟨b2, o2 + k, none⟩ = some (.int .i64 y) := by rw [← hyv.out]; exact (HB.out.cell (p := ⟨b2, o2 + k, none⟩) hb2).trans hy0
                clear hy0 hb2
                have HWV : Hid (weave xs ys (k + 1) = weave xs ys k ++ ([] ++ [y])) := by unfold Hid; rw [weave_succ, if_neg (by rw [HX.out.1]; exact hx), if_pos (by rw [HY.out.1]; exact hy), hyv.out]
                have tok1 := trivial
                go_wp2_with (first | (at_builtin; have _t := tok1; clear _t; refine append_int rfl _ _ rfl w2.heap.size A' k2 c' (weave xs ys k) _ _ rfl rfl HO.out (by omega) HB.out.size ?_; intro A3 c3 w3 ho3 hb3 hg3; replace ho3 := hide ho3; replace hb3 := hide hb3; clear hg3 tok1))
                go_roundw
                case rel => first | exact ⟨k + 1, k2 + 1, A3, c3, by omega, by omega, by go_num, rfl, by have := ho3.out; rw [HWV.out]; simpa [Hid] using this, HB.out.trans hb3.out⟩ | ((repeat apply Exists.intro); refine ⟨?_, rfl⟩; exact ⟨k + 1, k2 + 1, A3, c3, by omega, by omega, by go_num, rfl, by have := ho3.out; rw [HWV.out]; simpa [Hid] using this, HB.out.trans hb3.out⟩)
                case measure => first | (simp [intOf]; done) | (simp [intOf]; omega)
              · have hy' : ¬ (k : Int) < (n2 : Int) := by omega
                obtain rfl := HMX.out k (by omega) (by omega) (by omega)
                go_wp2
                go_ret2
                exact RetI.of (HO.out.more hz0) (hB0.out.trans (HB.out.mono hz0)) HV.out
        · obtain rfl := he.symm
          have hle2 : ((n2 : Int) ≤ (n : Int)) := by omega
          clear hcs
          go_enter Try.func31, Try.ntmps31
          go_wp2_with fail
          refine (isRequests_any _ _ _ xs _ _ hr hn).mono ?_
          rintro e w1 ⟨rfl, hb1⟩
          rw [h1.out]
          go_wp2_with fail
          refine (isRequests_any _ _ _ ys _ _ (hr2.below hb1) hn2).mono ?_
          rintro e w2 ⟨rfl, hb2⟩
          rw [h2.out]
          replace hb2 := hide (hb1.trans (hb2.mono hb1.size))
          clear hb1
          have HX := hide (HX0.out.below hb2.out)
          have HY := hide (HY0.out.below hb2.out)
          have hz0 : w.heap.size ≤ w2.heap.size := hb2.out.size
          have hB0 := hb2
          clear hr hr2
          go_wp2_with fail
          go_loopw [8, 9, 34] (fun u _ i wr => ∃ (k k2 : Nat) (A' : Option Addr) (c' : Nat), k ≤ n ∧ k2 ≤ 2 * k ∧ i = .int .i64 k ∧ u = .slice A' k2 c' ∧ Hid (OwnI wr w2.heap.size A' k2 c' (weave xs ys k)) ∧ Hid (Below w2.heap.size w2 wr)) (fun _ _ i _ => n - (intOf i).toNat)
          case atStart => exact ⟨0, 0, _, _, Nat.zero_le _, Nat.zero_le _, rfl, rfl, own_empty _ _ (Nat.le_refl _) _ rfl, (by repeat (first | exact Below.refl _ _ | (refine below_drewN ?_ _) | (refine Below.drew ?_) | (refine Below.alloc ?_ (by first | exact Nat.le_refl _ | (simp; done) | (simp; omega) | omega) _) | (refine Below.setCell ?_ (by first | exact Nat.le_refl _ | (simp; done) | (simp; omega) | omega) _) | (refine Below.trans ?_ (Below.mono (by assumption) (by first | exact Nat.le_refl _ | (simp; done) | (simp; omega) | omega)))))⟩
          case round =>
            obtain ⟨k, k2, A', c', hk, hk2, rfl, rfl, HO, HB⟩ := hrel
            by_cases hx : k < n
            · obtain ⟨b1, o1, rfl, hb1, hx0⟩ := (HX.out).at_ hx
              obtain ⟨x, hxv⟩ : ∃ x, Hid (xs.getD k 0 = x) := ⟨_, rfl⟩
              have hcx : wr.cell? ⟨b1, o1 + k, none⟩ = some (.int .i64 x) := by rw [← hxv.out]; exact (HB.out.cell (p := ⟨b1, o1 + k, none⟩) hb1).trans hx0
              have hx' : (k : Int) < (n : Int) := by omega
              clear hx0 hb1
              by_cases hy : k < n2
              · obtain ⟨b2, o2, rfl, hb2, hy0⟩ := (HY.out).at_ hy
                obtain ⟨y, hyv⟩ : ∃ y, Hid (ys.getD k 0 = y) := ⟨_, rfl⟩
                have hy' : (k : Int) < (n2 : Int) := by omega
                have HYC := hide (fun (W : World) (h : Below w2.heap.size w2 W) => (h.cell (p := ⟨b2, o2 + k, none⟩) hb2).trans hy0)
                rw [hyv.out] at HYC
                clear hy0 hb2
                have HWV : Hid (weave xs ys (k + 1) = weave xs ys k ++ ([x] ++ [y])) := by unfold Hid; rw [weave_succ, if_pos (by rw [HX.out.1]; exact hx), if_pos (by rw [HY.out.1]; exact hy), hxv.out, hyv.out]
                have tok1 := trivial
                go_wp2_with (first | (at_builtin; have _t := tok1; clear _t; refine append_int rfl _ _ rfl w2.heap.size A' k2 c' (weave xs ys k) _ _ rfl rfl HO.out (by omega) HB.out.size ?_; intro A3 c3 w3 ho3 hb3 hg3; replace ho3 := hide ho3; replace hb3 := hide hb3; clear hg3 tok1; have hcy := HYC.out _ (HB.out.trans hb3.out)) | (at_builtin; refine append_int rfl _ _ rfl w2.heap.size A3 (k2 + 1) c3 (weave xs ys k ++ [x]) _ _ rfl rfl ho3.out (by omega) (HB.out.trans hb3.out).size ?_; intro A4 c4 w4 ho4 hb4 hg4; replace ho4 := hide ho4; replace hb4 := hide hb4; clear hg4))
                go_roundw
                case rel => first | exact ⟨k + 1, k2 + 1 + 1, A4, c4, by omega, by omega, by go_num, rfl, by have := ho4.out; rw [HWV.out]; simpa [Hid, List.append_assoc] using this, (HB.out.trans hb3.out).trans hb4.out⟩ | ((repeat apply Exists.intro); refine ⟨?_, rfl⟩; exact ⟨k + 1, k2 + 1 + 1, A4, c4, by omega, by omega, by go_num, rfl, by have := ho4.out; rw [HWV.out]; simpa [Hid, List.append_assoc] using this, (HB.out.trans hb3.out).trans hb4.out⟩)
                case measure => first | (simp [intOf]; done) | (simp [intOf]; omega)
              · have hy' : ¬ (k : Int) < (n2 : Int) := by omega
                have HWV : Hid (weave xs ys (k + 1) = weave xs ys k ++ ([x] ++ [])) := by unfold Hid; rw [weave_succ, if_pos (by rw [HX.out.1]; exact hx), if_neg (by rw [HY.out.1]; exact hy), hxv.out]
                have tok1 := trivial
                go_wp2_with (first | (at_builtin; have _t := tok1; clear _t; refine append_int rfl _ _ rfl w2.heap.size A' k2 c' (weave xs ys k) _ _ rfl rfl HO.out (by omega) HB.out.size ?_; intro A3 c3 w3 ho3 hb3 hg3; replace ho3 := hide ho3; replace hb3 := hide hb3; clear hg3 tok1))
                go_roundw
                case rel => first | exact ⟨k + 1, k2 + 1, A3, c3, by omega, by omega, by go_num, rfl, by have := ho3.out; rw [HWV.out]; simpa [Hid] using this, HB.out.trans hb3.out⟩ | ((repeat apply Exists.intro); refine ⟨?_, rfl⟩; exact ⟨k + 1, k2 + 1, A3, c3, by omega, by omega, by go_num, rfl, by have := ho3.out; rw [HWV.out]; simpa [Hid] using this, HB.out.trans hb3.out⟩)
                case measure => first | (simp [intOf]; done) | (simp [intOf]; omega)
            · have hx' : ¬ (k : Int) < (n : Int) := by omega
              by_cases hy : k < n2
              · exfalso; omega
              · have hy' : ¬ (k : Int) < (n2 : Int) := by omega
                obtain rfl := HMX.out k (by omega) (by omega) (by omega)
                go_wp2
                go_ret2
                exact RetI.of (HO.out.more hz0) (hB0.out.trans (HB.out.mono hz0)) HV.out
      · have HV := hide (show weaveRequestsV q xs ys = ([], false) by unfold weaveRequestsV twoOk; rw [h1, h2, hr.1, hr2.1]; simp; omega)
        replace h1 := hide h1
        replace h2 := hide h2
        have h3' : ¬ ((n : Int) + (n2 : Int)) ≤ 60 := by omega
        go_enter Try.func31, Try.ntmps31
        go_wp2_with fail
        refine (isRequests_any _ _ _ xs _ _ hr hn).mono ?_
        rintro e w1 ⟨rfl, hb1⟩
        rw [h1.out]
        go_wp2_with fail
        refine (isRequests_any _ _ _ ys _ _ (hr2.below hb1) hn2).mono ?_
        rintro e w2 ⟨rfl, hb2⟩
        rw [h2.out]
        replace hb2 := hide (hb1.trans (hb2.mono hb1.size))
        clear hb1
        go_wp2
        go_ret2
        exact RetI.of (OwnI.nil _ _) hb2.out HV.out

end Go.Proofs.Ytaoacpikmpoodaa
