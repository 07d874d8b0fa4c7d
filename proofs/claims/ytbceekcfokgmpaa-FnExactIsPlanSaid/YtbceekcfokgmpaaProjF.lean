/- ProjectRequests: the reference and the program return the same; for slices of at most 2^20 numbers that can be read. -/
import Derived.Test.YtbceekcfokgmpaaProject
namespace Go.Proofs.Ytbceekcfokgmpaa
open Go.RowKit Go.Lib Go.Sort Go.Shelf
def projOk (q : Int) (xs ys : List Int) : Bool := reqB q xs && risB q ys
def projL (xs ys : List Int) : List Int := xs.filter fun x => hasB ys x
def projectRequestsV (q : Int) (xs ys : List Int) : List Int × Bool := if projOk q xs ys = true then (projL xs ys, true) else ([], false)
theorem projL_len (xs ys : List Int) : (projL xs ys).length ≤ xs.length := List.length_filter_le _ _
theorem projectRequestsV_len (q : Int) (xs ys : List Int) (h : xs.length ≤ 1048576) (_ : ys.length ≤ 1048576) : (projectRequestsV q xs ys).1.length ≤ 1048576 := by
  unfold projectRequestsV
  split
  · have := projL_len xs ys
    show (projL xs ys).length ≤ 1048576
    omega
  · simp
theorem contains_no (xs : List Int) (x : Int) (h : ∀ j, j < xs.length → xs.getD j 0 ≠ x) : hasB xs x = false := by
  unfold hasB
  rw [Bool.eq_false_iff]
  intro hc
  rw [List.contains_iff_mem] at hc
  obtain ⟨j, hj, rfl⟩ := List.getElem_of_mem hc
  exact h j hj (getD_elem xs j hj)
theorem contains_yes (xs : List Int) (x : Int) (j : Nat) (hj : j < xs.length) (h : xs.getD j 0 = x) : hasB xs x = true := by
  unfold hasB
  rw [List.contains_iff_mem, ← h]
  exact mem_getD hj

set_option maxHeartbeats 800000 in
theorem l1Has_any (A : Option Addr) (n c : Nat) (xs : List Int) (x : Int) (w : World) (hr : RdI w A n xs) (hn : n ≤ 1048576) :
    Calls Try.prog 75 #[.slice A n c, .int .i64 x] w fun e w' => e = .returned (.bool (hasB xs x)) ∧ w = w' := by
  have hlen := hide hr.1
  have HR := hide hr
  clear hr
  go_enter Try.func75, Try.ntmps75
  go_wp2_with fail
  go_loop [5] (fun i => ∃ k : Nat, k ≤ n ∧ i = .int .i64 k ∧ Hid (∀ j, j < k → xs.getD j 0 ≠ x)) (fun i => n - (intOf i).toNat)
  case atStart => exact ⟨0, Nat.zero_le _, rfl, fun j hj => absurd hj (Nat.not_lt_zero _)⟩
  case round =>
    obtain ⟨k, hk, rfl, HA⟩ := hrel
    by_cases hlt : k < n
    · have hlt' : (k : Int) < (n : Int) := by omega
      obtain ⟨b, off, rfl, _, hc⟩ := (HR.out).at_ hlt
      obtain ⟨v, hv⟩ : ∃ v, Hid (xs.getD k 0 = v) := ⟨_, rfl⟩
      rw [hv.out] at hc
      by_cases hxv : v = x
      · have HF := hide (contains_yes xs x k (by rw [hlen.out]; exact hlt) (by rw [hv.out]; exact hxv))
        have hq : (v == x) = true := by simpa using hxv
        clear hxv
        go_wp2
        go_ret
        exact ⟨ret_bool HF.out.symm, rfl⟩
      · have HA2 : Hid (∀ j, j < k + 1 → xs.getD j 0 ≠ x) := fun j hj => by
          by_cases e : j < k
          · exact HA.out j e
          · obtain rfl : j = k := by omega
            rw [hv.out]
            exact hxv
        have hq : (v == x) = false := by simpa using hxv
        clear hxv
        go_wp2
        go_round
        case rel => first | exact ⟨k + 1, by omega, by go_num, HA2⟩ | ((repeat apply Exists.intro); refine ⟨?_, rfl⟩; exact ⟨k + 1, by omega, by go_num, HA2⟩)
        case measure => first | (simp [intOf]; done) | (simp [intOf]; omega)
    · have hkn : k = n := by omega
      subst hkn
      have HF := hide (contains_no xs x (by rw [hlen.out]; exact HA.out))
      go_wp2
      go_ret
      exact ⟨ret_bool HF.out.symm, rfl⟩

set_option maxHeartbeats 1600000 in
theorem l3Project_any (A : Option Addr) (n c : Nat) (xs : List Int) (A2 : Option Addr) (n2 c2 : Nat) (ys : List Int) (w : World) (hr : RdI w A n xs) (hr2 : RdI w A2 n2 ys) (hn : n ≤ 1000) (hn2 : n2 ≤ 1048576) :
    Calls Try.prog 56 #[.slice A n c, .slice A2 n2 c2] w (RetO w (projL xs ys)) := by
  have hlen := hide hr.1
  have HR := hide hr
  have HY := hide hr2
  clear hr hr2
  go_enter Try.func56, Try.ntmps56
  go_wp2_with fail
  go_loopw [5, 6] (fun u i wr => ∃ (k m : Nat) (A' : Option Addr) (c' : Nat), k ≤ n ∧ i = .int .i64 k ∧ u = .slice A' m c' ∧ Hid (OwnI wr w.heap.size A' m c' (projL (xs.take k) ys)) ∧ Hid (Below w.heap.size w wr)) (fun _ i _ => n - (intOf i).toNat)
  case atStart => exact ⟨0, 0, _, _, Nat.zero_le _, rfl, rfl, own_empty _ _ (Nat.le_refl _) _ rfl, (by repeat (first | exact Below.refl _ _ | (refine below_drewN ?_ _) | (refine Below.drew ?_) | (refine Below.alloc ?_ (by first | exact Nat.le_refl _ | (simp; done) | (simp; omega) | omega) _) | (refine Below.setCell ?_ (by first | exact Nat.le_refl _ | (simp; done) | (simp; omega) | omega) _) | (refine Below.trans ?_ (Below.mono (by assumption) (by first | exact Nat.le_refl _ | (simp; done) | (simp; omega) | omega)))))⟩
  case round =>
    obtain ⟨k, m, A', c', hk, rfl, rfl, HO, HB⟩ := hrel
    by_cases hlt : k < n
    · have hlt' : (k : Int) < (n : Int) := by omega
      obtain ⟨b, off, rfl, _, hc⟩ := (HR.out.below HB.out).at_ hlt
      obtain ⟨v, hv⟩ : ∃ v, Hid (xs.getD k 0 = v) := ⟨_, rfl⟩
      rw [hv.out] at hc
      have HYr := hide (HY.out.below HB.out)
      have hm : m ≤ 1000 := by
        have h1 := HO.out.len
        have h2 := projL_len (xs.take k) ys
        have h3 : (xs.take k).length ≤ k := List.length_take_le _ _
        omega
      have HE : Hid (projL (xs.take (k + 1)) ys = projL (xs.take k) ys ++ if hasB ys v = true then [v] else []) := by
        unfold projL Hid
        rw [take_snocI xs k (by rw [hlen.out]; exact hlt), List.filter_append, hv.out]
        congr 1
        cases h : hasB ys v <;> simp [h]
      cases hq : hasB ys v
      · have HQ := hide hq
        clear hq
        go_wp2_with (go_at_call 75; refine (l1Has_any _ _ _ ys _ _ HYr.out hn2).mono ?_; rintro e w1 ⟨rfl, rfl⟩; rw [HQ.out])
        go_roundw
        case rel => first | exact ⟨k + 1, m, A', c', by omega, by go_num, rfl, by rw [HE.out, HQ.out]; simpa using HO, HB⟩ | ((repeat apply Exists.intro); refine ⟨?_, rfl⟩; exact ⟨k + 1, m, A', c', by omega, by go_num, rfl, by rw [HE.out, HQ.out]; simpa using HO, HB⟩)
        case measure => first | (simp [intOf]; done) | (simp [intOf]; omega)
      · have HQ := hide hq
        clear hq
        go_wp2_with (first | (go_at_call 75; refine (l1Has_any _ _ _ ys _ _ HYr.out hn2).mono ?_; rintro e w1 ⟨rfl, rfl⟩; rw [HQ.out]) | (at_builtin; refine append_int rfl _ _ rfl w.heap.size A' m c' (projL (xs.take k) ys) _ _ rfl rfl HO.out (by omega) HB.out.size ?_; intro A3 c3 w3 ho3 hb3 hg3; replace ho3 := hide ho3; replace hb3 := hide hb3; clear hg3))
        go_roundw
        case rel => first | exact ⟨k + 1, m + 1, A3, c3, by omega, by go_num, rfl, by rw [HE.out, HQ.out]; exact ho3, HB.out.trans hb3.out⟩ | ((repeat apply Exists.intro); refine ⟨?_, rfl⟩; exact ⟨k + 1, m + 1, A3, c3, by omega, by go_num, rfl, by rw [HE.out, HQ.out]; exact ho3, HB.out.trans hb3.out⟩)
        case measure => first | (simp [intOf]; done) | (simp [intOf]; omega)
    · have hkn : k = n := by omega
      subst hkn
      have HT : Hid (projL (xs.take k) ys = projL xs ys) := by
        unfold Hid
        rw [List.take_of_length_le (by rw [hlen.out]; exact Nat.le_refl _)]
      rw [HT.out] at HO
      go_wp2
      go_ret
      exact RetO.of HO.out HB.out rfl

/-- slices.DeleteFunc of a slice of the call's own, at a predicate that turns nothing. -/
theorem deleteFunc_any (A : Option Addr) (n c base : Nat) (xs : List Int) (w : World) (ho : OwnI w base A n c xs) (hn : n ≤ 1048576) (g : Nat) (lb : Array Value) (eg : ∀ args w, (callFunc g args).run Try.prog w = .ok (.enter g args) w) (p : Int → Bool)
    (hp : PredAt Try.prog g lb (Value.int .i64) p w) (hpo : ∀ blk, base ≤ blk → blk < w.heap.size → PredOver Try.prog g lb (Value.int .i64) p blk 0 xs.length w) :
    Calls Try.prog 59 #[.slice A n c, .func (.func g) #[] lb] w fun e w' => e = .returned (.slice A (xs.filter fun x => !p x).length c) ∧ OwnI w' base A (xs.filter fun x => !p x).length c (xs.filter fun x => !p x) ∧ Below base w w' := by
  rcases ho.2 with ⟨e1, e2⟩ | ⟨g0, cap, cur, e1, hg, hh, h1, h2, h3, h4⟩
  · injection e1 with e3 e4 e5
    subst e3 e4 e5
    have hx : xs = [] := List.length_eq_zero_iff.1 ho.len
    subst hx
    have hI : Hid (idxP p [] = -1) := by simp [idxP, Hid]
    have hcon := hide (indexFunc_any g lb eg p none 0 0 [] w ho.rd (by omega) (fun x hx => by cases hx))
    clear hp hpo e2 eg
    go_enter Try.func59, Try.ntmps59
    go_wp2_with (go_at_call 88; refine hcon.out.mono ?_; rintro e w' ⟨rfl, rfl⟩; rw [hI.out])
    go_ret
    exact ⟨rfl, ho, Below.refl _ _⟩
  · injection e1 with e3 e4 e5
    subst e3 e5
    have hl := ho.len
    subst hl
    rw [Nat.mul_one] at h4
    have hH := holds_of_blockI (ss := xs) hh h4
    have hlt := (Array.getElem?_eq_some_iff.1 hh).1
    have hk : (xs.filter fun x => !p x).length ≤ xs.length := List.length_filter_le _ _
    refine (Try.slices_DeleteFunc (Value.int .i64) (fun _ => rfl) p g lb eg 0 Try.zeroValue3 g0 0 c xs.toArray w hp (by have := hpo g0 hg hlt; simpa using this) hH (by simp; omega) (by simpa using h1)).mono ?_
    rintro e w' ⟨rfl, q, rfl⟩
    refine ⟨rfl, ?_, below_putRow (Below.refl _ _) hg⟩
    have := ownsRow_putRow (q := q) ho (ys := (xs.filter fun x => !p x) ++ List.replicate (xs.length - (xs.filter fun x => !p x).length) 0) (by simp; omega) hk
    rw [List.take_left] at this
    exact this

theorem proj_gives (A2 : Option Addr) (n2 c2 : Nat) (ys : List Int) (x : Int) (B : Nat) (W : World) (hc : W.cell? ⟨B, 0, none⟩ = some (.slice A2 n2 c2)) (hr : RdI W A2 n2 ys) (hn : n2 ≤ 1048576) :
    FnGives Try.prog 61 #[.pointer (some ⟨B, 0, none⟩)] #[.int .i64 x] (.bool (!hasB ys x)) W := by
  show Calls Try.prog 61 #[.int .i64 x, .pointer (some ⟨B, 0, none⟩)] W _
  have HR := hide hr
  clear hr
  cases hq : hasB ys x
  all_goals
    have HQ := hide hq
    clear hq
    go_enter Try.func61, Try.ntmps61
    go_wp2_with (go_at_call 62; refine (contains_any _ _ _ ys _ _ HR.out hn).mono ?_; rintro e w1 ⟨rfl, rfl⟩; rw [HQ.out])
    go_ret
    exact ⟨rfl, 0, rfl⟩
theorem rd_over {w : World} {A2 : Option Addr} {n2 blk m : Nat} {ys : List Int} (dk : Array Int) (os : Array Obj) (hr : RdI w A2 n2 ys) (hb : 0 < n2 → ∀ a, A2 = some a → a.block ≠ blk) : RdI (sortWorld (Value.int .i64) w blk 0 m dk os) A2 n2 ys :=
  ⟨hr.1, fun hn => by
    obtain ⟨b, off, rfl, hlt, hc⟩ := hr.2 hn
    refine ⟨b, off, rfl, ?_, fun j hj => ?_⟩
    · unfold sortWorld
      rw [show (grow (putRow (Value.int .i64) (Sort.ahead w m) blk 0 dk) os).heap = (putRow (Value.int .i64) (Sort.ahead w m) blk 0 dk).heap ++ os from rfl, Array.size_append, size_putRow]
      simp
      omega
    · unfold sortWorld
      rw [cell?_grow _ _ _ (by show b < (putRow _ _ _ _ _).heap.size; rw [size_putRow]; exact hlt), cell?_putRow_other _ _ blk 0 _ ⟨b, off + j, none⟩ (Or.inl (hb hn ⟨b, off, none⟩ rfl))]
      exact hc j hj⟩

set_option maxHeartbeats 1600000 in
theorem spec_ProjectRequests (q : Int) (A : Option Addr) (n c : Nat) (xs : List Int) (A2 : Option Addr) (n2 c2 : Nat) (ys : List Int) (w : World) (_ : -9223372036854775808 ≤ q) (_ : q ≤ 9223372036854775807) (hr : RdI w A n xs) (hn : n ≤ 1048576) (_ : ∀ x ∈ xs, -9223372036854775808 ≤ x ∧ x ≤ 9223372036854775807) (hr2 : RdI w A2 n2 ys) (hn2 : n2 ≤ 1048576) (_ : ∀ x ∈ ys, -9223372036854775808 ≤ x ∧ x ≤ 9223372036854775807) :
    Calls Try.prog 25 #[.int .i64 q, .slice A n c, .slice A2 n2 c2] w (RetI w (projectRequestsV q xs ys)) := by
  have HX := hide hr
  have HY := hide hr2
  cases hg : reqB q xs
  · have HV := hide (show projectRequestsV q xs ys = ([], false) by unfold projectRequestsV projOk; rw [hg]; rfl)
    replace hg := hide hg
    clear hr hr2
    go_enter Try.func25, Try.ntmps25
    go_wp2_with (go_at_call 40; refine (l3Good_any _ _ _ xs _ _ HX.out hn).mono ?_; rintro e w1 ⟨rfl, rfl⟩; rw [hg.out])
    go_ret2
    exact RetI.of (own_empty _ _ (Nat.le_refl _) _ rfl) (by repeat (first | exact Below.refl _ _ | (refine below_drewN ?_ _) | (refine Below.drew ?_) | (refine Below.alloc ?_ (by first | exact Nat.le_refl _ | (simp; done) | (simp; omega) | omega) _) | (refine Below.setCell ?_ (by first | exact Nat.le_refl _ | (simp; done) | (simp; omega) | omega) _) | (refine Below.trans ?_ (Below.mono (by assumption) (by first | exact Nat.le_refl _ | (simp; done) | (simp; omega) | omega))))) HV.out
  · obtain ⟨q1, q2, q3, q4⟩ := reqB_parts hg
    rw [hr.1] at q3
    cases h2 : risB q ys
    · have HV := hide (show projectRequestsV q xs ys = ([], false) by unfold projectRequestsV projOk; rw [h2]; simp)
      replace hg := hide hg
      replace h2 := hide h2
      clear hr hr2 q4
      go_enter Try.func25, Try.ntmps25
      go_wp2_with (first | (go_at_call 40; refine (l3Good_any _ _ _ xs _ _ HX.out hn).mono ?_; rintro e w1 ⟨rfl, rfl⟩; rw [hg.out]) | (go_at_call 55; refine (l1Rising_any _ _ _ ys q _ HY.out hn2 q1 q2).mono ?_; rintro e w2 ⟨rfl, m, rfl⟩; rw [h2.out]))
      go_ret2
      exact RetI.of (own_empty (w.drewN m) w.heap.size (Nat.le_refl _) _ rfl) (by repeat (first | exact Below.refl _ _ | (refine below_drewN ?_ _) | (refine Below.drew ?_) | (refine Below.alloc ?_ (by first | exact Nat.le_refl _ | (simp; done) | (simp; omega) | omega) _) | (refine Below.setCell ?_ (by first | exact Nat.le_refl _ | (simp; done) | (simp; omega) | omega) _) | (refine Below.trans ?_ (Below.mono (by assumption) (by first | exact Nat.le_refl _ | (simp; done) | (simp; omega) | omega))))) HV.out
    · have HV := hide (show projectRequestsV q xs ys = (projL xs ys, true) by unfold projectRequestsV projOk; rw [h2, hg]; rfl)
      replace hg := hide hg
      replace h2 := hide h2
      clear hr hr2 q4
      go_enter Try.func25, Try.ntmps25
      go_wp2_with (first
        | (go_at_call 40; refine (l3Good_any _ _ _ xs _ _ HX.out hn).mono ?_; rintro e w1 ⟨rfl, rfl⟩; rw [hg.out])
        | (go_at_call 55; refine (l1Rising_any _ _ _ ys q _ HY.out hn2 q1 q2).mono ?_; rintro e w2 ⟨rfl, m, rfl⟩; rw [h2.out])
        | (go_at_call 56; refine (l3Project_any _ _ _ xs _ _ _ ys _ (RdI.drewN HX.out m) (RdI.drewN HY.out m) (by omega) hn2).mono ?_; rintro e w3 ⟨A3, c3, rfl, ho3, hb3⟩))
      go_ret2
      exact RetI.of ho3 (Below.trans (below_drewN (Below.refl _ _) m) hb3) HV.out

set_option maxHeartbeats 3200000 in
theorem impl_ProjectRequests (q : Int) (A : Option Addr) (n c : Nat) (xs : List Int) (A2 : Option Addr) (n2 c2 : Nat) (ys : List Int) (w : World) (_ : -9223372036854775808 ≤ q) (_ : q ≤ 9223372036854775807) (hr : RdI w A n xs) (hn : n ≤ 1048576) (_ : ∀ x ∈ xs, -9223372036854775808 ≤ x ∧ x ≤ 9223372036854775807) (hr2 : RdI w A2 n2 ys) (hn2 : n2 ≤ 1048576) (_ : ∀ x ∈ ys, -9223372036854775808 ≤ x ∧ x ≤ 9223372036854775807) :
    Calls Try.prog 26 #[.int .i64 q, .slice A n c, .slice A2 n2 c2] w (RetI w (projectRequestsV q xs ys)) := by
  have HX := hide hr
  have HY := hide hr2
  obtain ⟨W0, HW⟩ : ∃ W0, w.alloc (.cells #[.slice A2 n2 c2] 22) = W0 := ⟨_, rfl⟩
  have HB0 : Hid (Below w.heap.size w W0) := by subst HW; exact (Below.refl _ _).alloc (Nat.le_refl _) _
  have hs0 : w.heap.size < W0.heap.size := by subst HW; simp
  have hcell : W0.cell? ⟨w.heap.size, 0, none⟩ = some (.slice A2 n2 c2) := by subst HW; go_simp
  have HCell := hide hcell
  clear hcell
  replace HW := hide HW
  have hmf : ∀ (fn : Fn) (first cap : Array Value) (w : World), (Instr.makeFunc fn first cap).run Try.prog w = .ok (.func fn first cap) w := fun _ _ _ _ => rfl
  cases hg : reqB q xs
  · have HV := hide (show projectRequestsV q xs ys = ([], false) by unfold projectRequestsV projOk; rw [hg]; rfl)
    replace hg := hide hg
    clear hr hr2
    go_enter Try.func26, Try.ntmps26
    go_wp2_with fail
    rw [HW.out]
    refine (isRequests_any _ _ _ xs _ _ (HX.out.below HB0.out) hn).mono ?_
    rintro e wa ⟨rfl, hba⟩
    rw [hg.out]
    go_wp2
    go_ret2
    exact RetI.of (OwnI.nil _ _) (HB0.out.trans (hba.mono (Nat.le_of_lt hs0))) HV.out
  · obtain ⟨q1, q2, q3, q4⟩ := reqB_parts hg
    replace hg := hide hg
    replace q4 := hide q4
    have hbk : ∀ a, 0 < n2 → A2 = some a → a.block < w.heap.size := fun a h0 e => by
      obtain ⟨b, off, e2, hlt, _⟩ := hr2.2 h0
      rw [e] at e2
      injection e2 with e2
      rw [e2]
      exact hlt
    replace hbk := hide hbk
    clear hr hr2
    cases h2 : belowB q ys
    · have HV := hide (show projectRequestsV q xs ys = ([], false) by unfold projectRequestsV projOk risB; rw [h2]; simp)
      replace h2 := hide h2
      go_enter Try.func26, Try.ntmps26
      go_wp2_with fail
      rw [HW.out]
      refine (isRequests_any _ _ _ xs _ _ (HX.out.below HB0.out) hn).mono ?_
      rintro e wa ⟨rfl, hba⟩
      rw [hg.out]
      have hca := (hba.cell (p := ⟨w.heap.size, 0, none⟩) hs0).trans HCell.out
      have HBa := hide (HB0.out.trans (hba.mono (Nat.le_of_lt hs0)))
      clear hba
      go_wp2_with fail
      refine (areBelow_any _ _ _ ys _ _ (HY.out.below HBa.out) hn2 (by omega) (by omega)).mono ?_
      rintro e wb ⟨rfl, hbb⟩
      rw [h2.out]
      go_wp2
      go_ret2
      exact RetI.of (OwnI.nil _ _) (HBa.out.trans (hbb.mono HBa.out.size)) HV.out
    · cases h3 : (ys == riseL ys)
      all_goals
        have HV : Hid (projectRequestsV q xs ys = if (ys == riseL ys) = true then (projL xs ys, true) else ([], false)) := by
          unfold projectRequestsV projOk risB Hid
          rw [hg.out, h2]
          cases (ys == riseL ys) <;> rfl
        rw [h3] at HV
        replace h2 := hide h2
        replace h3 := hide h3
        go_enter Try.func26, Try.ntmps26
        go_wp2_with fail
        rw [HW.out]
        refine (isRequests_any _ _ _ xs _ _ (HX.out.below HB0.out) hn).mono ?_
        rintro e wa ⟨rfl, hba⟩
        rw [hg.out]
        have hca := (hba.cell (p := ⟨w.heap.size, 0, none⟩) hs0).trans HCell.out
        have hsa := Nat.lt_of_lt_of_le hs0 hba.size
        have HBa := hide (HB0.out.trans (hba.mono (Nat.le_of_lt hs0)))
        clear hba
        go_wp2_with fail
        refine (areBelow_any _ _ _ ys _ _ (HY.out.below HBa.out) hn2 (by omega) (by omega)).mono ?_
        rintro e wb ⟨rfl, hbb⟩
        rw [h2.out]
        have hcb := (hbb.cell (p := ⟨w.heap.size, 0, none⟩) hsa).trans hca
        have hsb := Nat.lt_of_lt_of_le hsa hbb.size
        have HBb := hide (HBa.out.trans (hbb.mono HBa.out.size))
        clear hbb hca
        go_wp2_with fail
        refine (isRising_any _ _ _ ys _ (HY.out.below HBb.out) hn2).mono ?_
        rintro e wc ⟨rfl, hbc⟩
        rw [h3.out]
        have hcc := (hbc.cell (p := ⟨w.heap.size, 0, none⟩) hsb).trans hcb
        have hsc := Nat.lt_of_lt_of_le hsb hbc.size
        have HBc := hide (HBb.out.trans (hbc.mono HBb.out.size))
        clear hbc hcb
      · go_wp2
        go_ret2
        exact RetI.of (OwnI.nil _ _) HBc.out (by rw [HV.out]; rfl)
      · go_wp2_with fail
        refine (clone_any _ _ _ xs _ (HX.out.below HBc.out) hn).mono ?_
        rintro e wd ⟨A3, c3, rfl, ho3, hbd⟩
        have hcd := (hbd.cell (p := ⟨w.heap.size, 0, none⟩) hsc).trans hcc
        have hsd := Nat.lt_of_lt_of_le hsc hbd.size
        have HBd := hide (HBc.out.trans (hbd.mono HBc.out.size))
        have HYd := HY.out.below HBd.out
        have hxl : xs.length ≤ 1048576 := by rw [HX.out.1]; exact hn
        have hcon : Calls Try.prog 59 #[.slice A3 xs.length c3, .func (.func 61) #[] #[.pointer (some ⟨w.heap.size, 0, none⟩)]] wd fun e w' => e = .returned (.slice A3 (projL xs ys).length c3) ∧ OwnI w' wc.heap.size A3 (projL xs ys).length c3 (projL xs ys) ∧ Below wc.heap.size wd w' := by
          have := deleteFunc_any A3 xs.length c3 wc.heap.size xs wd ho3 hxl 61 #[.pointer (some ⟨w.heap.size, 0, none⟩)] (enters_of Try.func61 (by kernel_rfl) rfl) (fun x => !hasB ys x)
            (fun W x hb => proj_gives A2 n2 c2 ys x w.heap.size W ((hb.cell (p := ⟨w.heap.size, 0, none⟩) hsd).trans hcd) (HYd.below hb) hn2)
            (fun blk hb1 hb2 m os dk x _ => proj_gives A2 n2 c2 ys x w.heap.size _ (by
              unfold sortWorld
              rw [cell?_grow _ _ _ (by show w.heap.size < (putRow _ _ _ _ _).heap.size; rw [size_putRow]; exact hsd), cell?_putRow_other _ _ blk 0 _ ⟨w.heap.size, 0, none⟩ (Or.inl (by show w.heap.size ≠ blk; omega))]
              exact hcd) (rd_over dk os HYd (fun h0 a e => by have := hbk.out a h0 e; omega)) hn2)
          simpa only [Bool.not_not, projL] using this
        replace hcon := hide hcon
        clear ho3 hbd HYd
        go_wp2_with (go_at_call 59; refine hcon.out.mono ?_; rintro e w5 ⟨rfl, ho5, hb5⟩)
        go_ret2
        exact RetI.of (ho5.more HBc.out.size) (HBd.out.trans (hb5.mono HBc.out.size)) (by rw [HV.out]; rfl)
end Go.Proofs.Ytbceekcfokgmpaa
