/- FromRuns: the reference and the program return the same; for slices of at most 2^20 pairs that can be read. -/
import Derived.Test.YtaoacpikmpoodaaA2Row
import Derived.Test.YtaoacpikmpoodaaRepeat
import Derived.Test.YtaoacpikmpoodaaAppend
import Derived.Deep.RegionLaw
namespace Go.Proofs.Ytaoacpikmpoodaa
open Go.RowKit
def frAt (xs : List (Int × Int)) : Nat → List Int
  | 0 => []
  | k + 1 => frAt xs k ++ List.replicate (xs.getD k (0, 0)).2.toNat (xs.getD k (0, 0)).1
def frOk (q : Int) (xs : List (Int × Int)) (k : Nat) : Bool := decide (0 ≤ (xs.getD k (0, 0)).1 ∧ (xs.getD k (0, 0)).1 ≤ q - 1) && decide (1 ≤ (xs.getD k (0, 0)).2 ∧ (xs.getD k (0, 0)).2 ≤ 60 - ((frAt xs k).length : Int))
def fromOk (q : Int) (xs : List (Int × Int)) : Bool := decide (1 ≤ q ∧ q ≤ 8) && (decide (xs.length ≤ 60) && (List.range xs.length).all (frOk q xs))
def fromRunsV (q : Int) (xs : List (Int × Int)) : List Int × Bool := if fromOk q xs = true then (frAt xs xs.length, true) else ([], false)
theorem frAt_len (q : Int) (xs : List (Int × Int)) (k : Nat) (h : ∀ j, j < k → frOk q xs j = true) : (frAt xs k).length ≤ 60 := by
  cases k with
  | zero => simp [frAt]
  | succ k =>
    have := h k (by omega)
    simp only [frOk, Bool.and_eq_true, decide_eq_true_eq] at this
    simp only [frAt, List.length_append, List.length_replicate]
    omega
theorem fromOk_no (q : Int) (xs : List (Int × Int)) (k : Nat) (hk : k < xs.length) (h : frOk q xs k = false) : fromOk q xs = false := by
  have : (List.range xs.length).all (frOk q xs) = false := by
    rw [List.all_eq_false]
    exact ⟨k, List.mem_range.2 hk, by rw [h]; simp⟩
  simp [fromOk, this]
theorem fromOk_yes (q : Int) (xs : List (Int × Int)) (h1 : 1 ≤ q) (h2 : q ≤ 8) (h3 : xs.length ≤ 60) (h : ∀ j, j < xs.length → frOk q xs j = true) : fromOk q xs = true := by
  have : (List.range xs.length).all (frOk q xs) = true := by
    rw [List.all_eq_true]
    exact fun j hj => h j (List.mem_range.1 hj)
  simp [fromOk, this, h1, h2, h3]
theorem fromRunsV_len (q : Int) (xs : List (Int × Int)) (_ : xs.length ≤ 1048576) : (fromRunsV q xs).1.length ≤ 1048576 := by
  unfold fromRunsV
  split
  · rename_i h
    simp only [fromOk, Bool.and_eq_true] at h
    have h2 := h.2.2
    rw [List.all_eq_true] at h2
    have := frAt_len q xs xs.length (fun j hj => h2 j (List.mem_range.2 hj))
    show (frAt xs xs.length).length ≤ 1048576
    omega
  · simp
theorem replicate_snoc {α : Type} (t : Nat) (v : α) : List.replicate (t + 1) v = List.replicate t v ++ [v] := by
  simp [List.replicate_succ']

set_option maxHeartbeats 3200000 in
theorem spec_FromRuns (q : Int) (A : Option Addr) (n c : Nat) (xs : List (Int × Int)) (w : World) (_ : -9223372036854775808 ≤ q) (_ : q ≤ 9223372036854775807) (hr : RdP w A n xs) (hn : n ≤ 1048576) :
    Calls Try.prog 44 #[.int .i64 q, .slice A n c] w (RetI w (fromRunsV q xs)) := by
  by_cases c1 : 1 ≤ q ∧ q ≤ 8
  · obtain ⟨c11, c12⟩ := c1
    by_cases c2 : n ≤ 60
    · have hd2 : decide ((60 : Int) < (n : Int)) = false := by simp; omega
      have hlen := hide hr.1
      have HR := hide hr
      clear hr
      go_enter Try.func44, Try.ntmps44
      go_wp2_with (first | (go_at_call 53; refine (l1In_yes _ _ _ _ (by omega) (by omega)).mono ?_; rintro e w' ⟨rfl, rfl⟩) | (go_at_call 53; refine (l1In_no _ _ _ _ (by omega)).mono ?_; rintro e w' ⟨rfl, rfl⟩) | go_in)
      go_loopw [6, 7, 8] (fun u i _ wr => ∃ (k m : Nat) (A' : Option Addr) (c' : Nat), k ≤ n ∧ i = .int .i64 k ∧ u = .slice A' m c' ∧ Hid (OwnI wr w.heap.size A' m c' (frAt xs k)) ∧ Hid (Below w.heap.size w wr) ∧ Hid (∀ j, j < k → frOk q xs j = true)) (fun _ i _ _ => n - (intOf i).toNat)
      case atStart => exact ⟨0, 0, _, _, Nat.zero_le _, rfl, rfl, own_empty _ _ (Nat.le_refl _) _ rfl, (by repeat (first | exact Below.refl _ _ | (refine below_drewN ?_ _) | (refine Below.drew ?_) | (refine Below.alloc ?_ (by first | exact Nat.le_refl _ | (simp; done) | (simp; omega) | omega) _) | (refine Below.setCell ?_ (by first | exact Nat.le_refl _ | (simp; done) | (simp; omega) | omega) _) | (refine Below.trans ?_ (Below.mono (by assumption) (by first | exact Nat.le_refl _ | (simp; done) | (simp; omega) | omega))))), fun j hj => absurd hj (by omega)⟩
      case round =>
        obtain ⟨k, m, A', c', hk, rfl, rfl, HO, HB, HA⟩ := hrel
        have hml := hide HO.out.len
        have hm60 : m ≤ 60 := by rw [← hml.out]; exact frAt_len q xs k HA.out
        by_cases hlt : k < n
        · have hlt' : (k : Int) < (n : Int) := by omega
          obtain ⟨b, off, rfl, hbb, hc0, hc1⟩ := (HR.out).at_ hlt
          obtain ⟨⟨v, t⟩, hvt⟩ : ∃ p, Hid (xs.getD k (0, 0) = p) := ⟨_, rfl⟩
          rw [hvt.out] at hc0 hc1
          simp only at hc0 hc1
          replace hc0 : wr.cell? ⟨b, off + k * 2, none⟩ = some (.int .i64 v) := (HB.out.cell (p := ⟨b, off + k * 2, none⟩) hbb).trans hc0
          replace hc1 : wr.cell? ⟨b, off + k * 2 + 1, none⟩ = some (.int .i64 t) := (HB.out.cell (p := ⟨b, off + k * 2 + 1, none⟩) hbb).trans hc1
          have hok : Hid (frOk q xs k = (decide (0 ≤ v ∧ v ≤ q - 1) && decide (1 ≤ t ∧ t ≤ 60 - (m : Int)))) := by
            unfold frOk Hid
            rw [hvt.out, hml.out]
          by_cases d1 : 0 ≤ v ∧ v ≤ q - 1
          · by_cases d2 : 1 ≤ t ∧ t ≤ 60 - (m : Int)
            · have HA2 : Hid (∀ j, j < k + 1 → frOk q xs j = true) := fun j hj => by
                by_cases ej : j < k
                · exact HA.out j ej
                · obtain rfl : j = k := by omega
                  rw [hok.out]
                  simp [d1, d2]
              obtain ⟨d11, d12⟩ := d1
              obtain ⟨d21, d22⟩ := d2
              obtain ⟨s, rfl⟩ := Int.eq_ofNat_of_zero_le (show 0 ≤ t by omega)
              have HF : Hid (frAt xs (k + 1) = frAt xs k ++ List.replicate s v) := by
                show frAt xs k ++ List.replicate (xs.getD k (0, 0)).2.toNat (xs.getD k (0, 0)).1 = _
                rw [hvt.out]
                rfl
              have d21' : 1 ≤ s := by omega
              have d22' : m + s ≤ 60 := by omega
              obtain ⟨wo, rfl⟩ : ∃ wo : World, wo = wr := ⟨_, rfl⟩
              have HC := hide (fun (w' : World) (h : Below w.heap.size w w') => (show w'.cell? ⟨b, off + k * 2, none⟩ = some (.int .i64 v) ∧ w'.cell? ⟨b, off + k * 2 + 1, none⟩ = some (.int .i64 ((s : Nat) : Int)) from ⟨(h.cell (p := ⟨b, off + k * 2, none⟩) hbb).trans ((HB.out.cell (p := ⟨b, off + k * 2, none⟩) hbb).symm.trans hc0), (h.cell (p := ⟨b, off + k * 2 + 1, none⟩) hbb).trans ((HB.out.cell (p := ⟨b, off + k * 2 + 1, none⟩) hbb).symm.trans hc1)⟩))
              go_wp2_with (first | (go_at_call 53; refine (l1In_yes _ _ _ _ (by omega) (by omega)).mono ?_; rintro e w' ⟨rfl, rfl⟩) | (go_at_call 53; refine (l1In_no _ _ _ _ (by omega)).mono ?_; rintro e w' ⟨rfl, rfl⟩))
              go_loopw [6, 8] (fun u i wx => ∃ (t : Nat) (A2 : Option Addr) (c2 : Nat), t ≤ s ∧ i = .int .i64 t ∧ u = .slice A2 (m + t) c2 ∧ Hid (OwnI wx w.heap.size A2 (m + t) c2 (frAt xs k ++ List.replicate t v)) ∧ Hid (Below w.heap.size w wx)) (fun _ i _ => s - (intOf i).toNat)
              case atStart => exact ⟨0, A', c', Nat.zero_le _, rfl, rfl, by simpa using HO, HB⟩
              case round =>
                obtain ⟨t, A2, c2, ht, rfl, rfl, HO2, HB2⟩ := hrel
                obtain ⟨e0, e1⟩ := HC.out wr HB2.out
                by_cases hts : t < s
                · have hts' : (t : Int) < ((s : Nat) : Int) := by omega
                  go_wp2_with (at_builtin; refine append_int rfl _ _ rfl w.heap.size A2 (m + t) c2 (frAt xs k ++ List.replicate t v) _ _ rfl rfl HO2.out (by omega) HB2.out.size ?_; intro A3 c3 w3 ho3 hb3 hg3; replace ho3 := hide ho3; replace hb3 := hide hb3; clear hg3)
                  go_roundw
                  case rel => first | exact ⟨t + 1, A3, c3, by omega, by go_num, by simp [Nat.add_assoc], by have := ho3.out; rw [List.append_assoc, ← replicate_snoc] at this; exact this, HB2.out.trans hb3.out⟩ | ((repeat apply Exists.intro); refine ⟨?_, rfl⟩; exact ⟨t + 1, A3, c3, by omega, by go_num, by simp [Nat.add_assoc], by have := ho3.out; rw [List.append_assoc, ← replicate_snoc] at this; exact this, HB2.out.trans hb3.out⟩)
                  case measure => first | (simp [intOf]; done) | (simp [intOf]; omega)
                · obtain rfl : t = s := by omega
                  go_wp2
                  go_roundw
                  case rel => first | exact ⟨k + 1, m + t, A2, c2, by omega, by go_num, rfl, by have := HO2.out; rw [← HF.out] at this; exact this, HB2, HA2⟩ | ((repeat apply Exists.intro); refine ⟨?_, rfl⟩; exact ⟨k + 1, m + t, A2, c2, by omega, by go_num, rfl, by have := HO2.out; rw [← HF.out] at this; exact this, HB2, HA2⟩)
                  case measure => first | (simp [intOf]; done) | (simp [intOf]; omega)
            · have HV := hide (show fromRunsV q xs = ([], false) by unfold fromRunsV; rw [fromOk_no q xs k (by rw [hlen.out]; exact hlt) (by rw [hok.out]; simp [d1, d2])]; rfl)
              obtain ⟨d11, d12⟩ := d1
              go_wp2_with (first | (go_at_call 53; refine (l1In_yes _ _ _ _ (by omega) (by omega)).mono ?_; rintro e w' ⟨rfl, rfl⟩) | (go_at_call 53; refine (l1In_no _ _ _ _ (by omega)).mono ?_; rintro e w' ⟨rfl, rfl⟩))
              go_ret2
              exact RetI.of (own_empty _ _ HB.out.size _ rfl) (HB.out.alloc HB.out.size _) HV.out
          · have HV := hide (show fromRunsV q xs = ([], false) by unfold fromRunsV; rw [fromOk_no q xs k (by rw [hlen.out]; exact hlt) (by rw [hok.out]; simp [d1])]; rfl)
            go_wp2_with (first | (go_at_call 53; refine (l1In_yes _ _ _ _ (by omega) (by omega)).mono ?_; rintro e w' ⟨rfl, rfl⟩) | (go_at_call 53; refine (l1In_no _ _ _ _ (by omega)).mono ?_; rintro e w' ⟨rfl, rfl⟩))
            go_ret2
            exact RetI.of (own_empty _ _ HB.out.size _ rfl) (HB.out.alloc HB.out.size _) HV.out
        · have hkn : k = n := by omega
          subst hkn
          have HV := hide (show fromRunsV q xs = (frAt xs k, true) by unfold fromRunsV; rw [fromOk_yes q xs c11 c12 (by rw [hlen.out]; exact c2) (by rw [hlen.out]; exact HA.out), hlen.out]; rfl)
          go_wp2
          go_ret2
          exact RetI.of HO.out HB.out HV.out
    · have HV := hide (show fromRunsV q xs = ([], false) by unfold fromRunsV; rw [show fromOk q xs = false by unfold fromOk; rw [hr.1]; simp; omega]; rfl)
      have hd2 : decide ((60 : Int) < (n : Int)) = true := by simp; omega
      clear hr
      go_enter Try.func44, Try.ntmps44
      go_wp2_with (first | (go_at_call 53; refine (l1In_yes _ _ _ _ (by omega) (by omega)).mono ?_; rintro e w' ⟨rfl, rfl⟩) | (go_at_call 53; refine (l1In_no _ _ _ _ (by omega)).mono ?_; rintro e w' ⟨rfl, rfl⟩) | go_in)
      go_ret2
      exact RetI.of (own_empty _ _ (Nat.le_refl _) _ rfl) (by repeat (first | exact Below.refl _ _ | (refine below_drewN ?_ _) | (refine Below.drew ?_) | (refine Below.alloc ?_ (by first | exact Nat.le_refl _ | (simp; done) | (simp; omega) | omega) _) | (refine Below.setCell ?_ (by first | exact Nat.le_refl _ | (simp; done) | (simp; omega) | omega) _) | (refine Below.trans ?_ (Below.mono (by assumption) (by first | exact Nat.le_refl _ | (simp; done) | (simp; omega) | omega))))) HV.out
  · have HV := hide (show fromRunsV q xs = ([], false) by unfold fromRunsV; rw [show fromOk q xs = false by unfold fromOk; simp; omega]; rfl)
    clear hr
    go_enter Try.func44, Try.ntmps44
    go_wp2_with (first | (go_at_call 53; refine (l1In_yes _ _ _ _ (by omega) (by omega)).mono ?_; rintro e w' ⟨rfl, rfl⟩) | (go_at_call 53; refine (l1In_no _ _ _ _ (by omega)).mono ?_; rintro e w' ⟨rfl, rfl⟩) | go_in)
    go_ret2
    exact RetI.of (own_empty _ _ (Nat.le_refl _) _ rfl) (by repeat (first | exact Below.refl _ _ | (refine below_drewN ?_ _) | (refine Below.drew ?_) | (refine Below.alloc ?_ (by first | exact Nat.le_refl _ | (simp; done) | (simp; omega) | omega) _) | (refine Below.setCell ?_ (by first | exact Nat.le_refl _ | (simp; done) | (simp; omega) | omega) _) | (refine Below.trans ?_ (Below.mono (by assumption) (by first | exact Nat.le_refl _ | (simp; done) | (simp; omega) | omega))))) HV.out

set_option maxHeartbeats 3200000 in
theorem impl_FromRuns (q : Int) (A : Option Addr) (n c : Nat) (xs : List (Int × Int)) (w : World) (_ : -9223372036854775808 ≤ q) (_ : q ≤ 9223372036854775807) (hr : RdP w A n xs) (hn : n ≤ 1048576) :
    Calls Try.prog 46 #[.int .i64 q, .slice A n c] w (RetI w (fromRunsV q xs)) := by
  by_cases c1 : 1 ≤ q ∧ q ≤ 8
  · obtain ⟨c11, c12⟩ := c1
    by_cases c2 : n ≤ 60
    · have hd2 : decide ((60 : Int) < (n : Int)) = false := by simp; omega
      have hlen := hide hr.1
      have HR := hide hr
      clear hr
      go_enter Try.func46, Try.ntmps46
      go_wp2_with (first | (go_at_call 57; refine (within_yes _ _ _ _ (by omega) (by omega)).mono ?_; rintro e w' ⟨rfl, rfl⟩) | (go_at_call 57; refine (within_no _ _ _ _ (by omega)).mono ?_; rintro e w' ⟨rfl, rfl⟩) | go_in)
      go_loopw [6, 8, 20] (fun u _ i wr => ∃ (k m : Nat) (A' : Option Addr) (c' : Nat), k ≤ n ∧ i = .int .i64 k ∧ u = .slice A' m c' ∧ Hid (OwnI wr w.heap.size A' m c' (frAt xs k)) ∧ Hid (Below w.heap.size w wr) ∧ Hid (∀ j, j < k → frOk q xs j = true)) (fun _ _ i _ => n - (intOf i).toNat)
      case atStart => exact ⟨0, 0, _, _, Nat.zero_le _, rfl, rfl, own_empty _ _ (Nat.le_refl _) _ rfl, (by repeat (first | exact Below.refl _ _ | (refine below_drewN ?_ _) | (refine Below.drew ?_) | (refine Below.alloc ?_ (by first | exact Nat.le_refl _ | (simp; done) | (simp; omega) | omega) _) | (refine Below.setCell ?_ (by first | exact Nat.le_refl _ | (simp; done) | (simp; omega) | omega) _) | (refine Below.trans ?_ (Below.mono (by assumption) (by first | exact Nat.le_refl _ | (simp; done) | (simp; omega) | omega))))), fun j hj => absurd hj (by omega)⟩
      case round =>
        obtain ⟨k, m, A', c', hk, rfl, rfl, HO, HB, HA⟩ := hrel
        have hml := hide HO.out.len
        have hm60 : m ≤ 60 := by rw [← hml.out]; exact frAt_len q xs k HA.out
        by_cases hlt : k < n
        · have hlt' : (k : Int) < (n : Int) := by omega
          obtain ⟨b, off, rfl, hbb, hc0, hc1⟩ := (HR.out).at_ hlt
          obtain ⟨⟨v, t⟩, hvt⟩ : ∃ p, Hid (xs.getD k (0, 0) = p) := ⟨_, rfl⟩
          rw [hvt.out] at hc0 hc1
          simp only at hc0 hc1
          replace hc0 : wr.cell? ⟨b, off + k * 2, none⟩ = some (.int .i64 v) := (HB.out.cell (p := ⟨b, off + k * 2, none⟩) hbb).trans hc0
          replace hc1 : wr.cell? ⟨b, off + k * 2 + 1, none⟩ = some (.int .i64 t) := (HB.out.cell (p := ⟨b, off + k * 2 + 1, none⟩) hbb).trans hc1
          have hok : Hid (frOk q xs k = (decide (0 ≤ v ∧ v ≤ q - 1) && decide (1 ≤ t ∧ t ≤ 60 - (m : Int)))) := by
            unfold frOk Hid
            rw [hvt.out, hml.out]
          by_cases d1 : 0 ≤ v ∧ v ≤ q - 1
          · by_cases d2 : 1 ≤ t ∧ t ≤ 60 - (m : Int)
            · have HA2 : Hid (∀ j, j < k + 1 → frOk q xs j = true) := fun j hj => by
                by_cases ej : j < k
                · exact HA.out j ej
                · obtain rfl : j = k := by omega
                  rw [hok.out]
                  simp [d1, d2]
              obtain ⟨d11, d12⟩ := d1
              obtain ⟨d21, d22⟩ := d2
              obtain ⟨s, rfl⟩ := Int.eq_ofNat_of_zero_le (show 0 ≤ t by omega)
              have HF : Hid (frAt xs (k + 1) = frAt xs k ++ List.replicate s v) := by
                show frAt xs k ++ List.replicate (xs.getD k (0, 0)).2.toNat (xs.getD k (0, 0)).1 = _
                rw [hvt.out]
                rfl
              have d21' : 1 ≤ s := by omega
              have d22' : m + s ≤ 60 := by omega
              have HRv := hide (show Below w.heap.size w ((wr.alloc (.cells #[.int .i64 v, .int .i64 ((s : Nat) : Int)] 62)).alloc (.cells #[.int .i64 v] 3)) from (HB.out.alloc HB.out.size _).alloc (by have := HB.out.size; simp; omega) _)
              have hcv : ((wr.alloc (.cells #[.int .i64 v, .int .i64 ((s : Nat) : Int)] 62)).alloc (.cells #[.int .i64 v] 3)).cell? ⟨wr.heap.size + 1, 0, none⟩ = some (.int .i64 v) := by go_simp
              replace hcv := hide hcv
              go_wp2_with (first
                | (go_at_call 57; refine (within_yes _ _ _ _ (by omega) (by omega)).mono ?_; rintro e w' ⟨rfl, rfl⟩) | (go_at_call 57; refine (within_no _ _ _ _ (by omega)).mono ?_; rintro e w' ⟨rfl, rfl⟩)
                | (go_at_call 75; refine (repeat_any v s (wr.heap.size + 1) _ (by omega) (by simp) hcv.out).mono ?_; rintro e w1 ⟨A1, c1, rfl, ho1, hb1⟩; have HO1 := hide (OwnI.below (OwnI.below (OwnI.below HO.out ((Below.refl _ _).alloc (Nat.le_refl _) (.cells #[.int .i64 v, .int .i64 ((s : Nat) : Int)] 62))) ((Below.refl _ _).alloc (Nat.le_refl _) (.cells #[.int .i64 v] 3))) hb1); have HR1 := hide ho1.rd; have HB1 := hide (HRv.out.trans (hb1.mono HRv.out.size)); clear ho1 hb1)
                | (at_builtin; refine append_ints rfl _ _ rfl w.heap.size A' m c' (frAt xs k) A1 s c1 (List.replicate s v) _ rfl rfl HO1.out HR1.out (by omega) HB1.out.size ?_; intro A3 c3 w3 ho3 hb3 hg3; replace ho3 := hide ho3; replace hb3 := hide hb3; clear hg3))
              go_roundw
              case rel => first | exact ⟨k + 1, m + s, A3, c3, by omega, by go_num, rfl, by have := ho3.out; rw [← HF.out] at this; exact this, HB1.out.trans hb3.out, HA2⟩ | ((repeat apply Exists.intro); refine ⟨?_, rfl⟩; exact ⟨k + 1, m + s, A3, c3, by omega, by go_num, rfl, by have := ho3.out; rw [← HF.out] at this; exact this, HB1.out.trans hb3.out, HA2⟩)
              case measure => first | (simp [intOf]; done) | (simp [intOf]; omega)
            · have HV := hide (show fromRunsV q xs = ([], false) by unfold fromRunsV; rw [fromOk_no q xs k (by rw [hlen.out]; exact hlt) (by rw [hok.out]; simp [d1, d2])]; rfl)
              obtain ⟨d11, d12⟩ := d1
              go_wp2_with (first | (go_at_call 57; refine (within_yes _ _ _ _ (by omega) (by omega)).mono ?_; rintro e w' ⟨rfl, rfl⟩) | (go_at_call 57; refine (within_no _ _ _ _ (by omega)).mono ?_; rintro e w' ⟨rfl, rfl⟩))
              go_ret2
              exact RetI.of (OwnI.nil _ _) (HB.out.alloc HB.out.size _) HV.out
          · have HV := hide (show fromRunsV q xs = ([], false) by unfold fromRunsV; rw [fromOk_no q xs k (by rw [hlen.out]; exact hlt) (by rw [hok.out]; simp [d1])]; rfl)
            go_wp2_with (first | (go_at_call 57; refine (within_yes _ _ _ _ (by omega) (by omega)).mono ?_; rintro e w' ⟨rfl, rfl⟩) | (go_at_call 57; refine (within_no _ _ _ _ (by omega)).mono ?_; rintro e w' ⟨rfl, rfl⟩))
            go_ret2
            exact RetI.of (OwnI.nil _ _) (HB.out.alloc HB.out.size _) HV.out
        · have hkn : k = n := by omega
          subst hkn
          have HV := hide (show fromRunsV q xs = (frAt xs k, true) by unfold fromRunsV; rw [fromOk_yes q xs c11 c12 (by rw [hlen.out]; exact c2) (by rw [hlen.out]; exact HA.out), hlen.out]; rfl)
          go_wp2
          go_ret2
          exact RetI.of HO.out HB.out HV.out
    · have HV := hide (show fromRunsV q xs = ([], false) by unfold fromRunsV; rw [show fromOk q xs = false by unfold fromOk; rw [hr.1]; simp; omega]; rfl)
      have hd2 : decide ((60 : Int) < (n : Int)) = true := by simp; omega
      clear hr
      go_enter Try.func46, Try.ntmps46
      go_wp2_with (first | (go_at_call 57; refine (within_yes _ _ _ _ (by omega) (by omega)).mono ?_; rintro e w' ⟨rfl, rfl⟩) | (go_at_call 57; refine (within_no _ _ _ _ (by omega)).mono ?_; rintro e w' ⟨rfl, rfl⟩) | go_in)
      go_ret2
      exact RetI.of (OwnI.nil _ _) (by repeat (first | exact Below.refl _ _ | (refine below_drewN ?_ _) | (refine Below.drew ?_) | (refine Below.alloc ?_ (by first | exact Nat.le_refl _ | (simp; done) | (simp; omega) | omega) _) | (refine Below.setCell ?_ (by first | exact Nat.le_refl _ | (simp; done) | (simp; omega) | omega) _) | (refine Below.trans ?_ (Below.mono (by assumption) (by first | exact Nat.le_refl _ | (simp; done) | (simp; omega) | omega))))) HV.out
  · have HV := hide (show fromRunsV q xs = ([], false) by unfold fromRunsV; rw [show fromOk q xs = false by unfold fromOk; simp; omega]; rfl)
    clear hr
    go_enter Try.func46, Try.ntmps46
    go_wp2_with (first | (go_at_call 57; refine (within_yes _ _ _ _ (by omega) (by omega)).mono ?_; rintro e w' ⟨rfl, rfl⟩) | (go_at_call 57; refine (within_no _ _ _ _ (by omega)).mono ?_; rintro e w' ⟨rfl, rfl⟩) | go_in)
    go_ret2
    exact RetI.of (OwnI.nil _ _) (by repeat (first | exact Below.refl _ _ | (refine below_drewN ?_ _) | (refine Below.drew ?_) | (refine Below.alloc ?_ (by first | exact Nat.le_refl _ | (simp; done) | (simp; omega) | omega) _) | (refine Below.setCell ?_ (by first | exact Nat.le_refl _ | (simp; done) | (simp; omega) | omega) _) | (refine Below.trans ?_ (Below.mono (by assumption) (by first | exact Nat.le_refl _ | (simp; done) | (simp; omega) | omega))))) HV.out
end Go.Proofs.Ytaoacpikmpoodaa
