/- MeanFrac: what the reference and the program return of a list of numbers; for slices that can be read. -/
import Derived.Test.YtainbffcnaafkaaMake
import Derived.Test.YtainbffcnaafkaaInts
namespace Go.Proofs.Ytainbffcnaafkaa
open Go.RowKit

/-- A number that a mean takes. -/
def mOk (x : Int) : Bool := decide (-100000000 ≤ x ∧ x ≤ 100000000)
def meanOk (xs : List Int) : Bool := decide (1 ≤ xs.length ∧ xs.length ≤ 100) && xs.all mOk
theorem sum_bd (xs : List Int) (h : ∀ x ∈ xs, -100000000 ≤ x ∧ x ≤ 100000000) : -(100000000 * (xs.length : Int)) ≤ xs.sum ∧ xs.sum ≤ 100000000 * (xs.length : Int) := by
  induction xs with
  | nil => simp
  | cons x r ih =>
    have h1 := h x (by simp)
    have h2 := ih (fun y hy => h y (by simp [hy]))
    simp only [List.sum_cons, List.length_cons]
    omega
theorem getD_get {xs : List Int} {k : Nat} (hk : k < xs.length) : xs.getD k 0 = xs[k] := by simp [List.getD_eq_getElem?_getD, List.getElem?_eq_getElem hk]
theorem sum_take (xs : List Int) (k : Nat) (hk : k < xs.length) : (xs.take (k + 1)).sum = (xs.take k).sum + xs.getD k 0 := by
  rw [List.take_succ_eq_append_getElem hk, List.sum_append, getD_get hk]
  simp
theorem take_bd (xs : List Int) (k : Nat) (hk : k ≤ xs.length) (hn : xs.length ≤ 100) (h : ∀ j, j < k → mOk (xs.getD j 0) = true) : -10000000000 ≤ (xs.take k).sum ∧ (xs.take k).sum ≤ 10000000000 := by
  have := sum_bd (xs.take k) (fun x hx => by
    obtain ⟨j, hj, rfl⟩ := List.getElem_of_mem hx
    have hj' : j < k := by simp at hj; omega
    have := h j hj'
    rw [getD_get (by omega)] at this
    simpa [mOk] using this)
  have hl : (xs.take k).length ≤ 100 := by simp; omega
  omega

set_option maxHeartbeats 800000 in
theorem specMeanFrac_yes (A : Option Addr) (n c : Nat) (xs : List Int) (w : World) (hr : RdI w A n xs) (n1 : 1 ≤ n) (n2 : n ≤ 100) (hok : ∀ j, j < xs.length → mOk (xs.getD j 0) = true) :
    Calls Try.prog 33 #[.slice A n c] w fun e w' => e = .returned (.tuple #[.agg #[.int .i64 (mkN (xs.sum) (n : Int)), .int .i64 (mkD (xs.sum) (n : Int))], .bool (mkB (xs.sum) (n : Int))]) ∧ Below w.heap.size w w' := by
  have HR := hide hr
  have hlen := hide hr.1
  have HOK := hide hok
  clear hr hok
  go_enter Try.func33, Try.ntmps33
  go_wp2_with (first | (go_at_call 50; refine (l1In_yes _ _ _ _ (by omega) (by omega)).mono ?_; rintro e w' ⟨rfl, rfl⟩) | (go_at_call 50; refine (l1In_no _ _ _ _ (by omega)).mono ?_; rintro e w' ⟨rfl, rfl⟩))
  go_loop [4, 5] (fun s i => ∃ k : Nat, k ≤ n ∧ i = .int .i64 k ∧ s = .int .i64 (xs.take k).sum ∧ Hid (∀ j, j < k → mOk (xs.getD j 0) = true)) (fun s i => n - (intOf i).toNat)
  case atStart => exact ⟨0, Nat.zero_le _, rfl, by simp, fun j hj => absurd hj (Nat.not_lt_zero _)⟩
  case round =>
    obtain ⟨k, hk, rfl, rfl, HA⟩ := hrel
    have hs := take_bd xs k (by rw [hlen.out]; exact hk) (by rw [hlen.out]; exact n2) HA.out
    have hs1 := hs.1
    have hs2 := hs.2
    clear hs
    by_cases hlt : k < n
    · have hlt' : (k : Int) < (n : Int) := by omega
      obtain ⟨b, off, rfl, hb, hc⟩ := (HR.out).at_ hlt
      have hc1 : (w.alloc (.cells #[.int .i64 0, .int .i64 0] 26)).cell? ⟨b, off + k, none⟩ = some (.int .i64 (xs.getD k 0)) := by rw [World.cell?_alloc_past _ _ _ hb]; exact hc
      obtain ⟨x, hx⟩ : ∃ x, Hid (xs.getD k 0 = x) := ⟨_, rfl⟩
      rw [hx.out] at hc1
      clear hc hb
      have HS := hide (sum_take xs k (by rw [hlen.out]; exact hlt))
      by_cases hin : -100000000 ≤ x ∧ x ≤ 100000000
      · obtain ⟨x1, x2⟩ := hin
        go_wp2_with (first | (go_at_call 50; refine (l1In_yes _ _ _ _ (by omega) (by omega)).mono ?_; rintro e w' ⟨rfl, rfl⟩) | (go_at_call 50; refine (l1In_no _ _ _ _ (by omega)).mono ?_; rintro e w' ⟨rfl, rfl⟩))
        go_round
        case rel => first | exact ⟨k + 1, by omega, by go_num, by rw [HS.out, hx.out], fun j hj => by
          by_cases e : j < k
          · exact HA.out j e
          · have : j = k := by omega
            subst this
            rw [hx.out]
            simp [mOk]
            exact ⟨x1, x2⟩⟩ | ((repeat apply Exists.intro); refine ⟨?_, rfl⟩; exact ⟨k + 1, by omega, by go_num, by rw [HS.out, hx.out], fun j hj => by
          by_cases e : j < k
          · exact HA.out j e
          · have : j = k := by omega
            subst this
            rw [hx.out]
            simp [mOk]
            exact ⟨x1, x2⟩⟩)
        case measure => simp [intOf]; omega
      · exact absurd ((HOK.out k (by rw [hlen.out]; exact hlt))) (by rw [hx.out]; simp [mOk]; omega)
    · have hkn : k = n := by omega
      subst hkn
      have HT := hide (show (xs.take k).sum = xs.sum by rw [List.take_of_length_le (by rw [hlen.out]; exact Nat.le_refl _)])
      rw [HT.out] at hs1 hs2
      rw [HT.out]
      go_wp2_with (go_at_call 51; refine (l2Make_any _ _ _ (by omega) (by omega) (by omega) (by omega)).mono ?_; rintro e w1 ⟨rfl, hb⟩; obtain ⟨hc, hf⟩ := bcell hb)
      obtain ⟨r0, r1⟩ := two_cells (w := w1) (b := w.heap.size) (x := .int .i64 0) (y := .int .i64 0) (by rw [hc _ _ (by first | (simp; done) | (simp; omega) | omega)]; go_simp) (by rw [hc _ _ (by first | (simp; done) | (simp; omega) | omega)]; go_simp)
      refine bodyPost_ret (v := .tuple #[.agg #[.int .i64 (mkN xs.sum k), .int .i64 (mkD xs.sum k)], .bool (mkB xs.sum k)]) (by simp [results, Try.results33, go_sem, r0, r1]) rfl ⟨rfl, (by repeat (first | exact Below.refl _ _ | (refine below_drewN ?_ _) | (refine Below.drew ?_) | (refine Below.alloc ?_ (by first | exact Nat.le_refl _ | (simp; done) | (simp; omega) | omega) _) | (refine Below.setCell ?_ (by first | exact Nat.le_refl _ | (simp; done) | (simp; omega) | omega) _) | (refine Below.trans ?_ (Below.mono (by assumption) (by first | exact Nat.le_refl _ | (simp; done) | (simp; omega) | omega)))))⟩

set_option maxHeartbeats 800000 in
theorem specMeanFrac_no (A : Option Addr) (n c : Nat) (xs : List Int) (w : World) (hr : RdI w A n xs) (n1 : 1 ≤ n) (n2 : n ≤ 100) (hno : (∀ j, j < xs.length → mOk (xs.getD j 0) = true) → False) :
    Calls Try.prog 33 #[.slice A n c] w fun e w' => e = .returned (.tuple #[.agg #[.int .i64 0, .int .i64 0], .bool false]) ∧ Below w.heap.size w w' := by
  have HR := hide hr
  have hlen := hide hr.1
  have HNO := hide hno
  clear hr hno
  go_enter Try.func33, Try.ntmps33
  go_wp2_with (first | (go_at_call 50; refine (l1In_yes _ _ _ _ (by omega) (by omega)).mono ?_; rintro e w' ⟨rfl, rfl⟩) | (go_at_call 50; refine (l1In_no _ _ _ _ (by omega)).mono ?_; rintro e w' ⟨rfl, rfl⟩))
  go_loop [4, 5] (fun s i => ∃ k : Nat, k ≤ n ∧ i = .int .i64 k ∧ s = .int .i64 (xs.take k).sum ∧ Hid (∀ j, j < k → mOk (xs.getD j 0) = true)) (fun s i => n - (intOf i).toNat)
  case atStart => exact ⟨0, Nat.zero_le _, rfl, by simp, fun j hj => absurd hj (Nat.not_lt_zero _)⟩
  case round =>
    obtain ⟨k, hk, rfl, rfl, HA⟩ := hrel
    have hs := take_bd xs k (by rw [hlen.out]; exact hk) (by rw [hlen.out]; exact n2) HA.out
    have hs1 := hs.1
    have hs2 := hs.2
    clear hs
    by_cases hlt : k < n
    · have hlt' : (k : Int) < (n : Int) := by omega
      obtain ⟨b, off, rfl, hb, hc⟩ := (HR.out).at_ hlt
      have hc1 : (w.alloc (.cells #[.int .i64 0, .int .i64 0] 26)).cell? ⟨b, off + k, none⟩ = some (.int .i64 (xs.getD k 0)) := by rw [World.cell?_alloc_past _ _ _ hb]; exact hc
      obtain ⟨x, hx⟩ : ∃ x, Hid (xs.getD k 0 = x) := ⟨_, rfl⟩
      rw [hx.out] at hc1
      clear hc hb
      have HS := hide (sum_take xs k (by rw [hlen.out]; exact hlt))
      by_cases hin : -100000000 ≤ x ∧ x ≤ 100000000
      · obtain ⟨x1, x2⟩ := hin
        go_wp2_with (first | (go_at_call 50; refine (l1In_yes _ _ _ _ (by omega) (by omega)).mono ?_; rintro e w' ⟨rfl, rfl⟩) | (go_at_call 50; refine (l1In_no _ _ _ _ (by omega)).mono ?_; rintro e w' ⟨rfl, rfl⟩))
        go_round
        case rel => first | exact ⟨k + 1, by omega, by go_num, by rw [HS.out, hx.out], fun j hj => by
          by_cases e : j < k
          · exact HA.out j e
          · have : j = k := by omega
            subst this
            rw [hx.out]
            simp [mOk]
            exact ⟨x1, x2⟩⟩ | ((repeat apply Exists.intro); refine ⟨?_, rfl⟩; exact ⟨k + 1, by omega, by go_num, by rw [HS.out, hx.out], fun j hj => by
          by_cases e : j < k
          · exact HA.out j e
          · have : j = k := by omega
            subst this
            rw [hx.out]
            simp [mOk]
            exact ⟨x1, x2⟩⟩)
        case measure => simp [intOf]; omega
      · go_wp2_with (first | (go_at_call 50; refine (l1In_yes _ _ _ _ (by omega) (by omega)).mono ?_; rintro e w' ⟨rfl, rfl⟩) | (go_at_call 50; refine (l1In_no _ _ _ _ (by omega)).mono ?_; rintro e w' ⟨rfl, rfl⟩))
        refine bodyPost_ret (v := .tuple #[.agg #[.int .i64 0, .int .i64 0], .bool false]) (by simp [results, Try.results33, go_sem]) rfl ⟨rfl, (by repeat (first | exact Below.refl _ _ | (refine below_drewN ?_ _) | (refine Below.drew ?_) | (refine Below.alloc ?_ (by first | exact Nat.le_refl _ | (simp; done) | (simp; omega) | omega) _) | (refine Below.setCell ?_ (by first | exact Nat.le_refl _ | (simp; done) | (simp; omega) | omega) _) | (refine Below.trans ?_ (Below.mono (by assumption) (by first | exact Nat.le_refl _ | (simp; done) | (simp; omega) | omega)))))⟩
    · have hkn : k = n := by omega
      subst hkn
      exact absurd (HNO.out (by rw [hlen.out]; exact HA.out)) id

theorem specMeanFrac_len (A : Option Addr) (n c : Nat) (w : World) (hn : n ≤ 1048576) (h : ¬ (1 ≤ n ∧ n ≤ 100)) :
    Calls Try.prog 33 #[.slice A n c] w fun e w' => e = .returned (.tuple #[.agg #[.int .i64 0, .int .i64 0], .bool false]) ∧ Below w.heap.size w w' := by
  have h' : ¬ ((1 : Int) ≤ (n : Int) ∧ (n : Int) ≤ 100) := by omega
  clear h
  go_enter Try.func33, Try.ntmps33
  go_wp2_with (first | (go_at_call 50; refine (l1In_yes _ _ _ _ (by omega) (by omega)).mono ?_; rintro e w' ⟨rfl, rfl⟩) | (go_at_call 50; refine (l1In_no _ _ _ _ (by omega)).mono ?_; rintro e w' ⟨rfl, rfl⟩))
  refine bodyPost_ret (v := .tuple #[.agg #[.int .i64 0, .int .i64 0], .bool false]) (by simp [results, Try.results33, go_sem]) rfl ⟨rfl, (by repeat (first | exact Below.refl _ _ | (refine below_drewN ?_ _) | (refine Below.drew ?_) | (refine Below.alloc ?_ (by first | exact Nat.le_refl _ | (simp; done) | (simp; omega) | omega) _) | (refine Below.setCell ?_ (by first | exact Nat.le_refl _ | (simp; done) | (simp; omega) | omega) _) | (refine Below.trans ?_ (Below.mono (by assumption) (by first | exact Nat.le_refl _ | (simp; done) | (simp; omega) | omega)))))⟩

set_option maxHeartbeats 800000 in
theorem implMeanFrac_yes (A : Option Addr) (n c : Nat) (xs : List Int) (w : World) (hr : RdI w A n xs) (n1 : 1 ≤ n) (n2 : n ≤ 100) (hok : ∀ j, j < xs.length → mOk (xs.getD j 0) = true) :
    Calls Try.prog 35 #[.slice A n c] w fun e w' => e = .returned (.tuple #[.agg #[.int .i64 (mkN (xs.sum) (n : Int)), .int .i64 (mkD (xs.sum) (n : Int))], .bool (mkB (xs.sum) (n : Int))]) ∧ Below w.heap.size w w' := by
  have HR := hide hr
  have hlen := hide hr.1
  have HOK := hide hok
  clear hr hok
  go_enter Try.func35, Try.ntmps35
  go_wp2_with (first | (go_at_call 52; refine (within_yes _ _ _ _ (by omega) (by omega)).mono ?_; rintro e w' ⟨rfl, rfl⟩) | (go_at_call 52; refine (within_no _ _ _ _ (by omega)).mono ?_; rintro e w' ⟨rfl, rfl⟩))
  go_loop [4, 6, 14] (fun s _ i => ∃ k : Nat, k ≤ n ∧ i = .int .i64 k ∧ s = .int .i64 (xs.take k).sum ∧ Hid (∀ j, j < k → mOk (xs.getD j 0) = true)) (fun s _ i => n - (intOf i).toNat)
  case atStart => exact ⟨0, Nat.zero_le _, rfl, by simp, fun j hj => absurd hj (Nat.not_lt_zero _)⟩
  case round =>
    obtain ⟨k, hk, rfl, rfl, HA⟩ := hrel
    have hs := take_bd xs k (by rw [hlen.out]; exact hk) (by rw [hlen.out]; exact n2) HA.out
    have hs1 := hs.1
    have hs2 := hs.2
    clear hs
    by_cases hlt : k < n
    · have hlt' : (k : Int) < (n : Int) := by omega
      obtain ⟨b, off, rfl, hb, hc⟩ := (HR.out).at_ hlt
      have hc1 : (w.alloc (.cells #[.int .i64 0, .int .i64 0] 26)).cell? ⟨b, off + k, none⟩ = some (.int .i64 (xs.getD k 0)) := by rw [World.cell?_alloc_past _ _ _ hb]; exact hc
      obtain ⟨x, hx⟩ : ∃ x, Hid (xs.getD k 0 = x) := ⟨_, rfl⟩
      rw [hx.out] at hc1
      clear hc hb
      have HS := hide (sum_take xs k (by rw [hlen.out]; exact hlt))
      by_cases hin : -100000000 ≤ x ∧ x ≤ 100000000
      · obtain ⟨x1, x2⟩ := hin
        go_wp2_with (first | (go_at_call 52; refine (within_yes _ _ _ _ (by omega) (by omega)).mono ?_; rintro e w' ⟨rfl, rfl⟩) | (go_at_call 52; refine (within_no _ _ _ _ (by omega)).mono ?_; rintro e w' ⟨rfl, rfl⟩))
        go_round
        case rel => first | exact ⟨k + 1, by omega, by go_num, by rw [HS.out, hx.out], fun j hj => by
          by_cases e : j < k
          · exact HA.out j e
          · have : j = k := by omega
            subst this
            rw [hx.out]
            simp [mOk]
            exact ⟨x1, x2⟩⟩ | ((repeat apply Exists.intro); refine ⟨?_, rfl⟩; exact ⟨k + 1, by omega, by go_num, by rw [HS.out, hx.out], fun j hj => by
          by_cases e : j < k
          · exact HA.out j e
          · have : j = k := by omega
            subst this
            rw [hx.out]
            simp [mOk]
            exact ⟨x1, x2⟩⟩)
        case measure => simp [intOf]; omega
      · exact absurd ((HOK.out k (by rw [hlen.out]; exact hlt))) (by rw [hx.out]; simp [mOk]; omega)
    · have hkn : k = n := by omega
      subst hkn
      have HT := hide (show (xs.take k).sum = xs.sum by rw [List.take_of_length_le (by rw [hlen.out]; exact Nat.le_refl _)])
      rw [HT.out] at hs1 hs2
      rw [HT.out]
      go_wp2_with (go_at_call 53; refine (makeFrac_any _ _ _ (by omega) (by omega) (by omega) (by omega)).mono ?_; rintro e w1 ⟨rfl, hb⟩; obtain ⟨hc, hf⟩ := bcell hb)
      obtain ⟨r0, r1⟩ := two_cells (w := w1) (b := w.heap.size) (x := .int .i64 0) (y := .int .i64 0) (by rw [hc _ _ (by first | (simp; done) | (simp; omega) | omega)]; go_simp) (by rw [hc _ _ (by first | (simp; done) | (simp; omega) | omega)]; go_simp)
      refine bodyPost_ret (v := .tuple #[.agg #[.int .i64 (mkN xs.sum k), .int .i64 (mkD xs.sum k)], .bool (mkB xs.sum k)]) (by simp [results, Try.results35, go_sem, r0, r1]) rfl ⟨rfl, (by repeat (first | exact Below.refl _ _ | (refine below_drewN ?_ _) | (refine Below.drew ?_) | (refine Below.alloc ?_ (by first | exact Nat.le_refl _ | (simp; done) | (simp; omega) | omega) _) | (refine Below.setCell ?_ (by first | exact Nat.le_refl _ | (simp; done) | (simp; omega) | omega) _) | (refine Below.trans ?_ (Below.mono (by assumption) (by first | exact Nat.le_refl _ | (simp; done) | (simp; omega) | omega)))))⟩

set_option maxHeartbeats 800000 in
theorem implMeanFrac_no (A : Option Addr) (n c : Nat) (xs : List Int) (w : World) (hr : RdI w A n xs) (n1 : 1 ≤ n) (n2 : n ≤ 100) (hno : (∀ j, j < xs.length → mOk (xs.getD j 0) = true) → False) :
    Calls Try.prog 35 #[.slice A n c] w fun e w' => e = .returned (.tuple #[.agg #[.int .i64 0, .int .i64 0], .bool false]) ∧ Below w.heap.size w w' := by
  have HR := hide hr
  have hlen := hide hr.1
  have HNO := hide hno
  clear hr hno
  go_enter Try.func35, Try.ntmps35
  go_wp2_with (first | (go_at_call 52; refine (within_yes _ _ _ _ (by omega) (by omega)).mono ?_; rintro e w' ⟨rfl, rfl⟩) | (go_at_call 52; refine (within_no _ _ _ _ (by omega)).mono ?_; rintro e w' ⟨rfl, rfl⟩))
  go_loop [4, 6, 14] (fun s _ i => ∃ k : Nat, k ≤ n ∧ i = .int .i64 k ∧ s = .int .i64 (xs.take k).sum ∧ Hid (∀ j, j < k → mOk (xs.getD j 0) = true)) (fun s _ i => n - (intOf i).toNat)
  case atStart => exact ⟨0, Nat.zero_le _, rfl, by simp, fun j hj => absurd hj (Nat.not_lt_zero _)⟩
  case round =>
    obtain ⟨k, hk, rfl, rfl, HA⟩ := hrel
    have hs := take_bd xs k (by rw [hlen.out]; exact hk) (by rw [hlen.out]; exact n2) HA.out
    have hs1 := hs.1
    have hs2 := hs.2
    clear hs
    by_cases hlt : k < n
    · have hlt' : (k : Int) < (n : Int) := by omega
      obtain ⟨b, off, rfl, hb, hc⟩ := (HR.out).at_ hlt
      have hc1 : (w.alloc (.cells #[.int .i64 0, .int .i64 0] 26)).cell? ⟨b, off + k, none⟩ = some (.int .i64 (xs.getD k 0)) := by rw [World.cell?_alloc_past _ _ _ hb]; exact hc
      obtain ⟨x, hx⟩ : ∃ x, Hid (xs.getD k 0 = x) := ⟨_, rfl⟩
      rw [hx.out] at hc1
      clear hc hb
      have HS := hide (sum_take xs k (by rw [hlen.out]; exact hlt))
      by_cases hin : -100000000 ≤ x ∧ x ≤ 100000000
      · obtain ⟨x1, x2⟩ := hin
        go_wp2_with (first | (go_at_call 52; refine (within_yes _ _ _ _ (by omega) (by omega)).mono ?_; rintro e w' ⟨rfl, rfl⟩) | (go_at_call 52; refine (within_no _ _ _ _ (by omega)).mono ?_; rintro e w' ⟨rfl, rfl⟩))
        go_round
        case rel => first | exact ⟨k + 1, by omega, by go_num, by rw [HS.out, hx.out], fun j hj => by
          by_cases e : j < k
          · exact HA.out j e
          · have : j = k := by omega
            subst this
            rw [hx.out]
            simp [mOk]
            exact ⟨x1, x2⟩⟩ | ((repeat apply Exists.intro); refine ⟨?_, rfl⟩; exact ⟨k + 1, by omega, by go_num, by rw [HS.out, hx.out], fun j hj => by
          by_cases e : j < k
          · exact HA.out j e
          · have : j = k := by omega
            subst this
            rw [hx.out]
            simp [mOk]
            exact ⟨x1, x2⟩⟩)
        case measure => simp [intOf]; omega
      · go_wp2_with (first | (go_at_call 52; refine (within_yes _ _ _ _ (by omega) (by omega)).mono ?_; rintro e w' ⟨rfl, rfl⟩) | (go_at_call 52; refine (within_no _ _ _ _ (by omega)).mono ?_; rintro e w' ⟨rfl, rfl⟩))
        refine bodyPost_ret (v := .tuple #[.agg #[.int .i64 0, .int .i64 0], .bool false]) (by simp [results, Try.results35, go_sem]) rfl ⟨rfl, (by repeat (first | exact Below.refl _ _ | (refine below_drewN ?_ _) | (refine Below.drew ?_) | (refine Below.alloc ?_ (by first | exact Nat.le_refl _ | (simp; done) | (simp; omega) | omega) _) | (refine Below.setCell ?_ (by first | exact Nat.le_refl _ | (simp; done) | (simp; omega) | omega) _) | (refine Below.trans ?_ (Below.mono (by assumption) (by first | exact Nat.le_refl _ | (simp; done) | (simp; omega) | omega)))))⟩
    · have hkn : k = n := by omega
      subst hkn
      exact absurd (HNO.out (by rw [hlen.out]; exact HA.out)) id

theorem implMeanFrac_len (A : Option Addr) (n c : Nat) (w : World) (hn : n ≤ 1048576) (h : ¬ (1 ≤ n ∧ n ≤ 100)) :
    Calls Try.prog 35 #[.slice A n c] w fun e w' => e = .returned (.tuple #[.agg #[.int .i64 0, .int .i64 0], .bool false]) ∧ Below w.heap.size w w' := by
  have h' : ¬ ((1 : Int) ≤ (n : Int) ∧ (n : Int) ≤ 100) := by omega
  clear h
  go_enter Try.func35, Try.ntmps35
  go_wp2_with (first | (go_at_call 52; refine (within_yes _ _ _ _ (by omega) (by omega)).mono ?_; rintro e w' ⟨rfl, rfl⟩) | (go_at_call 52; refine (within_no _ _ _ _ (by omega)).mono ?_; rintro e w' ⟨rfl, rfl⟩))
  refine bodyPost_ret (v := .tuple #[.agg #[.int .i64 0, .int .i64 0], .bool false]) (by simp [results, Try.results35, go_sem]) rfl ⟨rfl, (by repeat (first | exact Below.refl _ _ | (refine below_drewN ?_ _) | (refine Below.drew ?_) | (refine Below.alloc ?_ (by first | exact Nat.le_refl _ | (simp; done) | (simp; omega) | omega) _) | (refine Below.setCell ?_ (by first | exact Nat.le_refl _ | (simp; done) | (simp; omega) | omega) _) | (refine Below.trans ?_ (Below.mono (by assumption) (by first | exact Nat.le_refl _ | (simp; done) | (simp; omega) | omega)))))⟩
end Go.Proofs.Ytainbffcnaafkaa
