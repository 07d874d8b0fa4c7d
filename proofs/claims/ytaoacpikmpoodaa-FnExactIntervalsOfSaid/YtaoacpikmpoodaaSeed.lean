/- SeededRequests and NearRequests: the reference and the program return the same numbers; for numbers of 64 bits. -/
import Derived.Test.YtaoacpikmpoodaaInts
namespace Go.Proofs.Ytaoacpikmpoodaa
open Go.RowKit

/-- The state after another one; the state after k steps. -/
def nxt (s : Int) : Int := (1021 * s + 12345) % 65536
def stAt (seed : Int) : Nat → Int
  | 0 => seed
  | k + 1 => nxt (stAt seed k)
theorem nxt_bd (s : Int) : 0 ≤ nxt s ∧ nxt s < 65536 := by unfold nxt; omega
theorem stAt_bd (seed : Int) (h : 0 ≤ seed) (h' : seed ≤ 9999) (k : Nat) : 0 ≤ stAt seed k ∧ stAt seed k < 65536 := by
  cases k with
  | zero => simp [stAt]; omega
  | succ k => exact nxt_bd _
def seedOk (n l s : Int) : Bool := decide (1 ≤ n ∧ n ≤ 8 ∧ 0 ≤ l ∧ l ≤ 60 ∧ 0 ≤ s ∧ s ≤ 9999)
def seedL (n s : Int) (m : Nat) : List Int := (List.range m).map fun (i : Nat) => stAt s (i + 1) / 16 % n
def seededRequestsV (n l s : Int) : List Int × Bool := if seedOk n l s = true then (seedL n s l.toNat, true) else ([], false)
theorem seededRequestsV_len (n l s : Int) : (seededRequestsV n l s).1.length ≤ 1048576 := by
  unfold seededRequestsV
  split
  · rename_i h; simp [seedOk] at h; simp [seedL]; omega
  · simp
def nearAt (n wd s : Int) : Nat → Int
  | 0 => stAt s 1 / 16 % n
  | i + 1 => (nearAt n wd s i + stAt s (i + 2) / 16 % wd) % n
theorem nearAt_bd (n wd s : Int) (hn : 1 ≤ n) (hn' : n ≤ 8) (i : Nat) : 0 ≤ nearAt n wd s i ∧ nearAt n wd s i < 8 := by
  cases i with
  | zero => unfold nearAt; exact ⟨Int.emod_nonneg _ (by omega), Int.lt_of_lt_of_le (Int.emod_lt_of_pos _ (by omega)) hn'⟩
  | succ i => unfold nearAt; exact ⟨Int.emod_nonneg _ (by omega), Int.lt_of_lt_of_le (Int.emod_lt_of_pos _ (by omega)) hn'⟩
def nearL (n wd s : Int) (m : Nat) : List Int := (List.range m).map (nearAt n wd s)
def nearOk (n l wd s : Int) : Bool := decide (1 ≤ n ∧ n ≤ 8 ∧ 0 ≤ l ∧ l ≤ 60 ∧ 1 ≤ wd ∧ wd ≤ n ∧ 0 ≤ s ∧ s ≤ 9999)
def nearRequestsV (n l wd s : Int) : List Int × Bool := if nearOk n l wd s = true then (nearL n wd s l.toNat, true) else ([], false)
theorem nearRequestsV_len (n l wd s : Int) : (nearRequestsV n l wd s).1.length ≤ 1048576 := by
  unfold nearRequestsV
  split
  · rename_i h; simp [nearOk] at h; simp [nearL]; omega
  · simp

theorem l3Next_any (s : Int) (w : World) (h : 0 ≤ s) (h' : s < 65536) :
    Calls Try.prog 54 #[.int .i64 s] w fun e w' => e = .returned (.int .i64 (nxt s)) ∧ w = w' := by
  go_enter Try.func54, Try.ntmps54
  go_wp2
  go_ret
  exact ⟨rfl, rfl⟩
theorem below_any (C : Nat) (s b : Int) (w : World) (hc : w.cell? ⟨C, 0, none⟩ = some (.int .i64 s)) (hf : w.frozen? ⟨C, 0, none⟩ = false) (h : 0 ≤ s) (h' : s < 65536) (hb : 1 ≤ b) (hb' : b ≤ 100) :
    Calls Try.prog 58 #[.pointer (some ⟨C, 0, none⟩), .int .i64 b] w fun e w' => e = .returned (.int .i64 (nxt s / 16 % b)) ∧ w'.cell? ⟨C, 0, none⟩ = some (.int .i64 (nxt s)) ∧ w'.frozen? ⟨C, 0, none⟩ = false ∧ w.grownBy w' (some C) := by
  have hr : (w.setCell ⟨C, 0, none⟩ (.int .i64 ((1021 * s + 12345) % 65536))).cell? ⟨C, 0, none⟩ = some (.int .i64 ((1021 * s + 12345) % 65536)) := World.cell?_setCell_same _ _ _ hc
  have h1 : 0 ≤ (1021 * s + 12345) % 65536 := by omega
  have h2 : (1021 * s + 12345) % 65536 < 65536 := by omega
  go_enter Try.func58, Try.ntmps58
  go_wp2
  go_ret
  exact ⟨rfl, hr, by rw [World.frozen?_setCell]; exact hf, ⟨rfl, rfl, rfl, by simp [World.setCell], fun k _ hk => Below.heap_setCell _ _ _ _ (fun e => hk (by rw [e]))⟩⟩
theorem OwnI.far {w w' : World} {base C : Nat} {A : Option Addr} {n c : Nat} {xs : List Int} (h : OwnI w base A n c xs) (hg : w.grownBy w' (some C)) (hC : C < base) : OwnI w' base A n c xs := by
  refine World.ownsRow.kept h hg ?_
  cases A with
  | none => exact .inl rfl
  | some a => right; simp [Value.ownBlock]; have := (h.lt a rfl).1; omega
theorem Below.far {B C : Nat} {w w1 w2 : World} (h : Below B w w1) (hg : w1.grownBy w2 (some C)) (hB : B ≤ w1.heap.size) (hC : B ≤ C) : Below B w w2 := h.grown hg hB (fun k e => by cases e; exact hC)

set_option maxHeartbeats 1600000 in
theorem spec_SeededRequests (n l s : Int) (w : World) (_ : -9223372036854775808 ≤ n) (_ : n ≤ 9223372036854775807) (_ : -9223372036854775808 ≤ l) (_ : l ≤ 9223372036854775807) (_ : -9223372036854775808 ≤ s) (_ : s ≤ 9223372036854775807) :
    Calls Try.prog 15 #[.int .i64 n, .int .i64 l, .int .i64 s] w (RetI w (seededRequestsV n l s)) := by
  by_cases c0 : 1 ≤ n ∧ n ≤ 8
  · obtain ⟨c00, c01⟩ := c0
    by_cases c1 : 0 ≤ l ∧ l ≤ 60
    · obtain ⟨c10, c11⟩ := c1
      by_cases c2 : 0 ≤ s ∧ s ≤ 9999
      · obtain ⟨c20, c21⟩ := c2
        obtain ⟨m, rfl⟩ := Int.eq_ofNat_of_zero_le c10
        have HV := hide (show seededRequestsV n m s = (seedL n s m, true) by simp [seededRequestsV, seedOk, *])
        go_enter Try.func15, Try.ntmps15
        go_wp2_with (first | (go_at_call 53; refine (l1In_yes _ _ _ _ (by omega) (by omega)).mono ?_; rintro e w' ⟨rfl, rfl⟩) | (go_at_call 53; refine (l1In_no _ _ _ _ (by omega)).mono ?_; rintro e w' ⟨rfl, rfl⟩) | go_in)
        go_loopw [8, 9] (fun u t wr => ∃ (q : Nat) (A : Option Addr) (c : Nat), q ≤ m ∧ t = .int .i64 (stAt s q) ∧ u = .slice A q c ∧ Hid (OwnI wr w.heap.size A q c (seedL n s q)) ∧ Hid (Below w.heap.size w wr)) (fun u _ _ => match u with | .slice _ k _ => m - k | _ => 0)
        case atStart => exact ⟨0, _, _, Nat.zero_le _, rfl, rfl, own_empty _ _ (Nat.le_refl _) _ rfl, (by repeat (first | exact Below.refl _ _ | (refine below_drewN ?_ _) | (refine Below.drew ?_) | (refine Below.alloc ?_ (by first | exact Nat.le_refl _ | (simp; done) | (simp; omega) | omega) _) | (refine Below.setCell ?_ (by first | exact Nat.le_refl _ | (simp; done) | (simp; omega) | omega) _) | (refine Below.trans ?_ (Below.mono (by assumption) (by first | exact Nat.le_refl _ | (simp; done) | (simp; omega) | omega)))))⟩
        case round =>
          obtain ⟨q, A, c, hq, rfl, rfl, HO, HB⟩ := hrel
          have hs := stAt_bd s c20 c21 q
          have hs1 := hs.1
          have hs2 := hs.2
          clear hs
          by_cases hlt : q < m
          · have hlt' : (q : Int) < (m : Int) := by omega
            have hn := nxt_bd (stAt s q)
            have hn1 := hn.1
            have hn2 := hn.2
            clear hn
            have HN : Hid (nxt (stAt s q) = stAt s (q + 1)) := rfl
            go_wp2_with (first | (go_at_call 54; refine (l3Next_any _ _ hs1 hs2).mono ?_; rintro e w' ⟨rfl, rfl⟩) | (at_builtin; refine append_int rfl _ _ rfl w.heap.size A q c (seedL n s q) _ _ rfl rfl HO.out (by omega) HB.out.size ?_; intro A' c' w1 ho' hb' hg'; replace ho' := hide ho'; replace hb' := hide hb'; clear hg'))
            go_roundw
            case rel => first | exact ⟨q + 1, A', c', by omega, by rw [← HN.out], rfl, by have := ho'.out; rw [HN.out] at this; simpa [seedL, List.range_succ, Hid] using this, HB.out.trans hb'.out⟩ | ((repeat apply Exists.intro); refine ⟨?_, rfl⟩; exact ⟨q + 1, A', c', by omega, by rw [← HN.out], rfl, by have := ho'.out; rw [HN.out] at this; simpa [seedL, List.range_succ, Hid] using this, HB.out.trans hb'.out⟩)
            case measure => simp; omega
          · have hqm : q = m := by omega
            subst hqm
            go_wp2
            go_ret2
            exact RetI.of HO.out HB.out HV.out
      · have HV := hide (show seededRequestsV n l s = ([], false) by simp [seededRequestsV, seedOk]; omega)
        go_enter Try.func15, Try.ntmps15
        go_wp2_with (first | (go_at_call 53; refine (l1In_yes _ _ _ _ (by omega) (by omega)).mono ?_; rintro e w' ⟨rfl, rfl⟩) | (go_at_call 53; refine (l1In_no _ _ _ _ (by omega)).mono ?_; rintro e w' ⟨rfl, rfl⟩) | go_in)
        go_ret2
        exact RetI.of (own_empty _ _ (Nat.le_refl _) _ rfl) (by repeat (first | exact Below.refl _ _ | (refine below_drewN ?_ _) | (refine Below.drew ?_) | (refine Below.alloc ?_ (by first | exact Nat.le_refl _ | (simp; done) | (simp; omega) | omega) _) | (refine Below.setCell ?_ (by first | exact Nat.le_refl _ | (simp; done) | (simp; omega) | omega) _) | (refine Below.trans ?_ (Below.mono (by assumption) (by first | exact Nat.le_refl _ | (simp; done) | (simp; omega) | omega))))) HV.out
    · have HV := hide (show seededRequestsV n l s = ([], false) by simp [seededRequestsV, seedOk]; omega)
      go_enter Try.func15, Try.ntmps15
      go_wp2_with (first | (go_at_call 53; refine (l1In_yes _ _ _ _ (by omega) (by omega)).mono ?_; rintro e w' ⟨rfl, rfl⟩) | (go_at_call 53; refine (l1In_no _ _ _ _ (by omega)).mono ?_; rintro e w' ⟨rfl, rfl⟩) | go_in)
      go_ret2
      exact RetI.of (own_empty _ _ (Nat.le_refl _) _ rfl) (by repeat (first | exact Below.refl _ _ | (refine below_drewN ?_ _) | (refine Below.drew ?_) | (refine Below.alloc ?_ (by first | exact Nat.le_refl _ | (simp; done) | (simp; omega) | omega) _) | (refine Below.setCell ?_ (by first | exact Nat.le_refl _ | (simp; done) | (simp; omega) | omega) _) | (refine Below.trans ?_ (Below.mono (by assumption) (by first | exact Nat.le_refl _ | (simp; done) | (simp; omega) | omega))))) HV.out
  · have HV := hide (show seededRequestsV n l s = ([], false) by simp [seededRequestsV, seedOk]; omega)
    go_enter Try.func15, Try.ntmps15
    go_wp2_with (first | (go_at_call 53; refine (l1In_yes _ _ _ _ (by omega) (by omega)).mono ?_; rintro e w' ⟨rfl, rfl⟩) | (go_at_call 53; refine (l1In_no _ _ _ _ (by omega)).mono ?_; rintro e w' ⟨rfl, rfl⟩) | go_in)
    go_ret2
    exact RetI.of (own_empty _ _ (Nat.le_refl _) _ rfl) (by repeat (first | exact Below.refl _ _ | (refine below_drewN ?_ _) | (refine Below.drew ?_) | (refine Below.alloc ?_ (by first | exact Nat.le_refl _ | (simp; done) | (simp; omega) | omega) _) | (refine Below.setCell ?_ (by first | exact Nat.le_refl _ | (simp; done) | (simp; omega) | omega) _) | (refine Below.trans ?_ (Below.mono (by assumption) (by first | exact Nat.le_refl _ | (simp; done) | (simp; omega) | omega))))) HV.out

set_option maxHeartbeats 1600000 in
theorem impl_SeededRequests (n l s : Int) (w : World) (_ : -9223372036854775808 ≤ n) (_ : n ≤ 9223372036854775807) (_ : -9223372036854775808 ≤ l) (_ : l ≤ 9223372036854775807) (_ : -9223372036854775808 ≤ s) (_ : s ≤ 9223372036854775807) :
    Calls Try.prog 16 #[.int .i64 n, .int .i64 l, .int .i64 s] w (RetI w (seededRequestsV n l s)) := by
  by_cases c0 : 1 ≤ n ∧ n ≤ 8
  · obtain ⟨c00, c01⟩ := c0
    by_cases c1 : 0 ≤ l ∧ l ≤ 60
    · obtain ⟨c10, c11⟩ := c1
      by_cases c2 : 0 ≤ s ∧ s ≤ 9999
      · obtain ⟨c20, c21⟩ := c2
        obtain ⟨m, rfl⟩ := Int.eq_ofNat_of_zero_le c10
        have HV := hide (show seededRequestsV n m s = (seedL n s m, true) by simp [seededRequestsV, seedOk, *])
        go_enter Try.func16, Try.ntmps16
        go_wp2_with (first | (go_at_call 57; refine (within_yes _ _ _ _ (by omega) (by omega)).mono ?_; rintro e w' ⟨rfl, rfl⟩) | (go_at_call 57; refine (within_no _ _ _ _ (by omega)).mono ?_; rintro e w' ⟨rfl, rfl⟩) | go_in)
        go_loopw [9, 28] (fun u i wr => ∃ (q : Nat) (A : Option Addr) (c : Nat), q ≤ m ∧ i = .int .i64 q ∧ u = .slice A q c ∧ Hid (OwnI wr (w.heap.size + 1) A q c (seedL n s q)) ∧ Hid (Below w.heap.size w wr) ∧ wr.cell? ⟨w.heap.size, 0, none⟩ = some (.int .i64 (stAt s q)) ∧ wr.frozen? ⟨w.heap.size, 0, none⟩ = false ∧ w.heap.size + 1 ≤ wr.heap.size) (fun _ i _ => m - (intOf i).toNat)
        case atStart => exact ⟨0, _, _, Nat.zero_le _, rfl, rfl, by have := own_empty (w.alloc (.cells #[.int .i64 s] 53)) (w.heap.size + 1) (by simp) #[] rfl; simpa [Hid, seedL] using this, (by repeat (first | exact Below.refl _ _ | (refine below_drewN ?_ _) | (refine Below.drew ?_) | (refine Below.alloc ?_ (by first | exact Nat.le_refl _ | (simp; done) | (simp; omega) | omega) _) | (refine Below.setCell ?_ (by first | exact Nat.le_refl _ | (simp; done) | (simp; omega) | omega) _) | (refine Below.trans ?_ (Below.mono (by assumption) (by first | exact Nat.le_refl _ | (simp; done) | (simp; omega) | omega))))), by go_simp; rfl, by go_simp, by simp⟩
        case round =>
          obtain ⟨q, A, c, hq, rfl, rfl, HO, HB, hcc, hcf, hcz⟩ := hrel
          have hs := stAt_bd s c20 c21 q
          have hs1 := hs.1
          have hs2 := hs.2
          clear hs
          by_cases hlt : q < m
          · have hlt' : (q : Int) < (m : Int) := by omega
            have HN : Hid (nxt (stAt s q) = stAt s (q + 1)) := rfl
            go_wp2_with (first | (go_at_call 58; refine (below_any _ _ _ _ hcc hcf hs1 hs2 (by omega) (by omega)).mono ?_; rintro e w2 ⟨rfl, hcc2, hcf2, hg2⟩; have HO2 := hide (HO.out.far hg2 (Nat.lt_succ_self _)); have HB2 := hide (Below.far HB.out hg2 (by omega) (Nat.le_refl _)); have hcz2 := Nat.le_trans hcz hg2.size; clear hcc hcf hg2) | (at_builtin; refine append_int rfl _ _ rfl (w.heap.size + 1) A q c (seedL n s q) _ _ rfl rfl HO2.out (by omega) hcz2 ?_; intro A' c' w1 ho' hb' hg'; replace ho' := hide ho'; replace hb' := hide hb'; clear hg'))
            have hcc3 := (hb'.out.cell (p := ⟨w.heap.size, 0, none⟩) (Nat.lt_succ_self _)).trans hcc2
            have hcf3 := (hb'.out.frozen (p := ⟨w.heap.size, 0, none⟩) (Nat.lt_succ_self _)).trans hcf2
            go_roundw
            case rel => first | exact ⟨q + 1, A', c', by omega, by go_num, rfl, by have := ho'.out; rw [HN.out] at this; simpa [seedL, List.range_succ, Hid] using this, HB2.out.trans (hb'.out.mono (by omega)), hcc3, hcf3, Nat.le_trans hcz2 hb'.out.size⟩ | ((repeat apply Exists.intro); refine ⟨?_, rfl⟩; exact ⟨q + 1, A', c', by omega, by go_num, rfl, by have := ho'.out; rw [HN.out] at this; simpa [seedL, List.range_succ, Hid] using this, HB2.out.trans (hb'.out.mono (by omega)), hcc3, hcf3, Nat.le_trans hcz2 hb'.out.size⟩)
            case measure => simp [intOf]; omega
          · have hqm : q = m := by omega
            subst hqm
            go_wp2
            go_ret2
            exact RetI.of (HO.out.more (by omega)) HB.out HV.out
      · have HV := hide (show seededRequestsV n l s = ([], false) by simp [seededRequestsV, seedOk]; omega)
        go_enter Try.func16, Try.ntmps16
        go_wp2_with (first | (go_at_call 57; refine (within_yes _ _ _ _ (by omega) (by omega)).mono ?_; rintro e w' ⟨rfl, rfl⟩) | (go_at_call 57; refine (within_no _ _ _ _ (by omega)).mono ?_; rintro e w' ⟨rfl, rfl⟩) | go_in)
        go_ret2
        exact RetI.of (OwnI.nil _ _) (Below.refl _ _) HV.out
    · have HV := hide (show seededRequestsV n l s = ([], false) by simp [seededRequestsV, seedOk]; omega)
      go_enter Try.func16, Try.ntmps16
      go_wp2_with (first | (go_at_call 57; refine (within_yes _ _ _ _ (by omega) (by omega)).mono ?_; rintro e w' ⟨rfl, rfl⟩) | (go_at_call 57; refine (within_no _ _ _ _ (by omega)).mono ?_; rintro e w' ⟨rfl, rfl⟩) | go_in)
      go_ret2
      exact RetI.of (OwnI.nil _ _) (Below.refl _ _) HV.out
  · have HV := hide (show seededRequestsV n l s = ([], false) by simp [seededRequestsV, seedOk]; omega)
    go_enter Try.func16, Try.ntmps16
    go_wp2_with (first | (go_at_call 57; refine (within_yes _ _ _ _ (by omega) (by omega)).mono ?_; rintro e w' ⟨rfl, rfl⟩) | (go_at_call 57; refine (within_no _ _ _ _ (by omega)).mono ?_; rintro e w' ⟨rfl, rfl⟩) | go_in)
    go_ret2
    exact RetI.of (OwnI.nil _ _) (Below.refl _ _) HV.out
end Go.Proofs.Ytaoacpikmpoodaa
