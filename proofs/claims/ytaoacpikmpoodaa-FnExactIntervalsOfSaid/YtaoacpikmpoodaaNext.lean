/- NextUses: the reference and the program return the same; for slices of at most 2^20 numbers that can be read. -/
import Derived.Test.YtaoacpikmpoodaaNextP
import Derived.Test.YtaoacpikmpoodaaRepeat
import Derived.Test.YtaoacpikmpoodaaNear
namespace Go.Proofs.Ytaoacpikmpoodaa
open Go.RowKit
def nextUsesV (q : Int) (xs : List Int) : List Int × Bool := if reqB q xs = true then (nextL xs xs.length, true) else ([], false)
theorem nextUsesV_len (q : Int) (xs : List Int) (h : xs.length ≤ 1048576) : (nextUsesV q xs).1.length ≤ 1048576 := by
  unfold nextUsesV
  split
  · simp [nextL_len]; omega
  · simp
theorem nextFrom_bd (xs : List Int) (v : Int) (k d : Nat) : -1 ≤ nextFrom xs v k d ∧ nextFrom xs v k d < k + d := by
  rcases nextFrom_is xs v d k with ⟨a, _⟩ | ⟨t, a, b, c, _⟩ <;> omega

set_option maxHeartbeats 3200000 in
theorem l3Later_any (A : Option Addr) (n c : Nat) (xs : List Int) (w : World) (hr : RdI w A n xs) (hn : n ≤ 1048576) :
    Calls Try.prog 76 #[.slice A n c] w fun e w' => ∃ A' c', e = .returned (.slice A' n c') ∧ OwnI w' w.heap.size A' n c' (nextL xs n) ∧ Below w.heap.size w w' := by
  have hlen := hide hr.1
  have HR := hide hr
  clear hr
  go_enter Try.func76, Try.ntmps76
  go_wp2_with fail
  go_loopw [3, 4, 5] (fun u i _ wr => ∃ (q : Nat) (A' : Option Addr) (c' : Nat), q ≤ n ∧ i = .int .i64 q ∧ u = .slice A' q c' ∧ Hid (OwnI wr w.heap.size A' q c' (nextL xs q)) ∧ Hid (Below w.heap.size w wr)) (fun _ i _ _ => n - (intOf i).toNat)
  case atStart => exact ⟨0, _, _, Nat.zero_le _, rfl, rfl, own_empty _ _ (Nat.le_refl _) _ rfl, (by repeat (first | exact Below.refl _ _ | (refine below_drewN ?_ _) | (refine Below.drew ?_) | (refine Below.alloc ?_ (by first | exact Nat.le_refl _ | (simp; done) | (simp; omega) | omega) _) | (refine Below.setCell ?_ (by first | exact Nat.le_refl _ | (simp; done) | (simp; omega) | omega) _) | (refine Below.trans ?_ (Below.mono (by assumption) (by first | exact Nat.le_refl _ | (simp; done) | (simp; omega) | omega)))))⟩
  case round =>
    obtain ⟨q, A', c', hq, rfl, rfl, HO, HB⟩ := hrel
    by_cases hlt : q < n
    · have hlt' : (q : Int) < (n : Int) := by omega
      obtain ⟨b, off, rfl, hbb, hcc⟩ := (HR.out).2 (by omega)
      obtain ⟨v, hv⟩ : ∃ v, Hid (xs.getD q 0 = v) := ⟨_, rfl⟩
      have hcq : wr.cell? ⟨b, off + q, none⟩ = some (.int .i64 v) := by rw [← hv.out]; exact (HB.out.cell (p := ⟨b, off + q, none⟩) hbb).trans (hcc q hlt)
      have HC := hide (fun (j : Nat) (hj : j < n) => (HB.out.cell (p := ⟨b, off + j, none⟩) hbb).trans (hcc j hj))
      clear hcc hbb
      obtain ⟨wo, rfl⟩ : ∃ wo : World, wo = wr := ⟨_, rfl⟩
      go_wp2_with fail
      go_loopw [5] (fun s wx => ∃ k : Nat, q + 1 ≤ k ∧ k ≤ n ∧ s = .int .i64 k ∧ Hid (nextFrom xs v k (n - k) = nextAt xs q) ∧ ∃ m, Hid (wx = wo.drewN m)) (fun s _ => n - (intOf s).toNat)
      case atStart => exact ⟨q + 1, by omega, by omega, by go_num, by unfold nextAt Hid; rw [hv.out, hlen.out], 0, rfl⟩
      case round =>
        obtain ⟨k, k1, k2, rfl, HT, m, HM⟩ := hrel
        obtain rfl := HM.out
        have HOm := hide (OwnI.drewN HO.out m)
        have HBm := hide (below_drewN HB.out m)
        by_cases hk : k = n
        · subst hk
          have HE : Hid ((-1 : Int) = nextAt xs q) := by have := HT.out; rw [Nat.sub_self] at this; exact this
          have hd : decide ((k : Int) < (k : Int)) = false := by simp
          go_wp2_with fail
          go_quiet (fail)
          go_wp2_with (at_builtin; refine append_int rfl _ _ rfl w.heap.size A' q c' (nextL xs q) _ _ rfl rfl HOm.out (by omega) HBm.out.size ?_; intro A2 c2 w1 ho' hb' hg'; replace ho' := hide ho'; replace hb' := hide hb'; clear hg')
          go_roundw
          case rel => first | exact ⟨q + 1, A2, c2, by omega, by go_num, rfl, by have := ho'.out; rw [nextL_snoc, ← HE.out]; exact this, (below_drewN HB.out _).trans hb'.out⟩ | ((repeat apply Exists.intro); refine ⟨?_, rfl⟩; exact ⟨q + 1, A2, c2, by omega, by go_num, rfl, by have := ho'.out; rw [nextL_snoc, ← HE.out]; exact this, (below_drewN HB.out _).trans hb'.out⟩)
          case measure => first | (simp [intOf]; done) | (simp [intOf]; omega)
        · have hkn : k < n := by omega
          have hkn' : (k : Int) < (n : Int) := by omega
          have hk0 : (0 : Int) ≤ (k : Int) := by omega
          have hkne : ¬ (k : Int) = (n : Int) := by omega
          obtain ⟨x, hx⟩ : ∃ x, Hid (xs.getD k 0 = x) := ⟨_, rfl⟩
          have hcp : wo.cell? ⟨b, off + k, none⟩ = some (.int .i64 x) := by rw [← hx.out]; exact HC.out k hkn
          have hs : n - k = (n - (k + 1)) + 1 := by omega
          rw [hs] at HT
          clear hs
          by_cases hxv : x = v
          · have HE : Hid ((k : Int) = nextAt xs q) := by
              rw [← HT.out]
              unfold nextFrom Hid
              rw [hx.out, if_pos hxv]
            have hne : (x != v) = false := by simpa using hxv
            clear hxv
            go_wp2_with fail
            go_quiet (fail)
            go_wp2_with (at_builtin; refine append_int rfl _ _ rfl w.heap.size A' q c' (nextL xs q) _ _ rfl rfl HOm.out (by omega) HBm.out.size ?_; intro A2 c2 w1 ho' hb' hg'; replace ho' := hide ho'; replace hb' := hide hb'; clear hg')
            go_roundw
            case rel => first | exact ⟨q + 1, A2, c2, by omega, by go_num, rfl, by have := ho'.out; rw [nextL_snoc, ← HE.out]; exact this, (below_drewN HB.out _).trans hb'.out⟩ | ((repeat apply Exists.intro); refine ⟨?_, rfl⟩; exact ⟨q + 1, A2, c2, by omega, by go_num, rfl, by have := ho'.out; rw [nextL_snoc, ← HE.out]; exact this, (below_drewN HB.out _).trans hb'.out⟩)
            case measure => first | (simp [intOf]; done) | (simp [intOf]; omega)
          · have HT2 : Hid (nextFrom xs v (k + 1) (n - (k + 1)) = nextAt xs q) := by
              have := HT.out
              unfold nextFrom at this
              rw [hx.out, if_neg hxv] at this
              exact this
            have hne : (x != v) = true := by simpa using hxv
            clear hxv
            go_wp2_with fail
            go_quiet (fail)
            go_wp2
            go_roundw
            case rel => first | exact ⟨k + 1, by omega, by omega, by go_num, HT2, m + _, rfl⟩ | ((repeat apply Exists.intro); refine ⟨?_, rfl⟩; exact ⟨k + 1, by omega, by omega, by go_num, HT2, m + _, rfl⟩)
            case measure => first | (simp [intOf]; done) | (simp [intOf]; omega)
    · have hqn : q = n := by omega
      subst hqn
      go_wp2
      go_ret
      exact ⟨A', c', rfl, HO.out, HB.out⟩

theorem updL_get (xs : List Int) (n m j : Nat) (h : j < n) : (updL xs n m).getD j 0 = upd xs m j := by simp [updL, List.getD, h]
theorem lastL_get (xs : List Int) (n j : Nat) (h : j < n) : (lastL xs n).getD j 0 = lastAt xs j := by simp [lastL, List.getD, h]
set_option maxHeartbeats 1600000 in
theorem nextUses_any (A : Option Addr) (n c : Nat) (xs : List Int) (w : World) (hr : RdI w A n xs) (hn : n ≤ 1048576) :
    Calls Try.prog 77 #[.slice A n c] w fun e w' => ∃ A' c', e = .returned (.slice A' n c') ∧ OwnI w' w.heap.size A' n c' (nextL xs n) ∧ Below w.heap.size w w' := by
  have hlen := hide hr.1
  have HR := hide hr
  clear hr
  go_enter Try.func77, Try.ntmps77
  go_wp2_with (first
    | (go_at_call 75; refine (repeat_any (-1) n _ _ hn (by simp) (by go_simp)).mono ?_; rintro e w1 ⟨A1, c1, rfl, ho1, hb1⟩; replace ho1 := hide (ho1.more (base' := w.heap.size) (by simp)); replace hb1 := hide (Below.trans (show Below w.heap.size w (w.alloc _) from (by repeat (first | exact Below.refl _ _ | (refine below_drewN ?_ _) | (refine Below.drew ?_) | (refine Below.alloc ?_ (by first | exact Nat.le_refl _ | (simp; done) | (simp; omega) | omega) _) | (refine Below.setCell ?_ (by first | exact Nat.le_refl _ | (simp; done) | (simp; omega) | omega) _) | (refine Below.trans ?_ (Below.mono (by assumption) (by first | exact Nat.le_refl _ | (simp; done) | (simp; omega) | omega)))))) (hb1.mono (by simp))))
    | (go_at_call 67; refine (lastUses_any _ _ _ xs _ (HR.out.below hb1.out) hn).mono ?_; rintro e w2 ⟨A2, c2, rfl, ho2, hb2⟩; replace ho2 := hide ho2; replace hb2 := hide hb2))
  have hz1 : w.heap.size ≤ w1.heap.size := hb1.out.size
  have HO1 : Hid (OwnI w2 w.heap.size A1 n c1 (updL xs n 0)) := by rw [updL_zero]; exact ho1.out.below hb2.out
  have HB1 : Hid (Below w.heap.size w w2) := hb1.out.trans (hb2.out.mono hz1)
  have hlt1 := hide ho1.out.lt
  clear ho1 hb1 hb2
  go_loopw [4, 5, 13] (fun _ _ i wr => ∃ k : Nat, k ≤ n ∧ i = .int .i64 k ∧ Hid (OwnI wr w.heap.size A1 n c1 (updL xs n k)) ∧ Hid (OwnI wr w1.heap.size A2 n c2 (lastL xs n)) ∧ Hid (Below w.heap.size w wr)) (fun _ _ i _ => n - (intOf i).toNat)
  case atStart => exact ⟨0, Nat.zero_le _, rfl, HO1, ho2, HB1⟩
  case round =>
    obtain ⟨k, hk, rfl, HO, HL, HB⟩ := hrel
    clear HO1 ho2 HB1
    by_cases hlt : k < n
    · have hlt' : (k : Int) < (n : Int) := by omega
      obtain ⟨b, off, rfl, hbb, hc⟩ := (HL.out.rd).at_ hlt
      rw [lastL_get xs n k hlt] at hc
      obtain ⟨a, ha⟩ : ∃ a, Hid (lastAt xs k = a) := ⟨_, rfl⟩
      have hbd := lastAt_bd xs k
      rw [ha.out] at hc hbd
      have hbd1 := hbd.1
      have hbd2 := hbd.2
      clear hbd
      by_cases h0 : a < 0
      · have h0' : ¬ (0 : Int) ≤ a := by omega
        go_wp2
        go_roundw
        case rel => first | exact ⟨k + 1, by omega, by go_num, by have := HO.out; rwa [← updL_none xs n k (by rw [ha.out]; exact h0)] at this, HL, HB⟩ | ((repeat apply Exists.intro); refine ⟨?_, rfl⟩; exact ⟨k + 1, by omega, by go_num, by have := HO.out; rwa [← updL_none xs n k (by rw [ha.out]; exact h0)] at this, HL, HB⟩)
        case measure => first | (simp [intOf]; done) | (simp [intOf]; omega)
      · obtain ⟨p, rfl⟩ := Int.eq_ofNat_of_zero_le (show 0 ≤ a by omega)
        have hp0 : (0 : Int) ≤ (p : Int) := by omega
        have hpn : p < n := by omega
        have hpn' : (p : Int) < (n : Int) := by omega
        obtain ⟨g, rfl, hg, hgc⟩ := HO.out.pos (by omega)
        have hg1 := hlt1.out _ rfl
        have hc2 : wr.cell? ⟨g, p, none⟩ = some (.int .i64 (upd xs k p)) := by rw [← updL_get xs n k p hpn]; exact hgc p hpn
        have hf2 := World.ownsRow.frozenAt HO.out p
        have HS := hide (World.ownsRow.stored HO.out p (.int .i64 (k : Int)))
        have HL2 : Hid (OwnI (wr.setCell ⟨g, p, none⟩ (.int .i64 (k : Int))) w1.heap.size (some ⟨b, off, none⟩) n c2 (lastL xs n)) := HL.out.far (C := g) ⟨rfl, rfl, rfl, by simp [World.setCell], fun t _ ht => Below.heap_setCell _ _ _ _ (fun e => ht (by rw [e]))⟩ hg1.2
        have HB2 : Hid (Below w.heap.size w (wr.setCell ⟨g, p, none⟩ (.int .i64 (k : Int)))) := Below.far (C := g) HB.out ⟨rfl, rfl, rfl, by simp [World.setCell], fun t _ ht => Below.heap_setCell _ _ _ _ (fun e => ht (by rw [e]))⟩ HB.out.size hg1.1
        clear hgc
        go_wp2
        go_roundw
        case rel => first | exact ⟨k + 1, by omega, by go_num, by
          have := HS.out.1
          rw [← List.map_set, ← updL_set xs n k p ha.out] at this
          exact this, HL2, HB2⟩ | ((repeat apply Exists.intro); refine ⟨?_, rfl⟩; exact ⟨k + 1, by omega, by go_num, by
          have := HS.out.1
          rw [← List.map_set, ← updL_set xs n k p ha.out] at this
          exact this, HL2, HB2⟩)
        case measure => first | (simp [intOf]; done) | (simp [intOf]; omega)
    · have hkn : k = n := by omega
      subst hkn
      go_wp2
      go_ret
      refine ⟨_, _, rfl, ?_, HB.out⟩
      have h1 := HO.out
      have h2 := updL_next xs
      rw [hlen.out] at h2
      rwa [h2] at h1

set_option maxHeartbeats 1600000 in
theorem spec_NextUses (q : Int) (A : Option Addr) (n c : Nat) (xs : List Int) (w : World) (_ : -9223372036854775808 ≤ q) (_ : q ≤ 9223372036854775807) (hr : RdI w A n xs) (hn : n ≤ 1048576) (_ : ∀ x ∈ xs, -9223372036854775808 ≤ x ∧ x ≤ 9223372036854775807) :
    Calls Try.prog 47 #[.int .i64 q, .slice A n c] w (RetI w (nextUsesV q xs)) := by
  cases hg : reqB q xs
  · have HV := hide (show nextUsesV q xs = ([], false) by unfold nextUsesV; rw [hg]; rfl)
    replace hg := hide hg
    go_enter Try.func47, Try.ntmps47
    go_wp2_with (go_at_call 63; refine (l3Good_any _ _ _ xs _ _ hr hn).mono ?_; rintro e w1 ⟨rfl, rfl⟩; rw [hg.out])
    go_ret2
    exact RetI.of (own_empty _ _ (Nat.le_refl _) _ rfl) (by repeat (first | exact Below.refl _ _ | (refine below_drewN ?_ _) | (refine Below.drew ?_) | (refine Below.alloc ?_ (by first | exact Nat.le_refl _ | (simp; done) | (simp; omega) | omega) _) | (refine Below.setCell ?_ (by first | exact Nat.le_refl _ | (simp; done) | (simp; omega) | omega) _) | (refine Below.trans ?_ (Below.mono (by assumption) (by first | exact Nat.le_refl _ | (simp; done) | (simp; omega) | omega))))) HV.out
  · have HV := hide (show nextUsesV q xs = (nextL xs n, true) by unfold nextUsesV; rw [hg, hr.1]; rfl)
    replace hg := hide hg
    go_enter Try.func47, Try.ntmps47
    go_wp2_with (first | (go_at_call 63; refine (l3Good_any _ _ _ xs _ _ hr hn).mono ?_; rintro e w1 ⟨rfl, rfl⟩; rw [hg.out]) | (go_at_call 76; refine (l3Later_any _ _ _ xs _ hr hn).mono ?_; rintro e w1 ⟨A', c', rfl, ho, hb⟩))
    go_ret2
    exact RetI.of ho hb HV.out

set_option maxHeartbeats 1600000 in
theorem impl_NextUses (q : Int) (A : Option Addr) (n c : Nat) (xs : List Int) (w : World) (_ : -9223372036854775808 ≤ q) (_ : q ≤ 9223372036854775807) (hr : RdI w A n xs) (hn : n ≤ 1048576) (_ : ∀ x ∈ xs, -9223372036854775808 ≤ x ∧ x ≤ 9223372036854775807) :
    Calls Try.prog 48 #[.int .i64 q, .slice A n c] w (RetI w (nextUsesV q xs)) := by
  cases hg : reqB q xs
  · have HV := hide (show nextUsesV q xs = ([], false) by unfold nextUsesV; rw [hg]; rfl)
    replace hg := hide hg
    go_enter Try.func48, Try.ntmps48
    go_wp2_with (go_at_call 65; refine (isRequests_any _ _ _ xs _ _ hr hn).mono ?_; rintro e w1 ⟨rfl, hb⟩; rw [hg.out])
    go_ret2
    exact RetI.of (OwnI.nil _ _) hb HV.out
  · have HV := hide (show nextUsesV q xs = (nextL xs n, true) by unfold nextUsesV; rw [hg, hr.1]; rfl)
    replace hg := hide hg
    go_enter Try.func48, Try.ntmps48
    go_wp2_with fail
    refine (isRequests_any _ _ _ xs _ _ hr hn).mono ?_
    rintro e wa ⟨rfl, hba⟩
    rw [hg.out]
    have HR := hide (hr.below hba)
    have HBA := hide hba
    have hza := hba.size
    clear hr hba
    go_wp2_with (go_at_call 77; refine (nextUses_any _ _ _ xs _ HR.out hn).mono ?_; rintro e w1 ⟨A', c', rfl, ho, hb⟩)
    go_ret2
    exact RetI.of (ho.more hza) (HBA.out.trans (hb.mono hza)) HV.out
end Go.Proofs.Ytaoacpikmpoodaa
