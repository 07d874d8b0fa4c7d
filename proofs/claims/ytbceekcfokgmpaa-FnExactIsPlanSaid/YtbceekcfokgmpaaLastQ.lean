/- LastUses: the reference and the program return the same; for slices of at most 2^20 numbers that can be read. -/
import Derived.Test.YtbceekcfokgmpaaCnt
namespace Go.Proofs.Ytbceekcfokgmpaa
open Go.RowKit

/-- The greatest place below one that holds a number, or -1. -/
def lastFrom (xs : List Int) (v : Int) : Nat → Int
  | 0 => -1
  | j + 1 => if xs.getD j 0 = v then (j : Int) else lastFrom xs v j
def lastAt (xs : List Int) (i : Nat) : Int := lastFrom xs (xs.getD i 0) i
def lastL (xs : List Int) (m : Nat) : List Int := (List.range m).map (lastAt xs)
theorem lastL_len (xs : List Int) (m : Nat) : (lastL xs m).length = m := by simp [lastL]
theorem lastL_snoc (xs : List Int) (m : Nat) : lastL xs (m + 1) = lastL xs m ++ [lastAt xs m] := by simp [lastL, List.range_succ]
theorem lastFrom_bd (xs : List Int) (v : Int) (j : Nat) : -1 ≤ lastFrom xs v j ∧ lastFrom xs v j < j := by
  induction j with
  | zero => simp [lastFrom]
  | succ j ih =>
    unfold lastFrom
    split <;> omega
theorem lastAt_bd (xs : List Int) (i : Nat) : -1 ≤ lastAt xs i ∧ lastAt xs i < i := lastFrom_bd _ _ _
def lastUsesV (q : Int) (xs : List Int) : List Int × Bool := if reqB q xs = true then (lastL xs xs.length, true) else ([], false)
theorem lastUsesV_len (q : Int) (xs : List Int) (h : xs.length ≤ 1048576) : (lastUsesV q xs).1.length ≤ 1048576 := by
  unfold lastUsesV
  split
  · simp [lastL_len]; omega
  · simp

set_option maxHeartbeats 3200000 in
theorem l3Last_any (A : Option Addr) (n c : Nat) (xs : List Int) (w : World) (hr : RdI w A n xs) (hn : n ≤ 1048576) :
    Calls Try.prog 83 #[.slice A n c] w fun e w' => ∃ A' c', e = .returned (.slice A' n c') ∧ OwnI w' w.heap.size A' n c' (lastL xs n) ∧ Below w.heap.size w w' := by
  have hlen := hide hr.1
  have HR := hide hr
  clear hr
  go_enter Try.func83, Try.ntmps83
  go_wp2_with fail
  go_loopw [3, 4, 5] (fun u i _ wr => ∃ (q : Nat) (A' : Option Addr) (c' : Nat), q ≤ n ∧ i = .int .i64 q ∧ u = .slice A' q c' ∧ Hid (OwnI wr w.heap.size A' q c' (lastL xs q)) ∧ Hid (Below w.heap.size w wr)) (fun _ i _ _ => n - (intOf i).toNat)
  case atStart => exact ⟨0, _, _, Nat.zero_le _, rfl, rfl, own_empty _ _ (Nat.le_refl _) _ rfl, (by repeat (first | exact Below.refl _ _ | (refine below_drewN ?_ _) | (refine Below.drew ?_) | (refine Below.alloc ?_ (by first | exact Nat.le_refl _ | (simp; done) | (simp; omega) | omega) _) | (refine Below.setCell ?_ (by first | exact Nat.le_refl _ | (simp; done) | (simp; omega) | omega) _) | (refine Below.trans ?_ (Below.mono (by assumption) (by first | exact Nat.le_refl _ | (simp; done) | (simp; omega) | omega)))))⟩
  case round =>
    obtain ⟨q, A', c', hq, rfl, rfl, HO, HB⟩ := hrel
    by_cases hlt : q < n
    · have hlt' : (q : Int) < (n : Int) := by omega
      obtain ⟨b, off, rfl, hbb, hcc⟩ := (HR.out).2 (by omega)
      obtain ⟨v, hv⟩ : ∃ v, Hid (xs.getD q 0 = v) := ⟨_, rfl⟩
      have hcq : wr.cell? ⟨b, off + q, none⟩ = some (.int .i64 v) := by rw [← hv.out]; exact (HB.out.cell (p := ⟨b, off + q, none⟩) hbb).trans (hcc q hlt)
      have HC := hide (fun (j : Nat) (hj : j < n) => (HB.out.cell (p := ⟨b, off + j, none⟩) hbb).trans (hcc j hj))
      clear hcc hbb
      obtain ⟨wo, rfl⟩ : ∃ wo : World, wo = wr := ⟨_, rfl⟩
      go_wp2_with fail
      go_loopw [5] (fun s wx => ∃ t : Int, -1 ≤ t ∧ t < (q : Int) ∧ s = .int .i64 t ∧ Hid (lastFrom xs v (t + 1).toNat = lastAt xs q) ∧ ∃ m, Hid (wx = wo.drewN m)) (fun s _ => (intOf s + 1).toNat)
      case atStart => exact ⟨(q : Int) - 1, by omega, by omega, rfl, by unfold lastAt Hid; rw [hv.out, show ((q : Int) - 1 + 1).toNat = q by omega], 0, rfl⟩
      case round =>
        obtain ⟨t, t1, t2, rfl, HT, m, HM⟩ := hrel
        obtain rfl := HM.out
        have HOm := hide (OwnI.drewN HO.out m)
        have HBm := hide (below_drewN HB.out m)
        by_cases ht : t = -1
        · subst ht
          have HE : Hid ((-1 : Int) = lastAt xs q) := HT.out
          have hd : decide ((0 : Int) ≤ -1) = false := by decide
          go_wp2_with fail
          go_quiet (fail)
          go_wp2_with (at_builtin; refine append_int rfl _ _ rfl w.heap.size A' q c' (lastL xs q) _ _ rfl rfl HOm.out (by omega) HBm.out.size ?_; intro A2 c2 w1 ho' hb' hg'; replace ho' := hide ho'; replace hb' := hide hb'; clear hg')
          go_roundw
          case rel => first | exact ⟨q + 1, A2, c2, by omega, by go_num, rfl, by have := ho'.out; rw [lastL_snoc, ← HE.out]; exact this, (below_drewN HB.out _).trans hb'.out⟩ | ((repeat apply Exists.intro); refine ⟨?_, rfl⟩; exact ⟨q + 1, A2, c2, by omega, by go_num, rfl, by have := ho'.out; rw [lastL_snoc, ← HE.out]; exact this, (below_drewN HB.out _).trans hb'.out⟩)
          case measure => first | (simp [intOf]; done) | (simp [intOf]; omega)
        · obtain ⟨p, rfl⟩ := Int.eq_ofNat_of_zero_le (show 0 ≤ t by omega)
          have hpn : p < n := by omega
          have hpn' : (p : Int) < (n : Int) := by omega
          have hp0 : (0 : Int) ≤ (p : Int) := by omega
          obtain ⟨x, hx⟩ : ∃ x, Hid (xs.getD p 0 = x) := ⟨_, rfl⟩
          have hcp : wo.cell? ⟨b, off + p, none⟩ = some (.int .i64 x) := by rw [← hx.out]; exact HC.out p hpn
          have hs : ((p : Int) + 1).toNat = p + 1 := by omega
          rw [hs] at HT
          clear hs
          by_cases hxv : x = v
          · have HE : Hid ((p : Int) = lastAt xs q) := by
              rw [← HT.out]
              unfold lastFrom Hid
              rw [hx.out, if_pos hxv]
            have hne : (x != v) = false := by simpa using hxv
            clear hxv
            go_wp2_with fail
            go_quiet (fail)
            go_wp2_with (at_builtin; refine append_int rfl _ _ rfl w.heap.size A' q c' (lastL xs q) _ _ rfl rfl HOm.out (by omega) HBm.out.size ?_; intro A2 c2 w1 ho' hb' hg'; replace ho' := hide ho'; replace hb' := hide hb'; clear hg')
            go_roundw
            case rel => first | exact ⟨q + 1, A2, c2, by omega, by go_num, rfl, by have := ho'.out; rw [lastL_snoc, ← HE.out]; exact this, (below_drewN HB.out _).trans hb'.out⟩ | ((repeat apply Exists.intro); refine ⟨?_, rfl⟩; exact ⟨q + 1, A2, c2, by omega, by go_num, rfl, by have := ho'.out; rw [lastL_snoc, ← HE.out]; exact this, (below_drewN HB.out _).trans hb'.out⟩)
            case measure => first | (simp [intOf]; done) | (simp [intOf]; omega)
          · have HT2 : Hid (lastFrom xs v p = lastAt xs q) := by
              have := HT.out
              unfold lastFrom at this
              rw [hx.out, if_neg hxv] at this
              exact this
            have hne : (x != v) = true := by simpa using hxv
            clear hxv
            go_wp2_with fail
            go_quiet (fail)
            go_wp2
            go_roundw
            case rel => first | exact ⟨(p : Int) - 1, by omega, by omega, rfl, by rw [show ((p : Int) - 1 + 1).toNat = p by omega]; exact HT2.out, m + _, rfl⟩ | ((repeat apply Exists.intro); refine ⟨?_, rfl⟩; exact ⟨(p : Int) - 1, by omega, by omega, rfl, by rw [show ((p : Int) - 1 + 1).toNat = p by omega]; exact HT2.out, m + _, rfl⟩)
            case measure => first | (simp [intOf]; done) | (simp [intOf]; omega)
    · have hqn : q = n := by omega
      subst hqn
      go_wp2
      go_ret
      exact ⟨A', c', rfl, HO.out, HB.out⟩

set_option maxHeartbeats 3200000 in
theorem lastUses_any (A : Option Addr) (n c : Nat) (xs : List Int) (w : World) (hr : RdI w A n xs) (hn : n ≤ 1048576) :
    Calls Try.prog 84 #[.slice A n c] w fun e w' => ∃ A' c', e = .returned (.slice A' n c') ∧ OwnI w' w.heap.size A' n c' (lastL xs n) ∧ Below w.heap.size w w' := by
  have hlen := hide hr.1
  have HR := hide hr
  clear hr
  go_enter Try.func84, Try.ntmps84
  go_wp2_with fail
  go_loopw [3, 4, 5, 6, 10] (fun u _ _ _ i wr => ∃ (q : Nat) (A' : Option Addr) (c' : Nat), q ≤ n ∧ i = .int .i64 q ∧ u = .slice A' q c' ∧ Hid (OwnI wr w.heap.size A' q c' (lastL xs q)) ∧ Hid (Below w.heap.size w wr)) (fun _ _ _ _ i _ => n - (intOf i).toNat)
  case atStart => exact ⟨0, _, _, Nat.zero_le _, rfl, rfl, own_empty _ _ (Nat.le_refl _) _ rfl, (by repeat (first | exact Below.refl _ _ | (refine below_drewN ?_ _) | (refine Below.drew ?_) | (refine Below.alloc ?_ (by first | exact Nat.le_refl _ | (simp; done) | (simp; omega) | omega) _) | (refine Below.setCell ?_ (by first | exact Nat.le_refl _ | (simp; done) | (simp; omega) | omega) _) | (refine Below.trans ?_ (Below.mono (by assumption) (by first | exact Nat.le_refl _ | (simp; done) | (simp; omega) | omega)))))⟩
  case round =>
    obtain ⟨q, A', c', hq, rfl, rfl, HO, HB⟩ := hrel
    by_cases hlt : q < n
    · have hlt' : (q : Int) < (n : Int) := by omega
      obtain ⟨b, off, rfl, hbb, hcc⟩ := (HR.out).2 (by omega)
      obtain ⟨v, hv⟩ : ∃ v, Hid (xs.getD q 0 = v) := ⟨_, rfl⟩
      have hcq : wr.cell? ⟨b, off + q, none⟩ = some (.int .i64 v) := by rw [← hv.out]; exact (HB.out.cell (p := ⟨b, off + q, none⟩) hbb).trans (hcc q hlt)
      have HC := hide (fun (j : Nat) (hj : j < n) => (HB.out.cell (p := ⟨b, off + j, none⟩) hbb).trans (hcc j hj))
      clear hcc hbb
      obtain ⟨wo, rfl⟩ : ∃ wo : World, wo = wr := ⟨_, rfl⟩
      go_wp2_with fail
      go_loop [6] (fun s => ∃ t : Int, -1 ≤ t ∧ t < (q : Int) ∧ s = .int .i64 t ∧ Hid (lastFrom xs v (t + 1).toNat = lastAt xs q)) (fun s => (intOf s + 1).toNat)
      case atStart => exact ⟨(q : Int) - 1, by omega, by omega, rfl, by unfold lastAt Hid; rw [hv.out, show ((q : Int) - 1 + 1).toNat = q by omega]⟩
      case round =>
        obtain ⟨t, t1, t2, rfl, HT⟩ := hrel
        have HOm := HO
        have HBm := HB
        by_cases ht : t = -1
        · subst ht
          have HE : Hid ((-1 : Int) = lastAt xs q) := HT.out
          have hd : decide ((0 : Int) ≤ -1) = false := by decide
          go_wp2_with (at_builtin; refine append_int rfl _ _ rfl w.heap.size A' q c' (lastL xs q) _ _ rfl rfl HOm.out (by omega) HBm.out.size ?_; intro A2 c2 w1 ho' hb' hg'; replace ho' := hide ho'; replace hb' := hide hb'; clear hg')
          go_roundw
          case rel => first | exact ⟨q + 1, A2, c2, by omega, by go_num, rfl, by have := ho'.out; rw [lastL_snoc, ← HE.out]; exact this, HBm.out.trans hb'.out⟩ | ((repeat apply Exists.intro); refine ⟨?_, rfl⟩; exact ⟨q + 1, A2, c2, by omega, by go_num, rfl, by have := ho'.out; rw [lastL_snoc, ← HE.out]; exact this, HBm.out.trans hb'.out⟩)
          case measure => first | (simp [intOf]; done) | (simp [intOf]; omega)
        · obtain ⟨p, rfl⟩ := Int.eq_ofNat_of_zero_le (show 0 ≤ t by omega)
          have hpn : p < n := by omega
          have hpn' : (p : Int) < (n : Int) := by omega
          have hp0 : (0 : Int) ≤ (p : Int) := by omega
          obtain ⟨x, hx⟩ : ∃ x, Hid (xs.getD p 0 = x) := ⟨_, rfl⟩
          have hcp : wo.cell? ⟨b, off + p, none⟩ = some (.int .i64 x) := by rw [← hx.out]; exact HC.out p hpn
          have hs : ((p : Int) + 1).toNat = p + 1 := by omega
          rw [hs] at HT
          clear hs
          by_cases hxv : x = v
          · have HE : Hid ((p : Int) = lastAt xs q) := by
              rw [← HT.out]
              unfold lastFrom Hid
              rw [hx.out, if_pos hxv]
            have hne : (x != v) = false := by simpa using hxv
            clear hxv
            go_wp2_with (at_builtin; refine append_int rfl _ _ rfl w.heap.size A' q c' (lastL xs q) _ _ rfl rfl HOm.out (by omega) HBm.out.size ?_; intro A2 c2 w1 ho' hb' hg'; replace ho' := hide ho'; replace hb' := hide hb'; clear hg')
            go_roundw
            case rel => first | exact ⟨q + 1, A2, c2, by omega, by go_num, rfl, by have := ho'.out; rw [lastL_snoc, ← HE.out]; exact this, HBm.out.trans hb'.out⟩ | ((repeat apply Exists.intro); refine ⟨?_, rfl⟩; exact ⟨q + 1, A2, c2, by omega, by go_num, rfl, by have := ho'.out; rw [lastL_snoc, ← HE.out]; exact this, HBm.out.trans hb'.out⟩)
            case measure => first | (simp [intOf]; done) | (simp [intOf]; omega)
          · have HT2 : Hid (lastFrom xs v p = lastAt xs q) := by
              have := HT.out
              unfold lastFrom at this
              rw [hx.out, if_neg hxv] at this
              exact this
            have hne : (x != v) = true := by simpa using hxv
            clear hxv
            go_wp2
            go_round
            case rel => first | exact ⟨(p : Int) - 1, by omega, by omega, rfl, by rw [show ((p : Int) - 1 + 1).toNat = p by omega]; exact HT2.out⟩ | ((repeat apply Exists.intro); refine ⟨?_, rfl⟩; exact ⟨(p : Int) - 1, by omega, by omega, rfl, by rw [show ((p : Int) - 1 + 1).toNat = p by omega]; exact HT2.out⟩)
            case measure => first | (simp [intOf]; done) | (simp [intOf]; omega)
    · have hqn : q = n := by omega
      subst hqn
      go_wp2
      go_ret
      exact ⟨A', c', rfl, HO.out, HB.out⟩

end Go.Proofs.Ytbceekcfokgmpaa
