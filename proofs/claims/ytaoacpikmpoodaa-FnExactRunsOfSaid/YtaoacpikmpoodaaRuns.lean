/- RunsOf: the reference and the program return the same; for slices of at most 2^20 numbers that can be read. -/
import Derived.Test.YtaoacpikmpoodaaCounts
import Derived.Test.YtaoacpikmpoodaaRunsP
import Derived.Test.YtaoacpikmpoodaaA2
import Derived.Deep.RegionLaw
namespace Go.Proofs.Ytaoacpikmpoodaa
open Go.RowKit
def runsOfV (q : Int) (xs : List Int) : List (Int × Int) × Bool := if reqB q xs = true then (runsL xs xs.length, true) else ([], false)
theorem runsOfV_len (q : Int) (xs : List Int) (h : xs.length ≤ 1048576) : (runsOfV q xs).1.length ≤ 1048576 := by
  unfold runsOfV
  split
  · have := (runsL_len xs xs.length).1
    show (runsL xs xs.length).length ≤ 1048576
    omega
  · simp
theorem OwnP.posP {T : TypeId} {w : World} {base : Nat} {A : Option Addr} {n c : Nat} {xs : List (Int × Int)} (h : OwnP T w base A n c xs) (hn : 0 < n) : ∃ g, A = some ⟨g, 0, none⟩ ∧ base ≤ g ∧ g < w.heap.size ∧ ∀ j, j < n → w.cell? ⟨g, j * 2, none⟩ = some (.int .i64 (xs.getD j (0, 0)).1) ∧ w.cell? ⟨g, j * 2 + 1, none⟩ = some (.int .i64 (xs.getD j (0, 0)).2) := by
  rcases h.2 with ⟨_, h0⟩ | ⟨g, cap, cur, hv, hg, hh, r⟩
  · omega
  · have hA : A = some ⟨g, 0, none⟩ := by injection hv
    subst hA
    refine ⟨g, rfl, hg, (Array.getElem?_eq_some_iff.1 hh).1, fun j hj => ?_⟩
    obtain ⟨e1, e2⟩ := flatP_get xs j (by have := h.len; omega)
    have h1 := World.ownsRow.cells h (g := g) rfl _ _ e1
    have h2 := World.ownsRow.cells h (g := g) rfl _ _ e2
    rw [Addr.add_lit] at h1 h2
    exact ⟨by simpa using h1, by simpa using h2⟩

set_option maxHeartbeats 3200000 in
theorem spec_RunsOf (q : Int) (A : Option Addr) (n c : Nat) (xs : List Int) (w : World) (_ : -9223372036854775808 ≤ q) (_ : q ≤ 9223372036854775807) (hr : RdI w A n xs) (hn : n ≤ 1048576) (_ : ∀ x ∈ xs, -9223372036854775808 ≤ x ∧ x ≤ 9223372036854775807) :
    Calls Try.prog 38 #[.int .i64 q, .slice A n c] w (RetP w (runsOfV q xs)) := by
  cases hg : reqB q xs
  · have HV := hide (show runsOfV q xs = ([], false) by unfold runsOfV; rw [hg]; rfl)
    replace hg := hide hg
    go_enter Try.func38, Try.ntmps38
    go_wp2_with fail
    refine (l3Good_any _ _ _ xs _ _ (hr.below (by repeat (first | exact Below.refl _ _ | (refine below_drewN ?_ _) | (refine Below.drew ?_) | (refine Below.alloc ?_ (by first | exact Nat.le_refl _ | (simp; done) | (simp; omega) | omega) _) | (refine Below.setCell ?_ (by first | exact Nat.le_refl _ | (simp; done) | (simp; omega) | omega) _) | (refine Below.trans ?_ (Below.mono (by assumption) (by first | exact Nat.le_refl _ | (simp; done) | (simp; omega) | omega)))))) hn).mono ?_
    rintro e w1 ⟨rfl, rfl⟩
    rw [hg.out]
    go_wp2
    go_ret2
    exact RetP.of (ownP_empty _ _ _ (Nat.le_refl _) _ rfl) (by repeat (first | exact Below.refl _ _ | (refine below_drewN ?_ _) | (refine Below.drew ?_) | (refine Below.alloc ?_ (by first | exact Nat.le_refl _ | (simp; done) | (simp; omega) | omega) _) | (refine Below.setCell ?_ (by first | exact Nat.le_refl _ | (simp; done) | (simp; omega) | omega) _) | (refine Below.trans ?_ (Below.mono (by assumption) (by first | exact Nat.le_refl _ | (simp; done) | (simp; omega) | omega))))) HV.out
  · obtain ⟨q1, q2, q3, q4⟩ := reqB_parts hg
    have hl := hr.1
    have HV := hide (show runsOfV q xs = (runsL xs n, true) by unfold runsOfV; rw [hg, hl]; rfl)
    replace hg := hide hg
    have hn2 : n ≤ 60 := by omega
    replace hl := hide hl
    clear q4
    have HR := hide hr
    go_enter Try.func38, Try.ntmps38
    go_wp2_with fail
    refine (l3Good_any _ _ _ xs _ _ (hr.below (by repeat (first | exact Below.refl _ _ | (refine below_drewN ?_ _) | (refine Below.drew ?_) | (refine Below.alloc ?_ (by first | exact Nat.le_refl _ | (simp; done) | (simp; omega) | omega) _) | (refine Below.setCell ?_ (by first | exact Nat.le_refl _ | (simp; done) | (simp; omega) | omega) _) | (refine Below.trans ?_ (Below.mono (by assumption) (by first | exact Nat.le_refl _ | (simp; done) | (simp; omega) | omega)))))) hn).mono ?_
    rintro e w1 ⟨rfl, rfl⟩
    rw [hg.out]
    clear hr
    go_wp2_with fail
    go_loopw [6, 7] (fun u i wr => ∃ (k m : Nat) (A' : Option Addr) (c' : Nat), k ≤ n ∧ m ≤ k ∧ i = .int .i64 k ∧ u = .slice A' m c' ∧ Hid (OwnP 62 wr w.heap.size A' m c' (runsL xs k)) ∧ Hid (Below w.heap.size w wr)) (fun _ i _ => n - (intOf i).toNat)
    case atStart => exact ⟨0, 0, _, _, Nat.zero_le _, Nat.zero_le _, rfl, rfl, ownP_empty _ _ _ (Nat.le_refl _) _ rfl, (by repeat (first | exact Below.refl _ _ | (refine below_drewN ?_ _) | (refine Below.drew ?_) | (refine Below.alloc ?_ (by first | exact Nat.le_refl _ | (simp; done) | (simp; omega) | omega) _) | (refine Below.setCell ?_ (by first | exact Nat.le_refl _ | (simp; done) | (simp; omega) | omega) _) | (refine Below.trans ?_ (Below.mono (by assumption) (by first | exact Nat.le_refl _ | (simp; done) | (simp; omega) | omega)))))⟩
    case round =>
      obtain ⟨k, m, A', c', hk, hmk, rfl, rfl, HO, HB⟩ := hrel
      by_cases hlt : k < n
      · have hlt' : (k : Int) < (n : Int) := by omega
        obtain ⟨b, off, rfl, hbb, hcc⟩ := (HR.out).2 (by omega)
        obtain ⟨v, hv⟩ : ∃ v, Hid (xs.getD k 0 = v) := ⟨_, rfl⟩
        have hck : wr.cell? ⟨b, off + k, none⟩ = some (.int .i64 v) := by rw [← hv.out]; exact (HB.out.cell (p := ⟨b, off + k, none⟩) hbb).trans (hcc k hlt)
        have hml := hide HO.out.len
        by_cases hk0 : 0 < k
        · have hm0 : 0 < m := by rw [← hml.out]; exact (runsL_len xs k).2 hk0
          obtain ⟨p, hp⟩ : ∃ p, k = p + 1 := ⟨k - 1, by omega⟩
          obtain ⟨x, hx⟩ : ∃ x, Hid (xs.getD (k - 1) 0 = x) := ⟨_, rfl⟩
          have hcp : wr.cell? ⟨b, off + p, none⟩ = some (.int .i64 x) := by rw [← hx.out, show k - 1 = p by omega]; exact (HB.out.cell (p := ⟨b, off + p, none⟩) hbb).trans (hcc p (by omega))
          clear hcc hbb
          by_cases hxv : v = x
          · have HS := hide (runsL_same xs k hk0 (by rw [hv.out, hx.out]; exact hxv))
            subst hp
            have hd0 : decide ((0 : Int) < ((p : Nat) : Int) + 1) = true := by first | (simp; done) | (simp; omega)
            have heq : (v == x) = true := by simpa using hxv
            have hp0 : (0 : Int) ≤ (p : Int) := by omega
            have hidx : ((p + 1 : Nat) : Int) - 1 = (p : Int) := by omega
            clear hxv
            obtain ⟨g, rfl, hg1, hg2, hgc⟩ := HO.out.posP hm0
            obtain ⟨s, rfl⟩ : ∃ s, m = s + 1 := ⟨m - 1, by omega⟩
            obtain ⟨hc1, hc2⟩ := hgc s (by omega)
            have hbd := lastP_bd xs (p + 1) (by omega)
            unfold lastP at hbd
            rw [hml.out, Nat.add_sub_cancel] at hbd
            obtain ⟨Z, hZ⟩ : ∃ Z, Hid (((runsL xs (p + 1)).getD s (0, 0)) = Z) := ⟨_, rfl⟩
            rw [hZ.out] at hc1 hc2 hbd
            obtain ⟨z1, z2⟩ := Z
            simp only at hc1 hc2 hbd
            have hb1 := hbd.1
            have hb2 := hbd.2
            clear hbd hgc
            go_wp2_with fail
            go_quiet (fail)
            have HOd := hide (OwnP.drewN HO.out nq)
            have HBd := hide (below_drewN HB.out nq)
            have hd1 : (wr.drewN nq).cell? ⟨g, s * 2, none⟩ = some (.int .i64 z1) := hc1
            have hd2 : (wr.drewN nq).cell? ⟨g, s * 2 + 1, none⟩ = some (.int .i64 z2) := hc2
            have hg3 : g < (wr.drewN nq).heap.size := hg2
            clear hc1 hc2 hg2
            generalize wr.drewN nq = wd at HOd HBd hd1 hd2 hg3 ⊢
            have hf1 := World.ownsRow.frozenAt HOd.out (s * 2)
            have hf2 := World.ownsRow.frozenAt HOd.out (s * 2 + 1)
            have S1 := (World.ownsRow.stored HOd.out (s * 2) (.int .i64 z1)).1
            have S2 := hide (World.ownsRow.stored S1 (s * 2 + 1) (.int .i64 (z2 + 1))).1
            rw [flatP_set] at S2
            have HE : Hid (runsL xs (p + 1 + 1) = (runsL xs (p + 1)).set s (z1, z2 + 1)) := by
              rw [HS.out]
              unfold bumpP lastP Hid
              rw [hml.out, Nat.add_sub_cancel, hZ.out]
            rw [← HE.out] at S2
            clear S1
            have HBe := hide (((HBd.out.setCell (p := ⟨g, s * 2, none⟩) hg1 (.int .i64 z1)).setCell (p := ⟨g, s * 2 + 1, none⟩) hg1 (.int .i64 (z2 + 1))))
            go_wp2_with fail
            go_roundw
            case rel => first | exact ⟨p + 1 + 1, s + 1, _, c', by omega, by omega, by go_num, rfl, World.ownsRow.alloc S2.out _, HBe.out.alloc HBe.out.size _⟩ | ((repeat apply Exists.intro); refine ⟨?_, rfl⟩; exact ⟨p + 1 + 1, s + 1, _, c', by omega, by omega, by go_num, rfl, World.ownsRow.alloc S2.out _, HBe.out.alloc HBe.out.size _⟩)
            case measure => first | (simp [intOf]; done) | (simp [intOf]; omega)
          · have HS := hide (runsL_new xs k (fun h => hxv (by rw [← hv.out, ← hx.out]; exact h.2)))
            subst hp
            have hd0 : decide ((0 : Int) < ((p : Nat) : Int) + 1) = true := by first | (simp; done) | (simp; omega)
            have heq : (v == x) = false := by simpa using hxv
            have hp0 : (0 : Int) ≤ (p : Int) := by omega
            have hidx : ((p + 1 : Nat) : Int) - 1 = (p : Int) := by omega
            clear hxv
            rw [hv.out] at HS
            go_wp2_with fail
            go_quiet (fail)
            have HOd := hide (OwnP.drewN HO.out nq)
            have HBd := hide (below_drewN HB.out nq)
            go_wp2_with (at_builtin; refine append_pair rfl _ _ rfl w.heap.size A' m c' (runsL xs (p + 1)) _ _ _ rfl rfl HOd.out (by omega) HBd.out.size ?_; intro A2 c2 w1 ho' hb' hg'; replace ho' := hide ho'; replace hb' := hide hb'; clear hg')
            go_roundw
            case rel => first | exact ⟨p + 1 + 1, m + 1, A2, c2, by omega, by omega, by go_num, rfl, by have := ho'.out; rw [← HS.out] at this; exact this, HBd.out.trans hb'.out⟩ | ((repeat apply Exists.intro); refine ⟨?_, rfl⟩; exact ⟨p + 1 + 1, m + 1, A2, c2, by omega, by omega, by go_num, rfl, by have := ho'.out; rw [← HS.out] at this; exact this, HBd.out.trans hb'.out⟩)
            case measure => first | (simp [intOf]; done) | (simp [intOf]; omega)
        · have hd0 : decide ((0 : Int) < (k : Int)) = false := by simp; omega
          have HS := hide (runsL_new xs k (fun h => hk0 h.1))
          rw [hv.out] at HS
          clear hcc hbb
          go_wp2_with fail
          go_quiet (fail)
          have HOd := hide (OwnP.drewN HO.out nq)
          have HBd := hide (below_drewN HB.out nq)
          go_wp2_with (at_builtin; refine append_pair rfl _ _ rfl w.heap.size A' m c' (runsL xs k) _ _ _ rfl rfl HOd.out (by omega) HBd.out.size ?_; intro A2 c2 w1 ho' hb' hg'; replace ho' := hide ho'; replace hb' := hide hb'; clear hg')
          go_roundw
          case rel => first | exact ⟨k + 1, m + 1, A2, c2, by omega, by omega, by go_num, rfl, by have := ho'.out; rw [← HS.out] at this; exact this, HBd.out.trans hb'.out⟩ | ((repeat apply Exists.intro); refine ⟨?_, rfl⟩; exact ⟨k + 1, m + 1, A2, c2, by omega, by omega, by go_num, rfl, by have := ho'.out; rw [← HS.out] at this; exact this, HBd.out.trans hb'.out⟩)
          case measure => first | (simp [intOf]; done) | (simp [intOf]; omega)
      · have hkn : k = n := by omega
        subst hkn
        go_wp2
        go_ret2
        exact RetP.of HO.out HB.out HV.out
set_option maxHeartbeats 3200000 in
theorem impl_RunsOf (q : Int) (A : Option Addr) (n c : Nat) (xs : List Int) (w : World) (_ : -9223372036854775808 ≤ q) (_ : q ≤ 9223372036854775807) (hr : RdI w A n xs) (hn : n ≤ 1048576) (_ : ∀ x ∈ xs, -9223372036854775808 ≤ x ∧ x ≤ 9223372036854775807) :
    Calls Try.prog 39 #[.int .i64 q, .slice A n c] w (RetP w (runsOfV q xs)) := by
  cases hg : reqB q xs
  · have HV := hide (show runsOfV q xs = ([], false) by unfold runsOfV; rw [hg]; rfl)
    replace hg := hide hg
    go_enter Try.func39, Try.ntmps39
    go_wp2_with (go_at_call 65; refine (isRequests_any _ _ _ xs _ _ hr hn).mono ?_; rintro e w1 ⟨rfl, hba⟩; rw [hg.out])
    go_ret2
    exact RetP.of (OwnP.nil _ _ _) hba HV.out
  · obtain ⟨q1, q2, q3, q4⟩ := reqB_parts hg
    have hl := hr.1
    have HV := hide (show runsOfV q xs = (runsL xs n, true) by unfold runsOfV; rw [hg, hl]; rfl)
    replace hg := hide hg
    have hn2 : n ≤ 60 := by omega
    replace hl := hide hl
    clear q4
    go_enter Try.func39, Try.ntmps39
    go_wp2_with fail
    refine (isRequests_any _ _ _ xs _ _ hr hn).mono ?_
    rintro e wa ⟨rfl, hba⟩
    rw [hg.out]
    have HR := hide (hr.below hba)
    have HBA := hide hba
    have hza := hba.size
    clear hr hba
    go_wp2_with fail
    go_loopw [6, 7, 8, 16] (fun u _ _ i wr => ∃ (k m : Nat) (A' : Option Addr) (c' : Nat), k ≤ n ∧ m ≤ k ∧ i = .int .i64 k ∧ u = .slice A' m c' ∧ Hid (OwnP 62 wr wa.heap.size A' m c' (runsL xs k)) ∧ Hid (Below wa.heap.size wa wr)) (fun _ _ _ i _ => n - (intOf i).toNat)
    case atStart => exact ⟨0, 0, _, _, Nat.zero_le _, Nat.zero_le _, rfl, rfl, ownP_empty _ _ _ (Nat.le_refl _) _ rfl, (by repeat (first | exact Below.refl _ _ | (refine below_drewN ?_ _) | (refine Below.drew ?_) | (refine Below.alloc ?_ (by first | exact Nat.le_refl _ | (simp; done) | (simp; omega) | omega) _) | (refine Below.setCell ?_ (by first | exact Nat.le_refl _ | (simp; done) | (simp; omega) | omega) _) | (refine Below.trans ?_ (Below.mono (by assumption) (by first | exact Nat.le_refl _ | (simp; done) | (simp; omega) | omega)))))⟩
    case round =>
      obtain ⟨k, m, A', c', hk, hmk, rfl, rfl, HO, HB⟩ := hrel
      by_cases hlt : k < n
      · have hlt' : (k : Int) < (n : Int) := by omega
        obtain ⟨b, off, rfl, hbb, hcc⟩ := (HR.out).2 (by omega)
        obtain ⟨v, hv⟩ : ∃ v, Hid (xs.getD k 0 = v) := ⟨_, rfl⟩
        have hck : wr.cell? ⟨b, off + k, none⟩ = some (.int .i64 v) := by rw [← hv.out]; exact (HB.out.cell (p := ⟨b, off + k, none⟩) hbb).trans (hcc k hlt)
        have hml := hide HO.out.len
        by_cases hk0 : 0 < k
        · have hm0 : 0 < m := by rw [← hml.out]; exact (runsL_len xs k).2 hk0
          obtain ⟨p, hp⟩ : ∃ p, k = p + 1 := ⟨k - 1, by omega⟩
          obtain ⟨x, hx⟩ : ∃ x, Hid (xs.getD (k - 1) 0 = x) := ⟨_, rfl⟩
          have hcp : wr.cell? ⟨b, off + p, none⟩ = some (.int .i64 x) := by rw [← hx.out, show k - 1 = p by omega]; exact (HB.out.cell (p := ⟨b, off + p, none⟩) hbb).trans (hcc p (by omega))
          clear hcc hbb
          by_cases hxv : v = x
          · have HS := hide (runsL_same xs k hk0 (by rw [hv.out, hx.out]; exact hxv))
            subst hp
            have hd0 : ((p : Int) + 1 == 0) = false := by first | (simp; done) | (simp; omega)
            have heq : (x != v) = false := by simpa using hxv.symm
            have hp0 : (0 : Int) ≤ (p : Int) := by omega
            have hidx : ((p + 1 : Nat) : Int) - 1 = (p : Int) := by omega
            clear hxv
            obtain ⟨g, rfl, hg1, hg2, hgc⟩ := HO.out.posP hm0
            obtain ⟨s, rfl⟩ : ∃ s, m = s + 1 := ⟨m - 1, by omega⟩
            obtain ⟨hc1, hc2⟩ := hgc s (by omega)
            have hbd := lastP_bd xs (p + 1) (by omega)
            unfold lastP at hbd
            rw [hml.out, Nat.add_sub_cancel] at hbd
            obtain ⟨Z, hZ⟩ : ∃ Z, Hid (((runsL xs (p + 1)).getD s (0, 0)) = Z) := ⟨_, rfl⟩
            rw [hZ.out] at hc1 hc2 hbd
            obtain ⟨z1, z2⟩ := Z
            simp only at hc1 hc2 hbd
            have hb1 := hbd.1
            have hb2 := hbd.2
            clear hbd hgc
            have hf2 := World.ownsRow.frozenAt HO.out (s * 2 + 1)
            have S2 := hide (World.ownsRow.stored HO.out (s * 2 + 1) (.int .i64 (z2 + 1))).1
            rw [flatP_set2 _ s (by rw [hml.out]; omega), hZ.out] at S2
            have HE : Hid (runsL xs (p + 1 + 1) = (runsL xs (p + 1)).set s (z1, z2 + 1)) := by
              rw [HS.out]
              unfold bumpP lastP Hid
              rw [hml.out, Nat.add_sub_cancel, hZ.out]
            rw [← HE.out] at S2
            have HBe := hide (HB.out.setCell (p := ⟨g, s * 2 + 1, none⟩) hg1 (.int .i64 (z2 + 1)))
            go_wp2_with fail
            go_region
            go_wp2_with fail
            go_roundw
            case rel => first | exact ⟨p + 1 + 1, s + 1, _, c', by omega, by omega, by go_num, rfl, S2, HBe.out.drew⟩ | ((repeat apply Exists.intro); refine ⟨?_, rfl⟩; exact ⟨p + 1 + 1, s + 1, _, c', by omega, by omega, by go_num, rfl, S2, HBe.out.drew⟩)
            case measure => first | (simp [intOf]; done) | (simp [intOf]; omega)
          · have HS := hide (runsL_new xs k (fun h => hxv (by rw [← hv.out, ← hx.out]; exact h.2)))
            subst hp
            have hd0 : ((p : Int) + 1 == 0) = false := by first | (simp; done) | (simp; omega)
            have heq : (x != v) = true := by simpa using fun h : x = v => hxv h.symm
            have hp0 : (0 : Int) ≤ (p : Int) := by omega
            have hidx : ((p + 1 : Nat) : Int) - 1 = (p : Int) := by omega
            clear hxv
            rw [hv.out] at HS
            go_wp2_with (at_builtin; refine append_pair rfl _ _ rfl wa.heap.size A' m c' (runsL xs (p + 1)) _ _ _ rfl rfl HO.out (by omega) HB.out.size ?_; intro A2 c2 w1 ho' hb' hg'; replace ho' := hide ho'; replace hb' := hide hb'; clear hg')
            obtain ⟨g, rfl, hg1, hg2, hgc⟩ := ho'.out.posP (by omega)
            obtain ⟨hc1, hc2⟩ := hgc m (by omega)
            have hml2 : (runsL xs (p + 1) ++ [(v, 0)]).length = m + 1 := ho'.out.len
            have hget : (runsL xs (p + 1) ++ [(v, 0)]).getD m (0, 0) = (v, 0) := by
              have := lastP_snoc (runsL xs (p + 1)) (v, 0)
              unfold lastP at this
              rwa [hml2, Nat.add_sub_cancel] at this
            rw [hget] at hc1 hc2
            simp only at hc1 hc2
            have hf2 := World.ownsRow.frozenAt ho'.out (m * 2 + 1)
            have S2 := hide (World.ownsRow.stored ho'.out (m * 2 + 1) (.int .i64 1)).1
            rw [flatP_set2 _ m (by rw [hml2]; omega), hget] at S2
            have HE : Hid (runsL xs ((p + 1) + 1) = (runsL xs (p + 1) ++ [(v, 0)]).set m (v, 1)) := by
              rw [HS.out, ← bump_snoc]
              unfold bumpP Hid
              rw [lastP_snoc, hml2, Nat.add_sub_cancel]
              rfl
            rw [← HE.out] at S2
            have HBe := hide ((HB.out.trans hb'.out).setCell (p := ⟨g, m * 2 + 1, none⟩) hg1 (.int .i64 1))
            clear hml2 hget hgc
            go_wp2_with fail
            go_region
            go_wp2_with fail
            go_roundw
            case rel => first | exact ⟨(p + 1) + 1, m + 1, _, c2, by omega, by omega, by go_num, rfl, S2, HBe.out.drew⟩ | ((repeat apply Exists.intro); refine ⟨?_, rfl⟩; exact ⟨(p + 1) + 1, m + 1, _, c2, by omega, by omega, by go_num, rfl, S2, HBe.out.drew⟩)
            case measure => first | (simp [intOf]; done) | (simp [intOf]; omega)
        · have hd0 : ((k : Int) == 0) = true := by simp; omega
          have HS := hide (runsL_new xs k (fun h => hk0 h.1))
          rw [hv.out] at HS
          clear hcc hbb
          go_wp2_with (at_builtin; refine append_pair rfl _ _ rfl wa.heap.size A' m c' (runsL xs k) _ _ _ rfl rfl HO.out (by omega) HB.out.size ?_; intro A2 c2 w1 ho' hb' hg'; replace ho' := hide ho'; replace hb' := hide hb'; clear hg')
          obtain ⟨g, rfl, hg1, hg2, hgc⟩ := ho'.out.posP (by omega)
          obtain ⟨hc1, hc2⟩ := hgc m (by omega)
          have hml2 : (runsL xs k ++ [(v, 0)]).length = m + 1 := ho'.out.len
          have hget : (runsL xs k ++ [(v, 0)]).getD m (0, 0) = (v, 0) := by
            have := lastP_snoc (runsL xs k) (v, 0)
            unfold lastP at this
            rwa [hml2, Nat.add_sub_cancel] at this
          rw [hget] at hc1 hc2
          simp only at hc1 hc2
          have hf2 := World.ownsRow.frozenAt ho'.out (m * 2 + 1)
          have S2 := hide (World.ownsRow.stored ho'.out (m * 2 + 1) (.int .i64 1)).1
          rw [flatP_set2 _ m (by rw [hml2]; omega), hget] at S2
          have HE : Hid (runsL xs (k + 1) = (runsL xs k ++ [(v, 0)]).set m (v, 1)) := by
            rw [HS.out, ← bump_snoc]
            unfold bumpP Hid
            rw [lastP_snoc, hml2, Nat.add_sub_cancel]
            rfl
          rw [← HE.out] at S2
          have HBe := hide ((HB.out.trans hb'.out).setCell (p := ⟨g, m * 2 + 1, none⟩) hg1 (.int .i64 1))
          clear hml2 hget hgc
          go_wp2_with fail
          go_region
          go_wp2_with fail
          go_roundw
          case rel => first | exact ⟨k + 1, m + 1, _, c2, by omega, by omega, by go_num, rfl, S2, HBe.out.drew⟩ | ((repeat apply Exists.intro); refine ⟨?_, rfl⟩; exact ⟨k + 1, m + 1, _, c2, by omega, by omega, by go_num, rfl, S2, HBe.out.drew⟩)
          case measure => first | (simp [intOf]; done) | (simp [intOf]; omega)
      · have hkn : k = n := by omega
        subst hkn
        go_wp2
        go_ret2
        exact RetP.of (HO.out.more hza) (HBA.out.trans (HB.out.mono hza)) HV.out
end Go.Proofs.Ytaoacpikmpoodaa
