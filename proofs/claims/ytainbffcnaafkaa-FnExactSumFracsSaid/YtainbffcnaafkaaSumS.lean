/- What the reference returns of a list of fractions; for slices of at most 100 fractions that can be read. -/
import Derived.Test.YtainbffcnaafkaaSumF
namespace Go.Proofs.Ytainbffcnaafkaa
open Go.RowKit

theorem fracAt_two {B : Nat} {W0 wr : World} {s : Value} {x y : Int} (h : FracAt B W0 wr s x y) : ∃ n, s = .pointer (some ⟨n, 0, none⟩) ∧ wr.cell? ⟨n, 0, none⟩ = some (.int .i64 x) ∧ wr.cell? ⟨n, 1, none⟩ = some (.int .i64 y) ∧ B ≤ n ∧ Kept B W0 wr := by
  obtain ⟨n, h1, h2, h3, h4, h5, h6⟩ := h
  exact ⟨n, h1, h4, h5, h2, h6⟩

set_option maxHeartbeats 3200000 in
set_option maxRecDepth 100000 in
theorem specSumFracs_any (A : Option Addr) (n c : Nat) (xs : List (Int × Int)) (w : World) (hr : RdP w A n xs) (hn : n ≤ 100) (r : Option (Int × Int)) (hs : sumF xs = r) :
    Calls Try.prog 42 #[.slice A n c] w fun e w' => e = .returned (.tuple #[.agg #[.int .i64 (r.getD (0, 0)).1, .int .i64 (r.getD (0, 0)).2], .bool r.isSome]) ∧ Below w.heap.size w w' := by
  have HR := hide hr
  have hlen := hide hr.1
  have HS := hide hs
  clear hr hs
  go_enter Try.func42, Try.ntmps42
  go_wp2
  go_loopw [5] (fun i wr => ∃ k : Nat, k ≤ n ∧ i = .int .i64 k ∧ Hid (∀ j, j < k → fracB (xs.getD j (0, 0)).1 (xs.getD j (0, 0)).2 = true) ∧ Kept w.heap.size w wr ∧ Hid (Two wr w.heap.size (.int .i64 0) (.int .i64 0)) ∧ Hid (Two wr (w.heap.size + 1) (.int .i64 0) (.int .i64 1))) (fun i _ => n - (intOf i).toNat)
  case atStart => exact ⟨0, Nat.zero_le _, rfl, fun j hj => absurd hj (Nat.not_lt_zero _), ((Kept.start (Nat.le_refl _)).alloc _).alloc _, two_alloc (two_mk _ _ _ _) _, by have := two_mk (w.alloc (.cells #[.int .i64 0, .int .i64 0] 26)) (.int .i64 0) (.int .i64 1) 26; simpa [Hid] using this⟩
  case round =>
    obtain ⟨k, hk, rfl, HA, HK, HZ, HT⟩ := hrel
    by_cases hlt : k < n
    · obtain ⟨z0, z1, z2, z3, z4⟩ := HZ.out
      obtain ⟨b, off, rfl, hb, hc, hc'⟩ := (HR.out).at_ hlt
      have hlt' : (k : Int) < (n : Int) := by omega
      have hc1 := (HK.cells _ _ hb).trans hc
      have hc2 := (HK.cells _ _ hb).trans hc'
      obtain ⟨x, hx⟩ : ∃ x, Hid ((xs.getD k (0, 0)).1 = x) := ⟨_, rfl⟩
      obtain ⟨y, hy⟩ : ∃ y, Hid ((xs.getD k (0, 0)).2 = y) := ⟨_, rfl⟩
      rw [hx.out] at hc1
      rw [hy.out] at hc2
      clear hc hc' hb
      cases hg : fracB x y
      · have HN : Hid (r = none) := by
          unfold Hid
          rw [← HS.out]
          exact sumF_bad xs k (by rw [hlen.out]; exact hlt) (by rw [hx.out, hy.out]; exact hg)
        replace hg := hide hg
        go_wp2_with fail
        refine (l2Good_any _ _ _).mono ?_
        rintro e w2 ⟨rfl, hb⟩
        rw [hg.out]
        obtain ⟨z0', z1', z2', z3', z4'⟩ := two_on HZ.out hb
        obtain ⟨r0, r1⟩ := two_cells (w := w2) (b := w.heap.size) z0' z1'
        go_wp2
        refine bodyPost_ret (v := .tuple #[.agg #[.int .i64 0, .int .i64 0], .bool false]) (by simp [results, Try.results42, go_sem, r0, r1]) rfl ⟨by rw [HN.out]; rfl, ?_⟩
        exact Below.setCell (Below.setCell (HK.step hb).1 (Nat.le_refl _) _) (Nat.le_refl _) _
      · replace hg := hide hg
        go_wp2_with fail
        refine (l2Good_any _ _ _).mono ?_
        rintro e w2 ⟨rfl, hb⟩
        rw [hg.out]
        have HK2 := HK.step hb
        have HZ2 := hide (two_on HZ.out hb)
        have HT2 := hide (two_on HT.out hb)
        go_wp2
        go_roundw
        case rel => first | exact ⟨k + 1, by omega, by go_num, fun j hj => by
          by_cases e : j < k
          · exact HA.out j e
          · have : j = k := by omega
            subst this
            rw [hx.out, hy.out]
            exact hg.out, HK2, HZ2.out, HT2.out⟩ | ((repeat apply Exists.intro); refine ⟨?_, rfl⟩; exact ⟨k + 1, by omega, by go_num, fun j hj => by
          by_cases e : j < k
          · exact HA.out j e
          · have : j = k := by omega
            subst this
            rw [hx.out, hy.out]
            exact hg.out, HK2, HZ2.out, HT2.out⟩)
        case measure => simp [intOf]; omega
    · have hkn : k = n := by omega
      subst hkn
      obtain ⟨wo, rfl⟩ : ∃ wo : World, wo = wr := ⟨_, rfl⟩
      go_wp2
      go_loopw [6, 7, 8] (fun i _ _ wr => ∃ (j : Nat) (s : Int × Int), j ≤ k ∧ i = .int .i64 j ∧ Hid (sumF (xs.take j) = some s) ∧ Kept w.heap.size w wr ∧ Hid (Two wr w.heap.size (.int .i64 0) (.int .i64 0)) ∧ Hid (Two wr (w.heap.size + 1) (.int .i64 s.1) (.int .i64 s.2))) (fun i _ _ _ => k - (intOf i).toNat)
      case atStart => exact ⟨0, (0, 1), Nat.zero_le _, rfl, rfl, HK, HZ, HT⟩
      case round =>
        clear HK HZ HT
        obtain ⟨j, s, hj, rfl, HF, HK, HZ, HT⟩ := hrel
        obtain ⟨z0, z1, z2, z3, z4⟩ := HZ.out
        obtain ⟨t0, t1, t2, t3, t4⟩ := HT.out
        by_cases hlt2 : j < k
        · obtain ⟨b, off, rfl, hb, hc, hc'⟩ := (HR.out).at_ hlt2
          have hlt' : (j : Int) < (k : Int) := by omega
          have hc1 := (HK.cells _ _ hb).trans hc
          have hc2 := (HK.cells _ _ hb).trans hc'
          have hbr : b < wr.heap.size := Nat.lt_of_lt_of_le hb HK.size
          have hso := sumF_ok _ _ HF.out
          have hg := HA.out j hlt2
          have HSP := hide (sumF_take xs j (by rw [hlen.out]; exact hlt2))
          rw [HF.out] at HSP
          obtain ⟨p, hp⟩ : ∃ p, Hid (xs.getD j (0, 0) = p) := ⟨_, rfl⟩
          rw [hp.out] at hc1 hc2 HSP hg
          obtain ⟨x, y⟩ := p
          obtain ⟨s1, s2⟩ := s
          have HB := hide (show sumF (xs.take (j + 1)) = stepF (s1, s2) (x, y) from HSP.out)
          clear HSP hc hc' hb
          obtain ⟨p1, p2, p3, p4, p5, p6⟩ := prods hso hg
          have HST := hide (stepF_good (s := (s1, s2)) (p := (x, y)) hg)
          clear hg hso
          have mkS := hide (fun (w' : World) (h : Kept wr.heap.size wr w') => (⟨(h.cells _ _ t4).trans t0, (h.cells _ _ t4).trans t1, (h.cells _ _ hbr).trans hc1, (h.cells _ _ hbr).trans hc2, h⟩ : w'.cell? ⟨w.heap.size + 1, 0, none⟩ = some (.int .i64 s1) ∧ w'.cell? ⟨w.heap.size + 1, 1, none⟩ = some (.int .i64 s2) ∧ w'.cell? ⟨b, off + j * 2, none⟩ = some (.int .i64 x) ∧ w'.cell? ⟨b, off + j * 2 + 1, none⟩ = some (.int .i64 y) ∧ Kept wr.heap.size wr w'))
          have HKR := Kept.start (Nat.le_refl wr.heap.size)
          have hq := trivial
          clear z0 z1 z2 z3 z4 t0 t1 t2 t3 t4
          go_upto_region 12 with (fail)
          go_cut [7, 8] (fun s7 s8 wx => FracAt wr.heap.size wr wx s7 (mkN (s1 * y + x * s2) (s2 * y)) (mkD (s1 * y + x * s2) (s2 * y)) ∧ s8 = .bool (mkB (s1 * y + x * s2) (s2 * y)))
          case first =>
            go_region_held3 (fun w' => w'.cell? ⟨w.heap.size + 1, 0, none⟩ = some (.int .i64 s1) ∧ w'.cell? ⟨w.heap.size + 1, 1, none⟩ = some (.int .i64 s2) ∧ w'.cell? ⟨b, off + j * 2, none⟩ = some (.int .i64 x) ∧ w'.cell? ⟨b, off + j * 2 + 1, none⟩ = some (.int .i64 y) ∧ Kept wr.heap.size wr w')
              (first | exact mkS.out _ HKR | exact mkS.out _ HKR.drew | exact mkS.out _ (HKR.alloc _) | exact mkS.out _ (HKR.drew.alloc _) | exact mkS.out _ (Kept.setCell (Kept.setCell (by first | exact HKR | exact HKR.alloc _ | exact HKR.drew.alloc _) (by have := HKR.size; first | omega | (simp; done) | (simp; omega)) _) (by have := HKR.size; first | omega | (simp; done) | (simp; omega)) _))
              (first
                | (go_at_call 57; refine (l2Add_any _ _ _ _ _ (by omega) (by omega) (by omega) (by omega) (by omega) (by omega)).mono ?_; rintro e w1 ⟨rfl, hb⟩; go_must (have HKR := Kept.step (by first | assumption | exact HKR.drew | exact HKR.alloc _ | exact HKR.drew.alloc _) hb); (first | (have hq := two_newd hb) | (have hq := two_new hb) | (have hq := two_on hq hb) | skip); have hs := HKR.size))
            all_goals (go_wp2_with fail; go_meet)
            all_goals (first | exact ⟨fracAt_alloc HKR, rfl⟩ | exact ⟨fracAt_store hq HKR (by omega), rfl⟩)
          case rest =>
            obtain ⟨⟨m, rfl, hm1, hm2, hm3, hm4, HK1⟩, rfl⟩ := hcut
            clear mkS HKR hq
            have HZ1 := hide (two_below HZ.out (HK1.1.mono (Nat.le_refl _)))
            have HT1 := hide (two_below HT.out (HK1.1.mono (Nat.le_refl _)))
            obtain ⟨z0, z1, z2, z3, z4⟩ := HZ1.out
            obtain ⟨t0, t1, t2, t3, t4⟩ := HT1.out
            have HKW := kept_trans HK HK1 HK.size
            cases hm : mkB (s1 * y + x * s2) (s2 * y)
            · have HN : Hid (r = none) := by
                unfold Hid
                rw [← HS.out]
                apply sumF_none xs (j + 1)
                rw [HB.out, HST.out]
                simp [hm]
              obtain ⟨r0, r1⟩ := two_cells (w := wc) (b := w.heap.size) z0 z1
              clear hm
              go_wp2
              refine bodyPost_ret (v := .tuple #[.agg #[.int .i64 0, .int .i64 0], .bool false]) (by simp [results, Try.results42, go_sem, r0, r1]) rfl ⟨by rw [HN.out]; rfl, ?_⟩
              exact Below.setCell (Below.setCell HKW.1 (Nat.le_refl _) _) (Nat.le_refl _) _
            · have HNX := hide (show sumF (xs.take (j + 1)) = some (mkN (s1 * y + x * s2) (s2 * y), mkD (s1 * y + x * s2) (s2 * y)) by rw [HB.out, HST.out]; simp [hm])
              clear hm
              go_wp2
              go_roundw
              case rel => first | exact ⟨j + 1, (mkN (s1 * y + x * s2) (s2 * y), mkD (s1 * y + x * s2) (s2 * y)), by omega, by go_num, HNX, (HKW.setCell (by simp) _).setCell (by simp) _, two_other (two_other HZ1.out (by omega)) (by omega), two_set HT1.out⟩ | ((repeat apply Exists.intro); refine ⟨?_, rfl⟩; exact ⟨j + 1, (mkN (s1 * y + x * s2) (s2 * y), mkD (s1 * y + x * s2) (s2 * y)), by omega, by go_num, HNX, (HKW.setCell (by simp) _).setCell (by simp) _, two_other (two_other HZ1.out (by omega)) (by omega), two_set HT1.out⟩)
              case measure => simp [intOf]; omega
        · have hkn : j = k := by omega
          subst hkn
          have HN : Hid (r = some s) := by
            unfold Hid
            rw [← HS.out, ← HF.out, List.take_of_length_le (by rw [hlen.out]; exact Nat.le_refl _)]
          obtain ⟨r0, r1⟩ := two_cells (w := wr) (b := w.heap.size) z0 z1
          go_wp2
          refine bodyPost_ret (v := .tuple #[.agg #[.int .i64 s.1, .int .i64 s.2], .bool true]) (by simp [results, Try.results42, go_sem, r0, r1]) rfl ⟨by rw [HN.out]; rfl, ?_⟩
          exact Below.setCell (Below.setCell HK.1 (Nat.le_refl _) _) (Nat.le_refl _) _
end Go.Proofs.Ytainbffcnaafkaa
