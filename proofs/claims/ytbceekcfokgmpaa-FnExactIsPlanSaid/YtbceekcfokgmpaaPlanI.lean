/- The run of a plan, by the program; for slices of at most 60 numbers. -/
import Derived.Test.YtbceekcfokgmpaaPlanR
namespace Go.Proofs.Ytbceekcfokgmpaa
open Go.RowKit Go.Lib Go.Sort Go.Shelf
theorem delete_one (A : Option Addr) (n c base : Nat) (xs : List Int) (a : Nat) (w : World) (ho : OwnI w base A (n + 1) c xs) (ha : a < n + 1) :
    Calls Try.prog 97 #[.slice A (n + 1) c, .int .i64 a, .int .i64 ((a : Int) + 1)] w fun e w' => e = .returned (.slice A n c) ∧ OwnI w' base A n c (xs.take a ++ xs.drop (a + 1)) ∧ Marked w w' A := by
  have := delete_any A (n + 1) c base xs a w ho ha
  simpa only [Nat.add_sub_cancel] using this
set_option maxHeartbeats 6400000 in
theorem played_any (k : Int) (A1 : Option Addr) (n c1 : Nat) (xs : List Int) (A2 : Option Addr) (c2 : Nat) (ps : List Int) (w : World) (hr1 : RdI w A1 n xs) (hr2 : RdI w A2 n ps) (hn : n ≤ 60) (hk1 : 1 ≤ k) (hk6 : k ≤ 6) (hxb : ∀ i, i < n → 0 ≤ xs.getD i 0) :
    Calls Try.prog 74 #[.int .i64 k, .slice A1 n c1, .slice A2 n c2] w (RetR w (plRun k xs ps n).isSome) := by
  have HX := hide hr1
  have HP := hide hr2
  have HXB := hide hxb
  clear hr1 hr2 hxb
  go_enter Try.func74, Try.ntmps74
  go_wp2_with fail
  have HO0 : Hid (OwnI ((w.alloc (.cells #[] 3)).alloc (.cells #[] 22)) w.heap.size (some ⟨w.heap.size, 0, none⟩) 0 0 []) := OwnI.below (own_empty w w.heap.size (Nat.le_refl _) #[] rfl) ((Below.refl _ _).alloc (Nat.le_refl _) _)
  have HV0 : Hid (OwnV ((w.alloc (.cells #[] 3)).alloc (.cells #[] 22)) w.heap.size (some ⟨w.heap.size + 1, 0, none⟩) 0 0) := by
    have := ownV_empty (w.alloc (.cells #[] 3)) w.heap.size (by simp) #[] rfl
    rw [World.size_alloc] at this
    exact this
  go_loopw [9, 10, 11, 12, 13, 14, 15, 20] (fun nw cs f _ _ _ _ i wr => ∃ (i' : Nat) (L : List Int) (Ac : Option Addr) (cc fc : Nat) (An : Option Addr) (m cn : Nat), i' ≤ n ∧ fc ≤ i' ∧ i = .int .i64 i' ∧ cs = .slice Ac i' cc ∧ f = .int .i64 fc ∧ nw = .slice An m cn ∧ Hid (OwnV wr w.heap.size Ac i' cc) ∧ Hid (OwnI wr w.heap.size An m cn L) ∧ Hid (plRun k xs ps i' = some L) ∧ Hid (PlInv k L) ∧ Hid (Below w.heap.size w wr)) (fun _ _ _ _ _ _ _ i _ => n - (intOf i).toNat)
  case atStart => exact ⟨0, [], _, _, 0, _, _, _, Nat.zero_le _, Nat.zero_le _, rfl, rfl, rfl, rfl, HV0, HO0, rfl, ⟨List.nodup_nil, fun y hy => (by cases hy), by simp; omega⟩, (by repeat (first | exact Below.refl _ _ | (refine below_drewN ?_ _) | (refine Below.drew ?_) | (refine Below.alloc ?_ (by first | exact Nat.le_refl _ | (simp; done) | (simp; omega) | omega) _) | (refine Below.setCell ?_ (by first | exact Nat.le_refl _ | (simp; done) | (simp; omega) | omega) _) | (refine Below.trans ?_ (Below.mono (by assumption) (by first | exact Nat.le_refl _ | (simp; done) | (simp; omega) | omega)))))⟩
  case round =>
    obtain ⟨i, L, Ac, cc, fc, An, m, cn, hi, hfc, rfl, rfl, rfl, rfl, HV, HO, HL, HI, HB⟩ := hrel
    by_cases hlt : i < n
    · have hlt' : (i : Int) < (n : Int) := by omega
      obtain ⟨xb, xo, hxA, hxb, hxc⟩ := HX.out.2 (by omega)
      subst hxA
      obtain ⟨pb, po, hpA, hpb, hpc⟩ := HP.out.2 (by omega)
      subst hpA
      obtain ⟨x, hx⟩ : ∃ x, Hid (xs.getD i 0 = x) := ⟨_, rfl⟩
      obtain ⟨p, hp⟩ : ∃ p, Hid (ps.getD i 0 = p) := ⟨_, rfl⟩
      have hx0 : 0 ≤ x := by rw [← hx.out]; exact HXB.out i hlt
      have hstep := plRun_some k xs ps i L HL.out
      rw [hx.out, hp.out] at hstep
      have HSt := hide hstep
      clear hstep
      have HCx := hide (fun (w' : World) (h : Below w.heap.size w w') => (show w'.cell? ⟨xb, xo + i, none⟩ = some (.int .i64 x) from (h.cell (p := ⟨xb, xo + i, none⟩) hxb).trans ((hxc i hlt).trans (by rw [hx.out]))))
      have HCp := hide (fun (w' : World) (h : Below w.heap.size w w') => (show w'.cell? ⟨pb, po + i, none⟩ = some (.int .i64 p) from (h.cell (p := ⟨pb, po + i, none⟩) hpb).trans ((hpc i hlt).trans (by rw [hp.out]))))
      clear hxc hpc hxb hpb
      have cx := HCx.out wr HB.out
      have cp := HCp.out wr HB.out
      obtain ⟨j1, j2, j3⟩ := HI.out
      replace j1 := hide j1
      replace j2 := hide j2
      obtain ⟨N, hN⟩ : ∃ N, Hid ((outL L p).length = N) := ⟨_, rfl⟩
      have hN2 : N ≤ 6 := by
        have : (outL L p).length ≤ L.length := List.length_filter_le _ _
        rw [← hN.out]
        omega
      have hm : m = L.length := HO.out.len.symm
      have hm6 : m ≤ 6 := by omega
      cases hb : hasB L x
      · have HBx := hide hb
        by_cases h0 : 0 ≤ p
        · cases hq : hasB L p
          · have HBp := hide hq
            have HF : Hid (plRun k xs ps n = none) := plRun_none k xs ps (i + 1) n (HSt.out.trans (step_away HBx.out h0 HBp.out)) (by omega)
            have HD : Hid (idxOf L p = -1) := idxOf_no L p ((hasB_not L p).1 HBp.out)
            clear hb hq
            replace hm := hide hm
            go_wp2_with (first
              | (go_at_call 62; refine (contains_any _ _ _ L _ _ HO.out.rd (by omega)).mono ?_; rintro e w1 ⟨rfl, rfl⟩; rw [HBx.out])
              | (go_at_call 89; refine (index_any _ _ _ L _ _ HO.out.rd (by omega)).mono ?_; rintro e w1 ⟨rfl, rfl⟩; rw [HD.out]))
            go_ret3
            exact RetR.of HB.out (by rw [HF.out]; rfl)
          · have HBp := hide hq
            have hno : ¬ (0 ≤ p ∧ hasB L p = false) := fun h => by rw [HBp.out] at h; exact absurd h.2 (by simp)
            replace hno := hide hno
            obtain ⟨a, ha1, ha2, ha3⟩ := outL_at L p j1.out ((hasB_mem L p).1 HBp.out)
            obtain ⟨q, rfl⟩ : ∃ q, m = q + 1 := ⟨m - 1, by omega⟩
            have hqN : q = N := by
              have h1 : (L.take a ++ L.drop (a + 1)).length = L.length - 1 := by simp; omega
              rw [ha3, hN.out] at h1
              omega
            subst hqN
            have HD := hide ha1
            have HE := hide ha3
            have haq : a < q + 1 := by omega
            have haq0 : (0 : Int) ≤ (a : Int) := by omega
            clear hb hq ha1 ha3 ha2
            replace hm := hide hm
            by_cases hkN : k < (q : Int) + 1
            · have HF : Hid (plRun k xs ps n = none) := plRun_none k xs ps (i + 1) n (HSt.out.trans (step_full HBx.out hno.out (by rw [hN.out]; exact hkN))) (by omega)
              go_wp2_with (first
                | (go_at_call 62; refine (contains_any _ _ _ L _ _ HO.out.rd (by omega)).mono ?_; rintro e w1 ⟨rfl, rfl⟩; rw [HBx.out])
                | (go_at_call 89; refine (index_any _ _ _ L _ _ HO.out.rd (by omega)).mono ?_; rintro e w1 ⟨rfl, rfl⟩; rw [HD.out])
                | (go_at_call 97; refine (delete_one _ _ _ _ L a _ HO.out haq).mono ?_; rintro e w5 ⟨rfl, ho5, hm5⟩; rw [HE.out] at ho5; have HV5 := hide (HV.out.marked hm5 (own_apart HO.out HV.out).symm); have HB5 := hide (HB.out.trans (HO.out.marks hm5 HB.out.size)); have cx5 := HCx.out w5 HB5.out; replace ho5 := hide ho5; clear hm5)
                | (at_builtin; refine append_int rfl _ _ rfl w.heap.size An q cn (outL L p) _ _ rfl rfl ho5.out (by omega) HB5.out.size ?_; intro A6 c6 w6 ho6 hb6 hg6; have HV6 := hide (HV5.out.marked hg6 (own_apart ho5.out HV5.out).symm); have HB6 := hide (HB5.out.trans hb6); replace ho6 := hide ho6; clear hb6 hg6))
              go_ret3
              exact RetR.of HB6.out (by rw [HF.out]; rfl)
            · have HG : Hid (plRun k xs ps (i + 1) = some (outL L p ++ [x])) := HSt.out.trans (step_in HBx.out hno.out (by rw [hN.out]; exact hkN))
              have HI2 : Hid (PlInv k (outL L p ++ [x])) := plStep_inv k L _ x p hx0 HI.out (HSt.out.symm.trans HG.out)
              go_wp2_with (first
                | (go_at_call 62; refine (contains_any _ _ _ L _ _ HO.out.rd (by omega)).mono ?_; rintro e w1 ⟨rfl, rfl⟩; rw [HBx.out])
                | (go_at_call 89; refine (index_any _ _ _ L _ _ HO.out.rd (by omega)).mono ?_; rintro e w1 ⟨rfl, rfl⟩; rw [HD.out])
                | (go_at_call 97; refine (delete_one _ _ _ _ L a _ HO.out haq).mono ?_; rintro e w5 ⟨rfl, ho5, hm5⟩; rw [HE.out] at ho5; have HV5 := hide (HV.out.marked hm5 (own_apart HO.out HV.out).symm); have HB5 := hide (HB.out.trans (HO.out.marks hm5 HB.out.size)); have cx5 := HCx.out w5 HB5.out; replace ho5 := hide ho5; clear hm5)
                | (at_builtin; refine append_int rfl _ _ rfl w.heap.size An q cn (outL L p) _ _ rfl rfl ho5.out (by omega) HB5.out.size ?_; intro A6 c6 w6 ho6 hb6 hg6; have HV6 := hide (HV5.out.marked hg6 (own_apart ho5.out HV5.out).symm); have HB6 := hide (HB5.out.trans hb6); replace ho6 := hide ho6; clear hb6 hg6)
                | (go_at_call 48; refine (rising_big _ _ _ (outL L p ++ [x]) _ ho6.out.rd (by omega)).mono ?_; rintro e w8 ⟨A8, c8, rfl, ho8, hb8⟩; have HV8 := hide (HV6.out.below hb8); have HO8 := hide (ho6.out.below hb8); have HB8 := hide (HB6.out.trans (hb8.mono HB6.out.size)); clear ho8 hb8)
                | (at_builtin; refine append_row rfl _ _ rfl w.heap.size Ac i cc _ _ rfl rfl HV8.out (by omega) HB8.out.size rfl ?_; intro A9 c9 w9 hv9 hb9 hg9; have HO9 := hide (HO8.out.marked hg9 (own_apart HO8.out HV8.out)); have HB9 := hide (HB8.out.trans hb9); replace hv9 := hide hv9; clear hb9 hg9))
              go_roundw
              case rel => first | exact ⟨i + 1, outL L p ++ [x], A9, c9, fc + 1, A6, q + 1, c6, by omega, by omega, by go_num, rfl, by go_num, rfl, hv9, HO9, HG, HI2, HB9⟩ | ((repeat apply Exists.intro); refine ⟨?_, rfl⟩; exact ⟨i + 1, outL L p ++ [x], A9, c9, fc + 1, A6, q + 1, c6, by omega, by omega, by go_num, rfl, by go_num, rfl, hv9, HO9, HG, HI2, HB9⟩)
              case measure => first | (simp [intOf]; done) | (simp [intOf]; omega)
        · have hp' : p < 0 := by omega
          have hout := outL_neg L p j2.out hp'
          have hno : ¬ (0 ≤ p ∧ hasB L p = false) := fun h => h0 h.1
          replace hno := hide hno
          have HD : Hid (idxOf L p = -1) := idxOf_no L p (fun hm2 => by have := j2.out p hm2; omega)
          obtain rfl : m = N := by rw [← hN.out, hout]; exact hm
          have HL2 : Hid (L ++ [x] = outL L p ++ [x]) := by unfold Hid; rw [hout]
          clear hb hout
          replace hm := hide hm
          by_cases hkN : k < (m : Int) + 1
          · have HF : Hid (plRun k xs ps n = none) := plRun_none k xs ps (i + 1) n (HSt.out.trans (step_full HBx.out hno.out (by rw [hN.out]; exact hkN))) (by omega)
            go_wp2_with (first
              | (go_at_call 62; refine (contains_any _ _ _ L _ _ HO.out.rd (by omega)).mono ?_; rintro e w1 ⟨rfl, rfl⟩; rw [HBx.out])
              | (go_at_call 89; refine (index_any _ _ _ L _ _ HO.out.rd (by omega)).mono ?_; rintro e w1 ⟨rfl, rfl⟩; rw [HD.out])
              | (at_builtin; refine append_int rfl _ _ rfl w.heap.size An m cn L _ _ rfl rfl HO.out (by omega) HB.out.size ?_; intro A6 c6 w6 ho6 hb6 hg6; rw [HL2.out] at ho6; have HV6 := hide (HV.out.marked hg6 (own_apart HO.out HV.out).symm); have HB6 := hide (HB.out.trans hb6); replace ho6 := hide ho6; clear hb6 hg6))
            go_ret3
            exact RetR.of HB6.out (by rw [HF.out]; rfl)
          · have HG : Hid (plRun k xs ps (i + 1) = some (outL L p ++ [x])) := HSt.out.trans (step_in HBx.out hno.out (by rw [hN.out]; exact hkN))
            have HI2 : Hid (PlInv k (outL L p ++ [x])) := plStep_inv k L _ x p hx0 HI.out (HSt.out.symm.trans HG.out)
            go_wp2_with (first
              | (go_at_call 62; refine (contains_any _ _ _ L _ _ HO.out.rd (by omega)).mono ?_; rintro e w1 ⟨rfl, rfl⟩; rw [HBx.out])
              | (go_at_call 89; refine (index_any _ _ _ L _ _ HO.out.rd (by omega)).mono ?_; rintro e w1 ⟨rfl, rfl⟩; rw [HD.out])
              | (at_builtin; refine append_int rfl _ _ rfl w.heap.size An m cn L _ _ rfl rfl HO.out (by omega) HB.out.size ?_; intro A6 c6 w6 ho6 hb6 hg6; rw [HL2.out] at ho6; have HV6 := hide (HV.out.marked hg6 (own_apart HO.out HV.out).symm); have HB6 := hide (HB.out.trans hb6); replace ho6 := hide ho6; clear hb6 hg6)
              | (go_at_call 48; refine (rising_big _ _ _ (outL L p ++ [x]) _ ho6.out.rd (by omega)).mono ?_; rintro e w8 ⟨A8, c8, rfl, ho8, hb8⟩; have HV8 := hide (HV6.out.below hb8); have HO8 := hide (ho6.out.below hb8); have HB8 := hide (HB6.out.trans (hb8.mono HB6.out.size)); clear ho8 hb8)
              | (at_builtin; refine append_row rfl _ _ rfl w.heap.size Ac i cc _ _ rfl rfl HV8.out (by omega) HB8.out.size rfl ?_; intro A9 c9 w9 hv9 hb9 hg9; have HO9 := hide (HO8.out.marked hg9 (own_apart HO8.out HV8.out)); have HB9 := hide (HB8.out.trans hb9); replace hv9 := hide hv9; clear hb9 hg9))
            go_roundw
            case rel => first | exact ⟨i + 1, outL L p ++ [x], A9, c9, fc + 1, A6, m + 1, c6, by omega, by omega, by go_num, rfl, by go_num, rfl, hv9, HO9, HG, HI2, HB9⟩ | ((repeat apply Exists.intro); refine ⟨?_, rfl⟩; exact ⟨i + 1, outL L p ++ [x], A9, c9, fc + 1, A6, m + 1, c6, by omega, by omega, by go_num, rfl, by go_num, rfl, hv9, HO9, HG, HI2, HB9⟩)
            case measure => first | (simp [intOf]; done) | (simp [intOf]; omega)
      · have HBx := hide hb
        by_cases h0 : 0 ≤ p
        · have HF : Hid (plRun k xs ps n = none) := plRun_none k xs ps (i + 1) n (HSt.out.trans (step_hit_bad HBx.out h0)) (by omega)
          clear hb
          replace hm := hide hm
          go_wp2_with (go_at_call 62; refine (contains_any _ _ _ L _ _ HO.out.rd (by omega)).mono ?_; rintro e w1 ⟨rfl, rfl⟩; rw [HBx.out])
          go_ret3
          exact RetR.of HB.out (by rw [HF.out]; rfl)
        · have HG : Hid (plRun k xs ps (i + 1) = some L) := HSt.out.trans (step_hit HBx.out h0)
          clear hb
          replace hm := hide hm
          go_wp2_with (first
            | (go_at_call 62; refine (contains_any _ _ _ L _ _ HO.out.rd (by omega)).mono ?_; rintro e w1 ⟨rfl, rfl⟩; rw [HBx.out])
            | (go_at_call 48; refine (rising_big _ _ _ L _ HO.out.rd (by omega)).mono ?_; rintro e w8 ⟨A8, c8, rfl, ho8, hb8⟩; have HV8 := hide (HV.out.below hb8); have HO8 := hide (HO.out.below hb8); have HB8 := hide (HB.out.trans (hb8.mono HB.out.size)); clear ho8 hb8)
            | (at_builtin; refine append_row rfl _ _ rfl w.heap.size Ac i cc _ _ rfl rfl HV8.out (by omega) HB8.out.size rfl ?_; intro A9 c9 w9 hv9 hb9 hg9; have HO9 := hide (HO8.out.marked hg9 (own_apart HO8.out HV8.out)); have HB9 := hide (HB8.out.trans hb9); replace hv9 := hide hv9; clear hb9 hg9))
          go_roundw
          case rel => first | exact ⟨i + 1, L, A9, c9, fc, An, m, cn, by omega, by omega, by go_num, rfl, rfl, rfl, hv9, HO9, HG, HI, HB9⟩ | ((repeat apply Exists.intro); refine ⟨?_, rfl⟩; exact ⟨i + 1, L, A9, c9, fc, An, m, cn, by omega, by omega, by go_num, rfl, rfl, rfl, hv9, HO9, HG, HI, HB9⟩)
          case measure => first | (simp [intOf]; done) | (simp [intOf]; omega)
    · obtain rfl : i = n := by omega
      go_wp2
      go_ret3
      exact RetR.of HB.out (by rw [HL.out]; rfl)
end Go.Proofs.Ytbceekcfokgmpaa
