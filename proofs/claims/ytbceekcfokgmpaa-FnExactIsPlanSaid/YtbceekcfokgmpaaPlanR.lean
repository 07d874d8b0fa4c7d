/- The run of a plan, by the reference and by the program; for slices of at most 60 numbers. -/
import Derived.Test.YtbceekcfokgmpaaPlanW
namespace Go.Proofs.Ytbceekcfokgmpaa
open Go.RowKit Go.Lib Go.Sort Go.Shelf
def RetR (w : World) (ok : Bool) (e : Ending) (w' : World) : Prop := ∃ V F : Value, e = .returned (.tuple #[V, F, .bool ok]) ∧ Below w.heap.size w w'
theorem RetR.of {w w' : World} {a b : Bool} {V F : Value} (hb : Below w.heap.size w w') (h : a = b) : RetR w b (.returned (.tuple #[V, F, .bool a])) w' := by
  subst h
  exact ⟨V, F, rfl, hb⟩
set_option maxHeartbeats 6400000 in
theorem l5Run_any (k : Int) (A1 : Option Addr) (n c1 : Nat) (xs : List Int) (A2 : Option Addr) (c2 : Nat) (ps : List Int) (w : World) (hr1 : RdI w A1 n xs) (hr2 : RdI w A2 n ps) (hn : n ≤ 60) (hk1 : 1 ≤ k) (hk6 : k ≤ 6) (hxb : ∀ i, i < n → 0 ≤ xs.getD i 0) :
    Calls Try.prog 72 #[.int .i64 k, .slice A1 n c1, .slice A2 n c2] w (RetR w (plRun k xs ps n).isSome) := by
  have HX := hide hr1
  have HP := hide hr2
  have HXB := hide hxb
  clear hr1 hr2 hxb
  go_enter Try.func72, Try.ntmps72
  go_wp2_with fail
  have HV0 : Hid (OwnV ((w.alloc (.cells #[] 22)).alloc (.cells #[] 3)) w.heap.size (some ⟨w.heap.size, 0, none⟩) 0 0) := OwnV.below (ownV_empty w w.heap.size (Nat.le_refl _) #[] rfl) ((Below.refl _ _).alloc (Nat.le_refl _) _)
  have HO0 : Hid (OwnI ((w.alloc (.cells #[] 22)).alloc (.cells #[] 3)) w.heap.size (some ⟨w.heap.size + 1, 0, none⟩) 0 0 (riseL [])) := by
    have := own_empty (w.alloc (.cells #[] 22)) w.heap.size (by simp) #[] rfl
    rw [World.size_alloc] at this
    exact this
  go_loopw [9, 10, 11, 12, 13] (fun cs f nw i _ wr => ∃ (i' : Nat) (L : List Int) (Ac : Option Addr) (cc fc : Nat) (An : Option Addr) (m cn : Nat), i' ≤ n ∧ fc ≤ i' ∧ i = .int .i64 i' ∧ cs = .slice Ac i' cc ∧ f = .int .i64 fc ∧ nw = .slice An m cn ∧ Hid (OwnV wr w.heap.size Ac i' cc) ∧ Hid (OwnI wr w.heap.size An m cn (riseL L)) ∧ Hid (plRun k xs ps i' = some L) ∧ Hid (PlInv k L) ∧ Hid (Below w.heap.size w wr)) (fun _ _ _ i _ _ => n - (intOf i).toNat)
  case atStart => exact ⟨0, [], _, _, 0, _, _, _, Nat.zero_le _, Nat.zero_le _, rfl, rfl, rfl, rfl, HV0, HO0, rfl, ⟨List.nodup_nil, fun y hy => (by cases hy), by simp; omega⟩, (by repeat (first | exact Below.refl _ _ | (refine below_drewN ?_ _) | (refine Below.drew ?_) | (refine Below.alloc ?_ (by first | exact Nat.le_refl _ | (simp; done) | (simp; omega) | omega) _) | (refine Below.setCell ?_ (by first | exact Nat.le_refl _ | (simp; done) | (simp; omega) | omega) _) | (refine Below.trans ?_ (Below.mono (by assumption) (by first | exact Nat.le_refl _ | (simp; done) | (simp; omega) | omega)))))⟩
  case round =>
    obtain ⟨i, L, Ac, cc, fc, An, m, cn, hi, hfc, rfl, rfl, rfl, rfl, HV, HO, HL, HI, HB⟩ := hrel
    by_cases hlt : i < n
    · have hlt' : (i : Int) < (n : Int) := by omega
      obtain ⟨xb, xo, hxA, hxb, hxc⟩ := HX.out.2 (by omega)
      subst hxA
      obtain ⟨pb, po, hpA, hpb, hpc⟩ := HP.out.2 (by omega)
      subst hpA
      obtain ⟨x, hx⟩ : ∃ x, Hid (xs.getD i 0 = x) := ⟨_, rfl⟩
      obtain ⟨p, hp⟩ : ∃ p, Hid (ps.getD i 0 = p) := ⟨_, rfl⟩
      have hx0 : 0 ≤ x := by rw [← hx.out]; exact HXB.out i hlt
      have hstep := plRun_some k xs ps i L HL.out
      rw [hx.out, hp.out] at hstep
      have HSt := hide hstep
      clear hstep
      have HCx := hide (fun (w' : World) (h : Below w.heap.size w w') => (show w'.cell? ⟨xb, xo + i, none⟩ = some (.int .i64 x) from (h.cell (p := ⟨xb, xo + i, none⟩) hxb).trans ((hxc i hlt).trans (by rw [hx.out]))))
      have HCp := hide (fun (w' : World) (h : Below w.heap.size w w') => (show w'.cell? ⟨pb, po + i, none⟩ = some (.int .i64 p) from (h.cell (p := ⟨pb, po + i, none⟩) hpb).trans ((hpc i hlt).trans (by rw [hp.out]))))
      clear hxc hpc hxb hpb
      have cx := HCx.out wr HB.out
      have cp := HCp.out wr HB.out
      obtain ⟨j1, j2, j3⟩ := HI.out
      replace j1 := hide j1
      replace j2 := hide j2
      obtain ⟨N, hN⟩ : ∃ N, Hid ((outL L p).length = N) := ⟨_, rfl⟩
      have hN2 : N ≤ 6 := by
        have : (outL L p).length ≤ L.length := List.length_filter_le _ _
        rw [← hN.out]
        omega
      have hm : m = L.length := by rw [← HO.out.len]; exact rise_len_nodup L j1.out
      have hm6 : m ≤ 6 := by omega
      cases hb : hasB L x
      · have HBx := hide hb
        by_cases h0 : 0 ≤ p
        · cases hq : hasB L p
          · have HBp := hide hq
            have HF : Hid (plRun k xs ps n = none) := plRun_none k xs ps (i + 1) n (HSt.out.trans (step_away HBx.out h0 HBp.out)) (by omega)
            clear hb hq
            replace hm := hide hm
            go_wp2_with (go_at_call 75; refine (l1Has_any _ _ _ (riseL L) _ _ HO.out.rd (by omega)).mono ?_; rintro e w1 ⟨rfl, rfl⟩; first | rw [hasB_rise, HBx.out] | rw [hasB_rise, HBp.out])
            go_ret3
            exact RetR.of (HB.out.alloc HB.out.size _) (by rw [HF.out]; rfl)
          · have HBp := hide hq
            have hno : ¬ (0 ≤ p ∧ hasB L p = false) := fun h => by rw [HBp.out] at h; exact absurd h.2 (by simp)
            replace hno := hide hno
            have HU : Hid (putL (outL (riseL L) p) x = riseL (outL L p ++ [x])) := by unfold Hid; rw [rise_snoc, rise_out]
            have HUl : Hid ((riseL (outL L p ++ [x])).length = N + 1) := by
              unfold Hid
              have hxn : x ∉ outL L p := fun hm2 => (hasB_not L x).1 HBx.out ((outL_mem L p x).1 hm2).1
              rw [rise_len_nodup _ (by
                rw [List.nodup_append]
                refine ⟨outL_nodup L p j1.out, by simp, fun a ha b hb2 => ?_⟩
                rw [List.mem_singleton] at hb2
                subst hb2
                intro e
                subst e
                exact hxn ha), List.length_append, hN.out]
              rfl
            have HO2l : (outL (riseL L) p).length ≤ 6 := by
              have h1 : (outL (riseL L) p).length ≤ (riseL L).length := List.length_filter_le _ _
              have h2 := HO.out.len
              omega
            clear hb hq
            replace hm := hide hm
            by_cases hkN : k < (N : Int) + 1
            · have HF : Hid (plRun k xs ps n = none) := plRun_none k xs ps (i + 1) n (HSt.out.trans (step_full HBx.out hno.out (by rw [hN.out]; exact hkN))) (by omega)
              go_wp2_with (first
                | (go_at_call 75; refine (l1Has_any _ _ _ (riseL L) _ _ HO.out.rd (by omega)).mono ?_; rintro e w1 ⟨rfl, rfl⟩; first | rw [hasB_rise, HBx.out] | rw [hasB_rise, HBp.out])
                | (go_at_call 93; refine (l5Out_any _ _ _ (riseL L) p _ HO.out.rd (by omega)).mono ?_; rintro e w5 ⟨A5, c5, rfl, ho5, hb5⟩; have HV5 := hide (HV.out.below hb5); have HO5 := hide (ho5.more HB.out.size); have HB5 := hide (HB.out.trans (hb5.mono HB.out.size)); have cx5 := HCx.out w5 HB5.out; clear ho5 hb5)
                | (go_at_call 79; refine (l1Put_any _ _ _ w.heap.size (outL (riseL L) p) x _ HO5.out HB5.out.size (by omega)).mono ?_; rintro e w6 ⟨A6, m6, c6, rfl, ho6, hb6⟩; rw [HU.out] at ho6; obtain rfl : m6 = N + 1 := ho6.len.symm.trans HUl.out; have HV6 := hide (HV5.out.below hb6); have HBf := hide (HB5.out.trans (hb6.mono HB5.out.size)); replace ho6 := hide ho6; clear hb6))
              go_ret3
              exact RetR.of (HBf.out.alloc HBf.out.size _) (by rw [HF.out]; rfl)
            · have HG : Hid (plRun k xs ps (i + 1) = some (outL L p ++ [x])) := HSt.out.trans (step_in HBx.out hno.out (by rw [hN.out]; exact hkN))
              have HI2 : Hid (PlInv k (outL L p ++ [x])) := plStep_inv k L _ x p hx0 HI.out (HSt.out.symm.trans HG.out)
              go_wp2_with (first
                | (go_at_call 75; refine (l1Has_any _ _ _ (riseL L) _ _ HO.out.rd (by omega)).mono ?_; rintro e w1 ⟨rfl, rfl⟩; first | rw [hasB_rise, HBx.out] | rw [hasB_rise, HBp.out])
                | (go_at_call 93; refine (l5Out_any _ _ _ (riseL L) p _ HO.out.rd (by omega)).mono ?_; rintro e w5 ⟨A5, c5, rfl, ho5, hb5⟩; have HV5 := hide (HV.out.below hb5); have HO5 := hide (ho5.more HB.out.size); have HB5 := hide (HB.out.trans (hb5.mono HB.out.size)); have cx5 := HCx.out w5 HB5.out; clear ho5 hb5)
                | (go_at_call 79; refine (l1Put_any _ _ _ w.heap.size (outL (riseL L) p) x _ HO5.out HB5.out.size (by omega)).mono ?_; rintro e w6 ⟨A6, m6, c6, rfl, ho6, hb6⟩; rw [HU.out] at ho6; obtain rfl : m6 = N + 1 := ho6.len.symm.trans HUl.out; have HV6 := hide (HV5.out.below hb6); have HBf := hide (HB5.out.trans (hb6.mono HB5.out.size)); replace ho6 := hide ho6; clear hb6)
                | (go_at_call 94; refine (l1Own_any _ _ _ (riseL (outL L p ++ [x])) _ ho6.out.rd (by omega)).mono ?_; rintro e w8 ⟨A8, c8, rfl, ho8, hb8⟩; rw [HUl.out]; have HV8 := hide (HV6.out.below hb8); have HO8 := hide (ho6.out.below hb8); have HB8 := hide (HBf.out.trans (hb8.mono HBf.out.size)); clear ho8 hb8)
                | (at_builtin; refine append_row rfl _ _ rfl w.heap.size Ac i cc _ _ rfl rfl HV8.out (by omega) HB8.out.size rfl ?_; intro A9 c9 w9 hv9 hb9 hg9; have HO9 := hide (HO8.out.marked hg9 (own_apart HO8.out HV8.out)); have HB9 := hide (HB8.out.trans hb9); replace hv9 := hide hv9; clear hb9 hg9))
              go_roundw
              case rel => first | exact ⟨i + 1, outL L p ++ [x], A9, c9, fc + 1, A6, N + 1, c6, by omega, by omega, by go_num, rfl, by go_num, rfl, hv9, HO9, HG, HI2, HB9⟩ | ((repeat apply Exists.intro); refine ⟨?_, rfl⟩; exact ⟨i + 1, outL L p ++ [x], A9, c9, fc + 1, A6, N + 1, c6, by omega, by omega, by go_num, rfl, by go_num, rfl, hv9, HO9, HG, HI2, HB9⟩)
              case measure => first | (simp [intOf]; done) | (simp [intOf]; omega)
        · have hp' : p < 0 := by omega
          have hout := outL_neg L p j2.out hp'
          have hno : ¬ (0 ≤ p ∧ hasB L p = false) := fun h => h0 h.1
          replace hno := hide hno
          have HU : Hid (putL (riseL L) x = riseL (outL L p ++ [x])) := by unfold Hid; rw [rise_snoc, hout]
          have HUl : Hid ((riseL (outL L p ++ [x])).length = N + 1) := by
            unfold Hid
            have hxn : x ∉ outL L p := fun hm2 => (hasB_not L x).1 HBx.out ((outL_mem L p x).1 hm2).1
            rw [rise_len_nodup _ (by
              rw [List.nodup_append]
              refine ⟨outL_nodup L p j1.out, by simp, fun a ha b hb2 => ?_⟩
              rw [List.mem_singleton] at hb2
              subst hb2
              intro e
              subst e
              exact hxn ha), List.length_append, hN.out]
            rfl
          clear hb hout
          replace hm := hide hm
          by_cases hkN : k < (N : Int) + 1
          · have HF : Hid (plRun k xs ps n = none) := plRun_none k xs ps (i + 1) n (HSt.out.trans (step_full HBx.out hno.out (by rw [hN.out]; exact hkN))) (by omega)
            go_wp2_with (first
              | (go_at_call 75; refine (l1Has_any _ _ _ (riseL L) _ _ HO.out.rd (by omega)).mono ?_; rintro e w1 ⟨rfl, rfl⟩; rw [hasB_rise, HBx.out])
              | (go_at_call 79; refine (l1Put_any _ _ _ w.heap.size (riseL L) x _ HO.out HB.out.size (by omega)).mono ?_; rintro e w6 ⟨A6, m6, c6, rfl, ho6, hb6⟩; rw [HU.out] at ho6; obtain rfl : m6 = N + 1 := ho6.len.symm.trans HUl.out; have HV6 := hide (HV.out.below hb6); have HBf := hide (HB.out.trans (hb6.mono HB.out.size)); replace ho6 := hide ho6; clear hb6))
            go_ret3
            exact RetR.of (HBf.out.alloc HBf.out.size _) (by rw [HF.out]; rfl)
          · have HG : Hid (plRun k xs ps (i + 1) = some (outL L p ++ [x])) := HSt.out.trans (step_in HBx.out hno.out (by rw [hN.out]; exact hkN))
            have HI2 : Hid (PlInv k (outL L p ++ [x])) := plStep_inv k L _ x p hx0 HI.out (HSt.out.symm.trans HG.out)
            go_wp2_with (first
              | (go_at_call 75; refine (l1Has_any _ _ _ (riseL L) _ _ HO.out.rd (by omega)).mono ?_; rintro e w1 ⟨rfl, rfl⟩; rw [hasB_rise, HBx.out])
              | (go_at_call 79; refine (l1Put_any _ _ _ w.heap.size (riseL L) x _ HO.out HB.out.size (by omega)).mono ?_; rintro e w6 ⟨A6, m6, c6, rfl, ho6, hb6⟩; rw [HU.out] at ho6; obtain rfl : m6 = N + 1 := ho6.len.symm.trans HUl.out; have HV6 := hide (HV.out.below hb6); have HBf := hide (HB.out.trans (hb6.mono HB.out.size)); replace ho6 := hide ho6; clear hb6)
              | (go_at_call 94; refine (l1Own_any _ _ _ (riseL (outL L p ++ [x])) _ ho6.out.rd (by omega)).mono ?_; rintro e w8 ⟨A8, c8, rfl, ho8, hb8⟩; rw [HUl.out]; have HV8 := hide (HV6.out.below hb8); have HO8 := hide (ho6.out.below hb8); have HB8 := hide (HBf.out.trans (hb8.mono HBf.out.size)); clear ho8 hb8)
              | (at_builtin; refine append_row rfl _ _ rfl w.heap.size Ac i cc _ _ rfl rfl HV8.out (by omega) HB8.out.size rfl ?_; intro A9 c9 w9 hv9 hb9 hg9; have HO9 := hide (HO8.out.marked hg9 (own_apart HO8.out HV8.out)); have HB9 := hide (HB8.out.trans hb9); replace hv9 := hide hv9; clear hb9 hg9))
            go_roundw
            case rel => first | exact ⟨i + 1, outL L p ++ [x], A9, c9, fc + 1, A6, N + 1, c6, by omega, by omega, by go_num, rfl, by go_num, rfl, hv9, HO9, HG, HI2, HB9⟩ | ((repeat apply Exists.intro); refine ⟨?_, rfl⟩; exact ⟨i + 1, outL L p ++ [x], A9, c9, fc + 1, A6, N + 1, c6, by omega, by omega, by go_num, rfl, by go_num, rfl, hv9, HO9, HG, HI2, HB9⟩)
            case measure => first | (simp [intOf]; done) | (simp [intOf]; omega)
      · have HBx := hide hb
        by_cases h0 : 0 ≤ p
        · have HF : Hid (plRun k xs ps n = none) := plRun_none k xs ps (i + 1) n (HSt.out.trans (step_hit_bad HBx.out h0)) (by omega)
          clear hb
          replace hm := hide hm
          go_wp2_with (go_at_call 75; refine (l1Has_any _ _ _ (riseL L) _ _ HO.out.rd (by omega)).mono ?_; rintro e w1 ⟨rfl, rfl⟩; rw [hasB_rise, HBx.out])
          go_ret3
          exact RetR.of (HB.out.alloc HB.out.size _) (by rw [HF.out]; rfl)
        · have HG : Hid (plRun k xs ps (i + 1) = some L) := HSt.out.trans (step_hit HBx.out h0)
          have hmk : ¬ k < (m : Int) := by omega
          clear hb
          replace hm := hide hm
          go_wp2_with (first
            | (go_at_call 75; refine (l1Has_any _ _ _ (riseL L) _ _ HO.out.rd (by omega)).mono ?_; rintro e w1 ⟨rfl, rfl⟩; rw [hasB_rise, HBx.out])
            | (go_at_call 94; refine (l1Own_any _ _ _ (riseL L) _ HO.out.rd (by omega)).mono ?_; rintro e w8 ⟨A8, c8, rfl, ho8, hb8⟩; have HV8 := hide (HV.out.below hb8); have HO8 := hide (HO.out.below hb8); have HB8 := hide (HB.out.trans (hb8.mono HB.out.size)); clear ho8 hb8)
            | (at_builtin; refine append_row rfl _ _ rfl w.heap.size Ac i cc _ _ rfl rfl HV8.out (by omega) HB8.out.size rfl ?_; intro A9 c9 w9 hv9 hb9 hg9; have HO9 := hide (HO8.out.marked hg9 (own_apart HO8.out HV8.out)); have HB9 := hide (HB8.out.trans hb9); replace hv9 := hide hv9; clear hb9 hg9))
          go_roundw
          case rel => first | exact ⟨i + 1, L, A9, c9, fc, An, m, cn, by omega, by omega, by go_num, rfl, rfl, rfl, hv9, HO9, HG, HI, HB9⟩ | ((repeat apply Exists.intro); refine ⟨?_, rfl⟩; exact ⟨i + 1, L, A9, c9, fc, An, m, cn, by omega, by omega, by go_num, rfl, rfl, rfl, hv9, HO9, HG, HI, HB9⟩)
          case measure => first | (simp [intOf]; done) | (simp [intOf]; omega)
    · obtain rfl : i = n := by omega
      go_wp2
      go_ret3
      exact RetR.of HB.out (by rw [HL.out]; rfl)

end Go.Proofs.Ytbceekcfokgmpaa
