/- For every list of numbers FnExactMeanFrac returns true, and nothing that was in memory changes; no conditions beyond what the given row says. -/
import Derived.Test.YtainbffcnaafkaaMean
namespace Go.Proofs.Ytainbffcnaafkaa.fnExactMeanFrac
open Go.ChangeShapes Go.WideShapes Go.ChangeAt Go.RowKit
open Go.ChangeMaps (open_string shut_string)
set_option linter.unusedVariables false

set_option maxHeartbeats 1600000 in
theorem walk_yes (w : World) (a0 : Option Addr) (len0 cap0 : Nat) (z0 : List Int) (r0 : RdI w a0 len0 z0) (n0 : len0 ≤ 1048576) (n1 : 1 ≤ len0) (n2 : len0 ≤ 100) (hok : Hid (∀ j, j < z0.length → mOk (z0.getD j 0) = true)) :
    Calls Try.prog 11 #[.slice a0 len0 cap0] w fun e w' => e = .returned (.bool true) ∧ Below w.heap.size w w' := by
  obtain ⟨X, HX⟩ : ∃ X : Int, Hid (mkN z0.sum (len0 : Int) = X) := ⟨_, rfl⟩
  obtain ⟨Y, HY⟩ : ∃ Y : Int, Hid (mkD z0.sum (len0 : Int) = Y) := ⟨_, rfl⟩
  obtain ⟨B, HB⟩ : ∃ B : Bool, Hid (mkB z0.sum (len0 : Int) = B) := ⟨_, rfl⟩
  have hB := hide (Below.refl w.heap.size w)
  go_enter Try.func11, Try.ntmps11
  go_wp2_with fail
  refine (toIntS_any _ _ _ z0 _ (r0.below (unhide hB)) n0).mono ?_
  rintro e W1 ⟨Ap0, cp0, rfl, op0, hb⟩
  replace op0 := op0.more (unhide hB).size
  replace hB := hide ((unhide hB).trans (hb.mono (unhide hB).size))
  clear hb
  go_wp2_with fail
  refine (specMeanFrac_yes _ _ _ z0 _ op0.rd n1 n2 hok.out).mono ?_
  rintro e W2 ⟨he, hb⟩
  rw [HX.out, HY.out, HB.out] at he
  subst he
  replace op0 := op0.below hb
  replace hB := hide ((unhide hB).trans (hb.mono (unhide hB).size))
  clear hb
  replace op0 := op0.below ((Below.refl _ _).alloc (Nat.le_refl _) (.cells #[.int .i64 X, .int .i64 Y] 26))
  replace hB := hide ((unhide hB).alloc (unhide hB).size (.cells #[.int .i64 X, .int .i64 Y] 26))
  go_wp2_with fail
  refine (toIntS_any _ _ _ z0 _ (r0.below (unhide hB)) n0).mono ?_
  rintro e W3 ⟨Ax0, cx0, rfl, ox0, hb⟩
  have sp0x0 := sep_new op0 ox0
  replace ox0 := ox0.more (unhide hB).size
  have f1 := two_new hb
  replace op0 := op0.below hb
  replace hB := hide ((unhide hB).trans (hb.mono (unhide hB).size))
  clear hb
  go_wp2_with fail
  refine (implMeanFrac_yes _ _ _ z0 _ ox0.rd n1 n2 hok.out).mono ?_
  rintro e W4 ⟨he, hb⟩
  rw [HX.out, HY.out, HB.out] at he
  subst he
  replace f1 := two_on f1 hb
  replace op0 := op0.below hb
  replace ox0 := ox0.below hb
  replace hB := hide ((unhide hB).trans (hb.mono (unhide hB).size))
  clear hb
  replace op0 := op0.below ((Below.refl _ _).alloc (Nat.le_refl _) (.cells #[.int .i64 X, .int .i64 Y] 26))
  replace ox0 := ox0.below ((Below.refl _ _).alloc (Nat.le_refl _) (.cells #[.int .i64 X, .int .i64 Y] 26))
  replace hB := hide ((unhide hB).alloc (unhide hB).size (.cells #[.int .i64 X, .int .i64 Y] 26))
  replace f1 := two_on f1 ((Below.refl _ _).alloc (Nat.le_refl _) (.cells #[.int .i64 X, .int .i64 Y] 26))
  go_wp2_with fail
  refine (eqFrac_same _ _ _).mono ?_
  rintro e W5 ⟨rfl, hb⟩
  replace f1 := two_on f1 hb
  have f2 := two_new hb
  replace op0 := op0.below hb
  replace ox0 := ox0.below hb
  replace hB := hide ((unhide hB).trans (hb.mono (unhide hB).size))
  clear hb
  go_wp2_with fail
  refine (toIntS_any _ _ _ z0 _ (r0.below (unhide hB)) n0).mono ?_
  rintro e W6 ⟨Ay0, cy0, rfl, oy0, hb⟩
  have sp0y0 := sep_new op0 oy0
  have sx0y0 := sep_new ox0 oy0
  replace oy0 := oy0.more (unhide hB).size
  replace f1 := two_on f1 hb
  replace f2 := two_on f2 hb
  replace op0 := op0.below hb
  replace ox0 := ox0.below hb
  replace hB := hide ((unhide hB).trans (hb.mono (unhide hB).size))
  clear hb
  go_wp2_with fail
  refine (eqIntS_same _ _ _ _ _ _ _ ox0.rd oy0.rd (by omega)).mono ?_
  rintro e W7 ⟨rfl, m7, rfl⟩
  replace op0 := OwnI.drewN op0 m7
  replace ox0 := OwnI.drewN ox0 m7
  replace oy0 := OwnI.drewN oy0 m7
  replace hB := hide (below_drewN (unhide hB) m7)
  go_wp2
  go_ret
  exact ⟨rfl, unhide hB⟩

set_option maxHeartbeats 1600000 in
theorem walk_no (w : World) (a0 : Option Addr) (len0 cap0 : Nat) (z0 : List Int) (r0 : RdI w a0 len0 z0) (n0 : len0 ≤ 1048576) (n1 : 1 ≤ len0) (n2 : len0 ≤ 100) (hno : Hid ((∀ j, j < z0.length → mOk (z0.getD j 0) = true) → False)) :
    Calls Try.prog 11 #[.slice a0 len0 cap0] w fun e w' => e = .returned (.bool true) ∧ Below w.heap.size w w' := by
  have hB := hide (Below.refl w.heap.size w)
  go_enter Try.func11, Try.ntmps11
  go_wp2_with fail
  refine (toIntS_any _ _ _ z0 _ (r0.below (unhide hB)) n0).mono ?_
  rintro e W1 ⟨Ap0, cp0, rfl, op0, hb⟩
  replace op0 := op0.more (unhide hB).size
  replace hB := hide ((unhide hB).trans (hb.mono (unhide hB).size))
  clear hb
  go_wp2_with fail
  refine (specMeanFrac_no _ _ _ z0 _ op0.rd n1 n2 hno.out).mono ?_
  rintro e W2 ⟨rfl, hb⟩
  replace op0 := op0.below hb
  replace hB := hide ((unhide hB).trans (hb.mono (unhide hB).size))
  clear hb
  replace op0 := op0.below ((Below.refl _ _).alloc (Nat.le_refl _) (.cells #[.int .i64 0, .int .i64 0] 26))
  replace hB := hide ((unhide hB).alloc (unhide hB).size (.cells #[.int .i64 0, .int .i64 0] 26))
  go_wp2_with fail
  refine (toIntS_any _ _ _ z0 _ (r0.below (unhide hB)) n0).mono ?_
  rintro e W3 ⟨Ax0, cx0, rfl, ox0, hb⟩
  have sp0x0 := sep_new op0 ox0
  replace ox0 := ox0.more (unhide hB).size
  have f1 := two_new hb
  replace op0 := op0.below hb
  replace hB := hide ((unhide hB).trans (hb.mono (unhide hB).size))
  clear hb
  go_wp2_with fail
  refine (implMeanFrac_no _ _ _ z0 _ ox0.rd n1 n2 hno.out).mono ?_
  rintro e W4 ⟨rfl, hb⟩
  replace f1 := two_on f1 hb
  replace op0 := op0.below hb
  replace ox0 := ox0.below hb
  replace hB := hide ((unhide hB).trans (hb.mono (unhide hB).size))
  clear hb
  replace op0 := op0.below ((Below.refl _ _).alloc (Nat.le_refl _) (.cells #[.int .i64 0, .int .i64 0] 26))
  replace ox0 := ox0.below ((Below.refl _ _).alloc (Nat.le_refl _) (.cells #[.int .i64 0, .int .i64 0] 26))
  replace hB := hide ((unhide hB).alloc (unhide hB).size (.cells #[.int .i64 0, .int .i64 0] 26))
  replace f1 := two_on f1 ((Below.refl _ _).alloc (Nat.le_refl _) (.cells #[.int .i64 0, .int .i64 0] 26))
  go_wp2_with fail
  refine (eqFrac_same _ _ _).mono ?_
  rintro e W5 ⟨rfl, hb⟩
  replace f1 := two_on f1 hb
  have f2 := two_new hb
  replace op0 := op0.below hb
  replace ox0 := ox0.below hb
  replace hB := hide ((unhide hB).trans (hb.mono (unhide hB).size))
  clear hb
  go_wp2_with fail
  refine (toIntS_any _ _ _ z0 _ (r0.below (unhide hB)) n0).mono ?_
  rintro e W6 ⟨Ay0, cy0, rfl, oy0, hb⟩
  have sp0y0 := sep_new op0 oy0
  have sx0y0 := sep_new ox0 oy0
  replace oy0 := oy0.more (unhide hB).size
  replace f1 := two_on f1 hb
  replace f2 := two_on f2 hb
  replace op0 := op0.below hb
  replace ox0 := ox0.below hb
  replace hB := hide ((unhide hB).trans (hb.mono (unhide hB).size))
  clear hb
  go_wp2_with fail
  refine (eqIntS_same _ _ _ _ _ _ _ ox0.rd oy0.rd (by omega)).mono ?_
  rintro e W7 ⟨rfl, m7, rfl⟩
  replace op0 := OwnI.drewN op0 m7
  replace ox0 := OwnI.drewN ox0 m7
  replace oy0 := OwnI.drewN oy0 m7
  replace hB := hide (below_drewN (unhide hB) m7)
  go_wp2
  go_ret
  exact ⟨rfl, unhide hB⟩

set_option maxHeartbeats 1600000 in
theorem walk_len (w : World) (a0 : Option Addr) (len0 cap0 : Nat) (z0 : List Int) (r0 : RdI w a0 len0 z0) (n0 : len0 ≤ 1048576) (h : Hid (¬ (1 ≤ len0 ∧ len0 ≤ 100))) :
    Calls Try.prog 11 #[.slice a0 len0 cap0] w fun e w' => e = .returned (.bool true) ∧ Below w.heap.size w w' := by
  have hB := hide (Below.refl w.heap.size w)
  go_enter Try.func11, Try.ntmps11
  go_wp2_with fail
  refine (toIntS_any _ _ _ z0 _ (r0.below (unhide hB)) n0).mono ?_
  rintro e W1 ⟨Ap0, cp0, rfl, op0, hb⟩
  replace op0 := op0.more (unhide hB).size
  replace hB := hide ((unhide hB).trans (hb.mono (unhide hB).size))
  clear hb
  go_wp2_with fail
  refine (specMeanFrac_len _ _ _ _ n0 h.out).mono ?_
  rintro e W2 ⟨rfl, hb⟩
  replace op0 := op0.below hb
  replace hB := hide ((unhide hB).trans (hb.mono (unhide hB).size))
  clear hb
  replace op0 := op0.below ((Below.refl _ _).alloc (Nat.le_refl _) (.cells #[.int .i64 0, .int .i64 0] 26))
  replace hB := hide ((unhide hB).alloc (unhide hB).size (.cells #[.int .i64 0, .int .i64 0] 26))
  go_wp2_with fail
  refine (toIntS_any _ _ _ z0 _ (r0.below (unhide hB)) n0).mono ?_
  rintro e W3 ⟨Ax0, cx0, rfl, ox0, hb⟩
  have sp0x0 := sep_new op0 ox0
  replace ox0 := ox0.more (unhide hB).size
  have f1 := two_new hb
  replace op0 := op0.below hb
  replace hB := hide ((unhide hB).trans (hb.mono (unhide hB).size))
  clear hb
  go_wp2_with fail
  refine (implMeanFrac_len _ _ _ _ n0 h.out).mono ?_
  rintro e W4 ⟨rfl, hb⟩
  replace f1 := two_on f1 hb
  replace op0 := op0.below hb
  replace ox0 := ox0.below hb
  replace hB := hide ((unhide hB).trans (hb.mono (unhide hB).size))
  clear hb
  replace op0 := op0.below ((Below.refl _ _).alloc (Nat.le_refl _) (.cells #[.int .i64 0, .int .i64 0] 26))
  replace ox0 := ox0.below ((Below.refl _ _).alloc (Nat.le_refl _) (.cells #[.int .i64 0, .int .i64 0] 26))
  replace hB := hide ((unhide hB).alloc (unhide hB).size (.cells #[.int .i64 0, .int .i64 0] 26))
  replace f1 := two_on f1 ((Below.refl _ _).alloc (Nat.le_refl _) (.cells #[.int .i64 0, .int .i64 0] 26))
  go_wp2_with fail
  refine (eqFrac_same _ _ _).mono ?_
  rintro e W5 ⟨rfl, hb⟩
  replace f1 := two_on f1 hb
  have f2 := two_new hb
  replace op0 := op0.below hb
  replace ox0 := ox0.below hb
  replace hB := hide ((unhide hB).trans (hb.mono (unhide hB).size))
  clear hb
  go_wp2_with fail
  refine (toIntS_any _ _ _ z0 _ (r0.below (unhide hB)) n0).mono ?_
  rintro e W6 ⟨Ay0, cy0, rfl, oy0, hb⟩
  have sp0y0 := sep_new op0 oy0
  have sx0y0 := sep_new ox0 oy0
  replace oy0 := oy0.more (unhide hB).size
  replace f1 := two_on f1 hb
  replace f2 := two_on f2 hb
  replace op0 := op0.below hb
  replace ox0 := ox0.below hb
  replace hB := hide ((unhide hB).trans (hb.mono (unhide hB).size))
  clear hb
  go_wp2_with fail
  refine (eqIntS_same _ _ _ _ _ _ _ ox0.rd oy0.rd (by omega)).mono ?_
  rintro e W7 ⟨rfl, m7, rfl⟩
  replace op0 := OwnI.drewN op0 m7
  replace ox0 := OwnI.drewN ox0 m7
  replace oy0 := OwnI.drewN oy0 m7
  replace hB := hide (below_drewN (unhide hB) m7)
  go_wp2
  go_ret
  exact ⟨rfl, unhide hB⟩

theorem walk (w : World) (a0 : Option Addr) (len0 cap0 : Nat) (z0 : List Int) (w0 : InI w a0 len0 cap0 z0) :
    Calls Try.prog 11 #[.slice a0 len0 cap0] w fun e w' => e = .returned (.bool true) ∧ Below w.heap.size w w' := by
  by_cases c0 : (1048576 : Int) < len0
  · go_enter Try.func11, Try.ntmps11
    go_wp2
    go_ret
    exact ⟨rfl, Below.refl _ _⟩
  · have n0 : len0 ≤ 1048576 := by omega
    by_cases h : 1 ≤ len0 ∧ len0 ≤ 100
    · by_cases hok : ∀ j, j < z0.length → mOk (z0.getD j 0) = true
      · exact walk_yes w a0 len0 cap0 z0 w0.1 n0 h.1 h.2 hok
      · exact walk_no w a0 len0 cap0 z0 w0.1 n0 h.1 h.2 hok
    · exact walk_len w a0 len0 cap0 z0 w0.1 n0 h

set_option maxRecDepth 100000 in
theorem lifted (os : Os) (started : os.Started) (H : Type) (enc : TypeId × Value → H) :
    ReturnsInHanded {} Try.checked os 11 .any (Rows.fnExactMeanFracSpec.pre6 enc Try.prog Try.f11 Rows.fnExactMeanFracRow.domain false) (Rows.fnExactMeanFracSpec.post enc Try.prog Try.f11 false true false false) := by
  refine returnsInHanded_of_change (C := Try.checked) own started (by kernel_rfl) Try.func11
    (ChangeSpec.witness6 (enc := enc) (C := Try.checked) false ⟨#[], #[.slice none 0 0], []⟩ 8 (by kernel_rfl) (by kernel_rfl) (by kernel_rfl) (by kernel_rfl)) ?_
  intro W base args ds gs before hval0 hW hcnd _
  have hval : ∀ (j : Nat) t v, Try.f11.params[j]? = some t → args[j]? = some v → Value.okWide Try.prog W .any base t v := hval0
  have hW' := hW
  obtain ⟨p, q, hA0, hV, rfl, hfz, hnd⟩ := hW
  have hA : DataW.TrodAll enc Try.prog W 0 (fun _ => true) true Try.f11.params.toList args.toList ds p := hA0
  rw [Try.params11] at hA hval
  obtain ⟨v0, vs0, d0, ds0, p0, q0, hargs, rfl, rfl, h0, r0⟩ := trodAll_cons hA
  obtain ⟨rfl, rfl, rfl⟩ := trodAll_nil r0
  obtain rfl : args = #[v0] := by cases args; simp_all
  obtain ⟨rfl, rfl⟩ := trodVars_none hV
  have k0 := h0
  have lt0 : ∀ x ∈ p0, x.block < W.heap.size := by obtain ⟨m, hm⟩ := k0; exact DataW.trod_lt m _ _ _ hm
  obtain ⟨a0, len0, cap0, rfl⟩ := okWide_slice Try.underlying36 (hval 0 36 v0 rfl rfl)
  obtain ⟨z0, w0⟩ := row_of_ints h0
  clear hA0 hval0
  refine (walk W a0 len0 cap0 z0 w0).mono fun e W' ⟨he, bel⟩ => ?_
  subst he
  exact ⟨_, rfl, _, _, _, [], _, [], hW', trodAll_mk1 (shut_bool Try.underlying4 _), (trodAll_cons_mk (Below.trod laidOut (by kernel_rfl) (of_decide_eq_true (by kernel_rfl)) k0 bel lt0) trodAll_mk0), rfl, bel.frame _, fun h => by cases h⟩

theorem over : Rows.fnExactMeanFracRow.holds Try.pinned (OpenSpec.ofChange Rows.fnExactMeanFracSpec) :=
  OpenClaim.holds_of_wide 11 Try.f11 rfl rfl rfl rfl rfl rfl rfl ⟨rfl, rfl, rfl, rfl, rfl⟩ rfl rfl rfl rfl rfl (by kernel_rfl) Try.func11 (by kernel_rfl)
    (of_decide_eq_true (by kernel_rfl)) (by unfold Func.isWrapper; first | (rw [if_pos (by decide +kernel)]; kernel_rfl) | (rw [if_neg (by decide +kernel)]; exact ⟨rfl, rfl⟩))
    (fun os started H enc _ => lifted os started H enc)

theorem proved : Rows.FnExactMeanFracSaid := over
#print axioms proved
end Go.Proofs.Ytainbffcnaafkaa.fnExactMeanFrac
