/- For every number of pages, number of items, sequence and plan FnExactIsPlan returns true, and nothing that was in memory changes; no conditions beyond what the given row says. -/
import Derived.Test.YtbceekcfokgmpaaPlanF
import Derived.Test.YtbceekcfokgmpaaMarks
namespace Go.Proofs.Ytbceekcfokgmpaa.fnExactIsPlan
open Go.ChangeShapes Go.WideShapes Go.ChangeAt Go.RowKit
open Go.ChangeMaps (open_string shut_string)
set_option linter.unusedVariables false

set_option maxHeartbeats 1600000 in
theorem walk (w : World) (a0 : Int) (w0 : (Lit.int .i64 a0).wf = true) (a1 : Int) (w1 : (Lit.int .i64 a1).wf = true) (a2 : Option Addr) (len2 cap2 : Nat) (z2 : List Int) (w2 : InI w a2 len2 cap2 z2) (a3 : Option Addr) (len3 cap3 : Nat) (z3 : List Int) (w3 : InI w a3 len3 cap3 z3) :
    Calls Try.prog 11 #[.int .i64 a0, .int .i64 a1, .slice a2 len2 cap2, .slice a3 len3 cap3] w fun e w' => e = .returned (.bool true) ∧ Below w.heap.size w w' := by
  by_cases c2 : (1048576 : Int) < len2
  · go_enter Try.func11, Try.ntmps11
    go_wp2
    go_ret
    exact ⟨rfl, Below.refl _ _⟩
  by_cases c3 : (1048576 : Int) < len3
  · go_enter Try.func11, Try.ntmps11
    go_wp2
    go_ret
    exact ⟨rfl, Below.refl _ _⟩
  have n2 : len2 ≤ 1048576 := by omega
  obtain ⟨r2, _, _, bd2⟩ := w2
  replace bd2 := hide bd2
  have n3 : len3 ≤ 1048576 := by omega
  obtain ⟨r3, _, _, bd3⟩ := w3
  replace bd3 := hide bd3
  have b0 := bd64 w0
  clear w0
  have b1 := bd64 w1
  clear w1
  have hB := hide (Below.refl w.heap.size w)
  obtain ⟨B1, B2, HV⟩ : ∃ (B1 B2 : Bool), Hid (isPlanV a0 a1 z2 z3 = (B1, B2)) := ⟨_, _, rfl⟩
  go_enter Try.func11, Try.ntmps11
  go_wp2_with fail
  refine (toIntS_any _ _ _ z2 _ (r2.below (unhide hB)) n2).mono ?_
  rintro e W1 ⟨Ap2, cp2, rfl, op2, hb⟩
  replace op2 := op2.more (unhide hB).size
  replace hB := hide ((unhide hB).trans (hb.mono (unhide hB).size))
  clear hb
  go_wp2_with fail
  refine (toIntS_any _ _ _ z3 _ (r3.below (unhide hB)) n3).mono ?_
  rintro e W2 ⟨Ap3, cp3, rfl, op3, hb⟩
  have sp2p3 := sep_new op2 op3
  replace op3 := op3.more (unhide hB).size
  replace op2 := op2.below hb
  replace hB := hide ((unhide hB).trans (hb.mono (unhide hB).size))
  clear hb
  go_wp2_with fail
  refine (spec_IsPlan a0 a1 _ _ _ z2 _ _ _ z3 _ op2.rd n2 op3.rd n3).mono ?_
  rintro e W3 ⟨he, hb⟩
  rw [HV.out] at he
  subst he
  replace op2 := op2.below hb
  replace op3 := op3.below hb
  replace hB := hide ((unhide hB).trans (hb.mono (unhide hB).size))
  clear hb
  go_wp2_with fail
  refine (toIntS_any _ _ _ z2 _ (r2.below (unhide hB)) n2).mono ?_
  rintro e W4 ⟨Ax2, cx2, rfl, ox2, hb⟩
  have sp2x2 := sep_new op2 ox2
  have sp3x2 := sep_new op3 ox2
  replace ox2 := ox2.more (unhide hB).size
  replace op2 := op2.below hb
  replace op3 := op3.below hb
  replace hB := hide ((unhide hB).trans (hb.mono (unhide hB).size))
  clear hb
  go_wp2_with fail
  refine (toIntS_any _ _ _ z3 _ (r3.below (unhide hB)) n3).mono ?_
  rintro e W5 ⟨Ax3, cx3, rfl, ox3, hb⟩
  have sp2x3 := sep_new op2 ox3
  have sp3x3 := sep_new op3 ox3
  have sx2x3 := sep_new ox2 ox3
  replace ox3 := ox3.more (unhide hB).size
  replace op2 := op2.below hb
  replace op3 := op3.below hb
  replace ox2 := ox2.below hb
  replace hB := hide ((unhide hB).trans (hb.mono (unhide hB).size))
  clear hb
  go_wp2_with fail
  refine (impl_IsPlan a0 a1 _ _ _ z2 _ _ _ z3 _ ox2.rd n2 ox3.rd n3).mono ?_
  rintro e W6 ⟨he, hb⟩
  rw [HV.out] at he
  subst he
  replace op2 := op2.below hb
  replace op3 := op3.below hb
  replace ox2 := ox2.below hb
  replace ox3 := ox3.below hb
  replace hB := hide ((unhide hB).trans (hb.mono (unhide hB).size))
  clear hb
  go_wp2_with fail
  refine (toIntS_any _ _ _ z2 _ (r2.below (unhide hB)) n2).mono ?_
  rintro e W7 ⟨Ay2, cy2, rfl, oy2, hb⟩
  have sp2y2 := sep_new op2 oy2
  have sp3y2 := sep_new op3 oy2
  have sx2y2 := sep_new ox2 oy2
  have sx3y2 := sep_new ox3 oy2
  replace oy2 := oy2.more (unhide hB).size
  replace op2 := op2.below hb
  replace op3 := op3.below hb
  replace ox2 := ox2.below hb
  replace ox3 := ox3.below hb
  replace hB := hide ((unhide hB).trans (hb.mono (unhide hB).size))
  clear hb
  go_wp2_with fail
  refine (eqIntS_same _ _ _ _ _ _ _ ox2.rd oy2.rd (by omega)).mono ?_
  rintro e W8 ⟨rfl, m8, rfl⟩
  replace op2 := OwnI.drewN op2 m8
  replace op3 := OwnI.drewN op3 m8
  replace ox2 := OwnI.drewN ox2 m8
  replace ox3 := OwnI.drewN ox3 m8
  replace oy2 := OwnI.drewN oy2 m8
  replace hB := hide (below_drewN (unhide hB) m8)
  go_wp2_with fail
  refine (toIntS_any _ _ _ z3 _ (r3.below (unhide hB)) n3).mono ?_
  rintro e W9 ⟨Ay3, cy3, rfl, oy3, hb⟩
  have sp2y3 := sep_new op2 oy3
  have sp3y3 := sep_new op3 oy3
  have sx2y3 := sep_new ox2 oy3
  have sx3y3 := sep_new ox3 oy3
  have sy2y3 := sep_new oy2 oy3
  replace oy3 := oy3.more (unhide hB).size
  replace op2 := op2.below hb
  replace op3 := op3.below hb
  replace ox2 := ox2.below hb
  replace ox3 := ox3.below hb
  replace oy2 := oy2.below hb
  replace hB := hide ((unhide hB).trans (hb.mono (unhide hB).size))
  clear hb
  go_wp2_with fail
  refine (eqIntS_same _ _ _ _ _ _ _ ox3.rd oy3.rd (by omega)).mono ?_
  rintro e W10 ⟨rfl, m10, rfl⟩
  replace op2 := OwnI.drewN op2 m10
  replace op3 := OwnI.drewN op3 m10
  replace ox2 := OwnI.drewN ox2 m10
  replace ox3 := OwnI.drewN ox3 m10
  replace oy2 := OwnI.drewN oy2 m10
  replace oy3 := OwnI.drewN oy3 m10
  replace hB := hide (below_drewN (unhide hB) m10)
  go_wp2
  go_ret
  exact ⟨rfl, unhide hB⟩

set_option maxRecDepth 100000 in
theorem lifted (os : Os) (started : os.Started) (H : Type) (enc : TypeId × Value → H) :
    ReturnsInHanded {} Try.checked os 11 .any (Rows.fnExactIsPlanSpec.pre6 enc Try.prog Try.f11 Rows.fnExactIsPlanRow.domain false) (Rows.fnExactIsPlanSpec.post enc Try.prog Try.f11 false true false false) := by
  refine returnsInHanded_of_change (C := Try.checked) own started (by kernel_rfl) Try.func11
    (ChangeSpec.witness6 (enc := enc) (C := Try.checked) false ⟨#[], #[.int .i64 0, .int .i64 0, .slice none 0 0, .slice none 0 0], []⟩ 8 (by kernel_rfl) (by kernel_rfl) (by kernel_rfl) (by kernel_rfl)) ?_
  intro W base args ds gs before hval0 hW hcnd _
  have hval : ∀ (j : Nat) t v, Try.f11.params[j]? = some t → args[j]? = some v → Value.okWide Try.prog W .any base t v := hval0
  have hW' := hW
  obtain ⟨p, q, hA0, hV, rfl, hfz, hnd⟩ := hW
  have hA : DataW.TrodAll enc Try.prog W 0 (fun _ => true) true Try.f11.params.toList args.toList ds p := hA0
  rw [Try.params11] at hA hval
  obtain ⟨v0, vs0, d0, ds0, p0, q0, hargs, rfl, rfl, h0, r0⟩ := trodAll_cons hA
  obtain ⟨v1, vs1, d1, ds1, p1, q1, rfl, rfl, rfl, h1, r1⟩ := trodAll_cons r0
  obtain ⟨v2, vs2, d2, ds2, p2, q2, rfl, rfl, rfl, h2, r2⟩ := trodAll_cons r1
  obtain ⟨v3, vs3, d3, ds3, p3, q3, rfl, rfl, rfl, h3, r3⟩ := trodAll_cons r2
  obtain ⟨rfl, rfl, rfl⟩ := trodAll_nil r3
  obtain rfl : args = #[v0, v1, v2, v3] := by cases args; simp_all
  obtain ⟨rfl, rfl⟩ := trodVars_none hV
  obtain ⟨a0, rfl, rfl, rfl, w0⟩ := open_int Try.underlying3 (hval 0 3 v0 rfl rfl) h0
  obtain ⟨a1, rfl, rfl, rfl, w1⟩ := open_int Try.underlying3 (hval 1 3 v1 rfl rfl) h1
  have k2 := h2
  have lt2 : ∀ x ∈ p2, x.block < W.heap.size := by obtain ⟨m, hm⟩ := k2; exact DataW.trod_lt m _ _ _ hm
  obtain ⟨a2, len2, cap2, rfl⟩ := okWide_slice Try.underlying22 (hval 2 22 v2 rfl rfl)
  obtain ⟨z2, w2⟩ := row_of_ints h2
  have k3 := h3
  have lt3 : ∀ x ∈ p3, x.block < W.heap.size := by obtain ⟨m, hm⟩ := k3; exact DataW.trod_lt m _ _ _ hm
  obtain ⟨a3, len3, cap3, rfl⟩ := okWide_slice Try.underlying22 (hval 3 22 v3 rfl rfl)
  obtain ⟨z3, w3⟩ := row_of_ints h3
  clear hA0 hval0
  refine (walk W a0 w0 a1 w1 a2 len2 cap2 z2 w2 a3 len3 cap3 z3 w3).mono fun e W' ⟨he, bel⟩ => ?_
  subst he
  exact ⟨_, rfl, _, _, _, [], _, [], hW', trodAll_mk1 (shut_bool Try.underlying4 _), (trodAll_cons_mk (shut_int Try.underlying3 w0) (trodAll_cons_mk (shut_int Try.underlying3 w1) (trodAll_cons_mk (Below.trod laidOut (by kernel_rfl) (of_decide_eq_true (by kernel_rfl)) k2 bel lt2) (trodAll_cons_mk (Below.trod laidOut (by kernel_rfl) (of_decide_eq_true (by kernel_rfl)) k3 bel lt3) trodAll_mk0)))), rfl, bel.frame _, fun h => by cases h⟩

theorem over : Rows.fnExactIsPlanRow.holds Try.pinned (OpenSpec.ofChange Rows.fnExactIsPlanSpec) :=
  OpenClaim.holds_of_wide 11 Try.f11 rfl rfl rfl rfl rfl rfl rfl ⟨rfl, rfl, rfl, rfl, rfl⟩ rfl rfl rfl rfl rfl (by kernel_rfl) Try.func11 (by kernel_rfl)
    (of_decide_eq_true (by kernel_rfl)) (by unfold Func.isWrapper; first | (rw [if_pos (by decide +kernel)]; kernel_rfl) | (rw [if_neg (by decide +kernel)]; exact ⟨rfl, rfl⟩))
    (fun os started H enc _ => lifted os started H enc)

theorem proved : Rows.FnExactIsPlanSaid := over
#print axioms proved
end Go.Proofs.Ytbceekcfokgmpaa.fnExactIsPlan
