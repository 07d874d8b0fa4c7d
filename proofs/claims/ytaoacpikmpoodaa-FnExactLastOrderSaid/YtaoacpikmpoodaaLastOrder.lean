/- For every input FnExactLastOrder returns true, and nothing that was in memory changes; no conditions beyond what the given row says. -/
import Derived.Test.YtaoacpikmpoodaaOrderC
import Derived.Test.YtaoacpikmpoodaaMarks
namespace Go.Proofs.Ytaoacpikmpoodaa.fnExactLastOrder
open Go.ChangeShapes Go.WideShapes Go.ChangeAt Go.RowKit
open Go.ChangeMaps (open_string shut_string)
set_option linter.unusedVariables false

set_option maxHeartbeats 1600000 in
theorem walk (w : World) (a0 : Int) (w0 : (Lit.int .i64 a0).wf = true) (a1 : Option Addr) (len1 cap1 : Nat) (z1 : List Int) (w1 : InI w a1 len1 cap1 z1) :
    Calls Try.prog 10 #[.int .i64 a0, .slice a1 len1 cap1] w fun e w' => e = .returned (.bool true) ∧ Below w.heap.size w w' := by
  by_cases c1 : (1048576 : Int) < len1
  · go_enter Try.func10, Try.ntmps10
    go_wp2
    go_ret
    exact ⟨rfl, Below.refl _ _⟩
  have n1 : len1 ≤ 1048576 := by omega
  obtain ⟨r1, _, _, bd1⟩ := w1
  replace bd1 := hide bd1
  have b0 := bd64 w0
  clear w0
  obtain ⟨ys, bb, HV⟩ : ∃ (ys : List Int) (bb : Bool), Hid (lastOrderV a0 z1 = (ys, bb)) := ⟨_, _, rfl⟩
  have hyl : ys.length ≤ 1048576 := by have := lastOrderV_len a0 z1 (by rw [r1.1]; exact n1); rw [HV.out] at this; exact this
  have hB := hide (Below.refl w.heap.size w)
  go_enter Try.func10, Try.ntmps10
  go_wp2_with fail
  refine (toIntS_any _ _ _ z1 _ (r1.below (unhide hB)) n1).mono ?_
  rintro e W1 ⟨Ap1, cp1, rfl, op1, hb⟩
  replace op1 := op1.more (unhide hB).size
  replace hB := hide ((unhide hB).trans (hb.mono (unhide hB).size))
  clear hb
  go_wp2_with fail
  refine (spec_LastOrder a0 _ _ _ z1 _ b0.1 b0.2 op1.rd n1 (unhide bd1)).mono ?_
  rintro e W2 ⟨Aw, cw, he, ow, hb⟩
  rw [HV.out] at he ow
  subst he
  have sp1w := sep_new op1 ow
  replace ow := ow.more (unhide hB).size
  replace op1 := op1.below hb
  replace hB := hide ((unhide hB).trans (hb.mono (unhide hB).size))
  clear hb
  go_wp2_with fail
  refine (toIntS_any _ _ _ z1 _ (r1.below (unhide hB)) n1).mono ?_
  rintro e W3 ⟨Ax1, cx1, rfl, ox1, hb⟩
  have sp1x1 := sep_new op1 ox1
  have swx1 := sep_new ow ox1
  replace ox1 := ox1.more (unhide hB).size
  replace op1 := op1.below hb
  replace ow := ow.below hb
  replace hB := hide ((unhide hB).trans (hb.mono (unhide hB).size))
  clear hb
  go_wp2_with fail
  refine (impl_LastOrder a0 _ _ _ z1 _ b0.1 b0.2 ox1.rd n1 (unhide bd1)).mono ?_
  rintro e W4 ⟨Ag, cg, he, og, hb⟩
  rw [HV.out] at he og
  subst he
  have sp1g := sep_new op1 og
  have swg := sep_new ow og
  have sx1g := sep_new ox1 og
  replace og := og.more (unhide hB).size
  replace op1 := op1.below hb
  replace ow := ow.below hb
  replace ox1 := ox1.below hb
  replace hB := hide ((unhide hB).trans (hb.mono (unhide hB).size))
  clear hb
  go_wp2_with fail
  refine (eqIntS_same _ _ _ _ _ _ _ og.rd ow.rd (by omega)).mono ?_
  rintro e W5 ⟨rfl, m5, rfl⟩
  replace op1 := OwnI.drewN op1 m5
  replace ow := OwnI.drewN ow m5
  replace ox1 := OwnI.drewN ox1 m5
  replace og := OwnI.drewN og m5
  replace hB := hide (below_drewN (unhide hB) m5)
  go_wp2_with fail
  refine (toIntS_any _ _ _ z1 _ (r1.below (unhide hB)) n1).mono ?_
  rintro e W6 ⟨Ay1, cy1, rfl, oy1, hb⟩
  have sp1y1 := sep_new op1 oy1
  have swy1 := sep_new ow oy1
  have sx1y1 := sep_new ox1 oy1
  have sgy1 := sep_new og oy1
  replace oy1 := oy1.more (unhide hB).size
  replace op1 := op1.below hb
  replace ow := ow.below hb
  replace ox1 := ox1.below hb
  replace og := og.below hb
  replace hB := hide ((unhide hB).trans (hb.mono (unhide hB).size))
  clear hb
  go_wp2_with fail
  refine (eqIntS_same _ _ _ _ _ _ _ ox1.rd oy1.rd (by omega)).mono ?_
  rintro e W7 ⟨rfl, m7, rfl⟩
  replace op1 := OwnI.drewN op1 m7
  replace ow := OwnI.drewN ow m7
  replace ox1 := OwnI.drewN ox1 m7
  replace og := OwnI.drewN og m7
  replace oy1 := OwnI.drewN oy1 m7
  replace hB := hide (below_drewN (unhide hB) m7)
  go_wp2_with fail
  refine (markIntS_any _ _ _ _ _ _ _ ox1 (by omega) (by omega) (by omega)).mono ?_
  rintro e W8 ⟨rfl, om, hm⟩
  replace op1 := op1.marked hm sp1x1
  replace ow := ow.marked hm swx1
  replace og := og.marked hm sx1g.symm
  replace oy1 := oy1.marked hm sx1y1.symm
  replace hB := hide ((unhide hB).trans (ox1.marks hm (unhide hB).size))
  replace ox1 := om
  clear om hm
  go_wp2_with fail
  refine (eqIntS_same _ _ _ _ _ _ _ og.rd ow.rd (by omega)).mono ?_
  rintro e W9 ⟨rfl, m9, rfl⟩
  replace op1 := OwnI.drewN op1 m9
  replace ow := OwnI.drewN ow m9
  replace ox1 := OwnI.drewN ox1 m9
  replace og := OwnI.drewN og m9
  replace oy1 := OwnI.drewN oy1 m9
  replace hB := hide (below_drewN (unhide hB) m9)
  go_wp2_with fail
  refine (markIntS_any _ _ _ _ _ _ _ og (by omega) (by omega) (by omega)).mono ?_
  rintro e W10 ⟨rfl, om, hm⟩
  replace op1 := op1.marked hm sp1g
  replace ow := ow.marked hm swg
  replace ox1 := ox1.marked hm sx1g
  replace oy1 := oy1.marked hm sgy1.symm
  replace hB := hide ((unhide hB).trans (og.marks hm (unhide hB).size))
  replace og := om
  clear om hm
  go_wp2_with fail
  refine (heldIntS_any _ _ _ _ _ og.rd (by omega) (by omega) (by omega)).mono ?_
  rintro e W11 ⟨rfl, rfl⟩
  go_wp2_with fail
  refine (toIntS_any _ _ _ z1 _ (r1.below (unhide hB)) n1).mono ?_
  rintro e W12 ⟨Aq1, cq1, rfl, oq1, hb⟩
  have sp1q1 := sep_new op1 oq1
  have swq1 := sep_new ow oq1
  have sx1q1 := sep_new ox1 oq1
  have sgq1 := sep_new og oq1
  have sy1q1 := sep_new oy1 oq1
  replace oq1 := oq1.more (unhide hB).size
  replace op1 := op1.below hb
  replace ow := ow.below hb
  replace ox1 := ox1.below hb
  replace og := og.below hb
  replace oy1 := oy1.below hb
  replace hB := hide ((unhide hB).trans (hb.mono (unhide hB).size))
  clear hb
  go_wp2_with fail
  refine (impl_LastOrder a0 _ _ _ z1 _ b0.1 b0.2 oq1.rd n1 (unhide bd1)).mono ?_
  rintro e W13 ⟨Ah, ch, he, oh, hb⟩
  rw [HV.out] at he oh
  subst he
  have sp1h := sep_new op1 oh
  have swh := sep_new ow oh
  have sx1h := sep_new ox1 oh
  have sgh := sep_new og oh
  have sy1h := sep_new oy1 oh
  have sq1h := sep_new oq1 oh
  replace oh := oh.more (unhide hB).size
  replace op1 := op1.below hb
  replace ow := ow.below hb
  replace ox1 := ox1.below hb
  replace og := og.below hb
  replace oy1 := oy1.below hb
  replace oq1 := oq1.below hb
  replace hB := hide ((unhide hB).trans (hb.mono (unhide hB).size))
  clear hb
  go_wp2_with fail
  refine (eqIntS_same _ _ _ _ _ _ _ oh.rd ow.rd (by omega)).mono ?_
  rintro e W14 ⟨rfl, m14, rfl⟩
  replace op1 := OwnI.drewN op1 m14
  replace ow := OwnI.drewN ow m14
  replace ox1 := OwnI.drewN ox1 m14
  replace og := OwnI.drewN og m14
  replace oy1 := OwnI.drewN oy1 m14
  replace oq1 := OwnI.drewN oq1 m14
  replace oh := OwnI.drewN oh m14
  replace hB := hide (below_drewN (unhide hB) m14)
  go_wp2_with fail
  refine (heldIntS_any _ _ _ _ _ og.rd (by omega) (by omega) (by omega)).mono ?_
  rintro e W15 ⟨rfl, rfl⟩
  go_wp2
  go_ret
  exact ⟨rfl, unhide hB⟩

set_option maxRecDepth 100000 in
theorem lifted (os : Os) (started : os.Started) (H : Type) (enc : TypeId × Value → H) :
    ReturnsInHanded {} Try.checked os 10 .any (Rows.fnExactLastOrderSpec.pre6 enc Try.prog Try.f10 Rows.fnExactLastOrderRow.domain false) (Rows.fnExactLastOrderSpec.post enc Try.prog Try.f10 false true false false) := by
  refine returnsInHanded_of_change (C := Try.checked) own started (by kernel_rfl) Try.func10
    (ChangeSpec.witness6 (enc := enc) (C := Try.checked) false ⟨#[], #[.int .i64 0, .slice none 0 0], []⟩ 8 (by kernel_rfl) (by kernel_rfl) (by kernel_rfl) (by kernel_rfl)) ?_
  intro W base args ds gs before hval0 hW hcnd _
  have hval : ∀ (j : Nat) t v, Try.f10.params[j]? = some t → args[j]? = some v → Value.okWide Try.prog W .any base t v := hval0
  have hW' := hW
  obtain ⟨p, q, hA0, hV, rfl, hfz, hnd⟩ := hW
  have hA : DataW.TrodAll enc Try.prog W 0 (fun _ => true) true Try.f10.params.toList args.toList ds p := hA0
  rw [Try.params10] at hA hval
  obtain ⟨v0, vs0, d0, ds0, p0, q0, hargs, rfl, rfl, h0, r0⟩ := trodAll_cons hA
  obtain ⟨v1, vs1, d1, ds1, p1, q1, rfl, rfl, rfl, h1, r1⟩ := trodAll_cons r0
  obtain ⟨rfl, rfl, rfl⟩ := trodAll_nil r1
  obtain rfl : args = #[v0, v1] := by cases args; simp_all
  obtain ⟨rfl, rfl⟩ := trodVars_none hV
  obtain ⟨a0, rfl, rfl, rfl, w0⟩ := open_int Try.underlying3 (hval 0 3 v0 rfl rfl) h0
  have k1 := h1
  have lt1 : ∀ x ∈ p1, x.block < W.heap.size := by obtain ⟨m, hm⟩ := k1; exact DataW.trod_lt m _ _ _ hm
  obtain ⟨a1, len1, cap1, rfl⟩ := okWide_slice Try.underlying22 (hval 1 22 v1 rfl rfl)
  obtain ⟨z1, w1⟩ := row_of_ints h1
  clear hA0 hval0
  refine (walk W a0 w0 a1 len1 cap1 z1 w1).mono fun e W' ⟨he, bel⟩ => ?_
  subst he
  exact ⟨_, rfl, _, _, _, [], _, [], hW', trodAll_mk1 (shut_bool Try.underlying4 _), (trodAll_cons_mk (shut_int Try.underlying3 w0) (trodAll_cons_mk (Below.trod laidOut (by kernel_rfl) (of_decide_eq_true (by kernel_rfl)) k1 bel lt1) trodAll_mk0)), rfl, bel.frame _, fun h => by cases h⟩

theorem over : Rows.fnExactLastOrderRow.holds Try.pinned (OpenSpec.ofChange Rows.fnExactLastOrderSpec) :=
  OpenClaim.holds_of_wide 10 Try.f10 rfl rfl rfl rfl rfl rfl rfl ⟨rfl, rfl, rfl, rfl, rfl⟩ rfl rfl rfl rfl rfl (by kernel_rfl) Try.func10 (by kernel_rfl)
    (of_decide_eq_true (by kernel_rfl)) (by unfold Func.isWrapper; first | (rw [if_pos (by decide +kernel)]; kernel_rfl) | (rw [if_neg (by decide +kernel)]; exact ⟨rfl, rfl⟩))
    (fun os started H enc _ => lifted os started H enc)

theorem proved : Rows.FnExactLastOrderSaid := over
#print axioms proved
end Go.Proofs.Ytaoacpikmpoodaa.fnExactLastOrder
