/- For every input FnExactPhasesOf returns true, and nothing that was in memory changes; no conditions beyond what the given row says. -/
import Derived.Test.YtbceekcfokgmpaaPhases
import Derived.Test.YtbceekcfokgmpaaMarks
namespace Go.Proofs.Ytbceekcfokgmpaa.fnExactPhasesOf
open Go.ChangeShapes Go.WideShapes Go.ChangeAt Go.RowKit
open Go.ChangeMaps (open_string shut_string)
set_option linter.unusedVariables false

set_option maxHeartbeats 1600000 in
theorem walk (w : World) (a0 : Int) (w0 : (Lit.int .i64 a0).wf = true) (a1 : Int) (w1 : (Lit.int .i64 a1).wf = true) (a2 : Option Addr) (len2 cap2 : Nat) (z2 : List Int) (w2 : InI w a2 len2 cap2 z2) :
    Calls Try.prog 5 #[.int .i64 a0, .int .i64 a1, .slice a2 len2 cap2] w fun e w' => e = .returned (.bool true) ∧ Below w.heap.size w w' := by
  by_cases c2 : (1048576 : Int) < len2
  · go_enter Try.func5, Try.ntmps5
    go_wp2
    go_ret
    exact ⟨rfl, Below.refl _ _⟩
  have n2 : len2 ≤ 1048576 := by omega
  obtain ⟨r2, _, _, bd2⟩ := w2
  replace bd2 := hide bd2
  have b0 := bd64 w0
  clear w0
  have b1 := bd64 w1
  clear w1
  obtain ⟨ys, bb, HV⟩ : ∃ (ys : List Int) (bb : Bool), Hid (phasesOfV a0 a1 z2 = (ys, bb)) := ⟨_, _, rfl⟩
  have hyl : ys.length ≤ 1048576 := by have := phasesOfV_len a0 a1 z2 (by rw [r2.1]; exact n2); rw [HV.out] at this; exact this
  have hB := hide (Below.refl w.heap.size w)
  go_enter Try.func5, Try.ntmps5
  go_wp2_with fail
  refine (toIntS_any _ _ _ z2 _ (r2.below (unhide hB)) n2).mono ?_
  rintro e W1 ⟨Ap2, cp2, rfl, op2, hb⟩
  replace op2 := op2.more (unhide hB).size
  replace hB := hide ((unhide hB).trans (hb.mono (unhide hB).size))
  clear hb
  go_wp2_with fail
  refine (spec_PhasesOf a0 a1 _ _ _ z2 _ b0.1 b0.2 b1.1 b1.2 op2.rd n2 (unhide bd2) op2.room).mono ?_
  rintro e W2 ⟨Aw, cw, he, ow, hb⟩
  rw [HV.out] at he ow
  subst he
  have sp2w := sep_new op2 ow
  replace ow := ow.more (unhide hB).size
  replace op2 := op2.below hb
  replace hB := hide ((unhide hB).trans (hb.mono (unhide hB).size))
  clear hb
  go_wp2_with fail
  refine (toIntS_any _ _ _ z2 _ (r2.below (unhide hB)) n2).mono ?_
  rintro e W3 ⟨Ax2, cx2, rfl, ox2, hb⟩
  have sp2x2 := sep_new op2 ox2
  have swx2 := sep_new ow ox2
  replace ox2 := ox2.more (unhide hB).size
  replace op2 := op2.below hb
  replace ow := ow.below hb
  replace hB := hide ((unhide hB).trans (hb.mono (unhide hB).size))
  clear hb
  go_wp2_with fail
  refine (impl_PhasesOf a0 a1 _ _ _ z2 _ b0.1 b0.2 b1.1 b1.2 ox2.rd n2 (unhide bd2) ox2.room).mono ?_
  rintro e W4 ⟨Ag, cg, he, og, hb⟩
  rw [HV.out] at he og
  subst he
  have sp2g := sep_new op2 og
  have swg := sep_new ow og
  have sx2g := sep_new ox2 og
  replace og := og.more (unhide hB).size
  replace op2 := op2.below hb
  replace ow := ow.below hb
  replace ox2 := ox2.below hb
  replace hB := hide ((unhide hB).trans (hb.mono (unhide hB).size))
  clear hb
  go_wp2_with fail
  refine (eqIntS_same _ _ _ _ _ _ _ og.rd ow.rd (by omega)).mono ?_
  rintro e W5 ⟨rfl, m5, rfl⟩
  replace op2 := OwnI.drewN op2 m5
  replace ow := OwnI.drewN ow m5
  replace ox2 := OwnI.drewN ox2 m5
  replace og := OwnI.drewN og m5
  replace hB := hide (below_drewN (unhide hB) m5)
  go_wp2_with fail
  refine (toIntS_any _ _ _ z2 _ (r2.below (unhide hB)) n2).mono ?_
  rintro e W6 ⟨Ay2, cy2, rfl, oy2, hb⟩
  have sp2y2 := sep_new op2 oy2
  have swy2 := sep_new ow oy2
  have sx2y2 := sep_new ox2 oy2
  have sgy2 := sep_new og oy2
  replace oy2 := oy2.more (unhide hB).size
  replace op2 := op2.below hb
  replace ow := ow.below hb
  replace ox2 := ox2.below hb
  replace og := og.below hb
  replace hB := hide ((unhide hB).trans (hb.mono (unhide hB).size))
  clear hb
  go_wp2_with fail
  refine (eqIntS_same _ _ _ _ _ _ _ ox2.rd oy2.rd (by omega)).mono ?_
  rintro e W7 ⟨rfl, m7, rfl⟩
  replace op2 := OwnI.drewN op2 m7
  replace ow := OwnI.drewN ow m7
  replace ox2 := OwnI.drewN ox2 m7
  replace og := OwnI.drewN og m7
  replace oy2 := OwnI.drewN oy2 m7
  replace hB := hide (below_drewN (unhide hB) m7)
  go_wp2_with fail
  refine (markIntS_any _ _ _ _ _ _ _ ox2 (by omega) (by omega) (by omega)).mono ?_
  rintro e W8 ⟨rfl, om, hm⟩
  replace op2 := op2.marked hm sp2x2
  replace ow := ow.marked hm swx2
  replace og := og.marked hm sx2g.symm
  replace oy2 := oy2.marked hm sx2y2.symm
  replace hB := hide ((unhide hB).trans (ox2.marks hm (unhide hB).size))
  replace ox2 := om
  clear om hm
  go_wp2_with fail
  refine (eqIntS_same _ _ _ _ _ _ _ og.rd ow.rd (by omega)).mono ?_
  rintro e W9 ⟨rfl, m9, rfl⟩
  replace op2 := OwnI.drewN op2 m9
  replace ow := OwnI.drewN ow m9
  replace ox2 := OwnI.drewN ox2 m9
  replace og := OwnI.drewN og m9
  replace oy2 := OwnI.drewN oy2 m9
  replace hB := hide (below_drewN (unhide hB) m9)
  go_wp2_with fail
  refine (markIntS_any _ _ _ _ _ _ _ og (by omega) (by omega) (by omega)).mono ?_
  rintro e W10 ⟨rfl, om, hm⟩
  replace op2 := op2.marked hm sp2g
  replace ow := ow.marked hm swg
  replace ox2 := ox2.marked hm sx2g
  replace oy2 := oy2.marked hm sgy2.symm
  replace hB := hide ((unhide hB).trans (og.marks hm (unhide hB).size))
  replace og := om
  clear om hm
  go_wp2_with fail
  refine (heldIntS_any _ _ _ _ _ og.rd (by omega) (by omega) (by omega)).mono ?_
  rintro e W11 ⟨rfl, rfl⟩
  go_wp2_with fail
  refine (toIntS_any _ _ _ z2 _ (r2.below (unhide hB)) n2).mono ?_
  rintro e W12 ⟨Aq2, cq2, rfl, oq2, hb⟩
  have sp2q2 := sep_new op2 oq2
  have swq2 := sep_new ow oq2
  have sx2q2 := sep_new ox2 oq2
  have sgq2 := sep_new og oq2
  have sy2q2 := sep_new oy2 oq2
  replace oq2 := oq2.more (unhide hB).size
  replace op2 := op2.below hb
  replace ow := ow.below hb
  replace ox2 := ox2.below hb
  replace og := og.below hb
  replace oy2 := oy2.below hb
  replace hB := hide ((unhide hB).trans (hb.mono (unhide hB).size))
  clear hb
  go_wp2_with fail
  refine (impl_PhasesOf a0 a1 _ _ _ z2 _ b0.1 b0.2 b1.1 b1.2 oq2.rd n2 (unhide bd2) oq2.room).mono ?_
  rintro e W13 ⟨Ah, ch, he, oh, hb⟩
  rw [HV.out] at he oh
  subst he
  have sp2h := sep_new op2 oh
  have swh := sep_new ow oh
  have sx2h := sep_new ox2 oh
  have sgh := sep_new og oh
  have sy2h := sep_new oy2 oh
  have sq2h := sep_new oq2 oh
  replace oh := oh.more (unhide hB).size
  replace op2 := op2.below hb
  replace ow := ow.below hb
  replace ox2 := ox2.below hb
  replace og := og.below hb
  replace oy2 := oy2.below hb
  replace oq2 := oq2.below hb
  replace hB := hide ((unhide hB).trans (hb.mono (unhide hB).size))
  clear hb
  go_wp2_with fail
  refine (eqIntS_same _ _ _ _ _ _ _ oh.rd ow.rd (by omega)).mono ?_
  rintro e W14 ⟨rfl, m14, rfl⟩
  replace op2 := OwnI.drewN op2 m14
  replace ow := OwnI.drewN ow m14
  replace ox2 := OwnI.drewN ox2 m14
  replace og := OwnI.drewN og m14
  replace oy2 := OwnI.drewN oy2 m14
  replace oq2 := OwnI.drewN oq2 m14
  replace oh := OwnI.drewN oh m14
  replace hB := hide (below_drewN (unhide hB) m14)
  go_wp2_with fail
  refine (heldIntS_any _ _ _ _ _ og.rd (by omega) (by omega) (by omega)).mono ?_
  rintro e W15 ⟨rfl, rfl⟩
  go_wp2
  go_ret
  exact ⟨rfl, unhide hB⟩

set_option maxRecDepth 100000 in
theorem lifted (os : Os) (started : os.Started) (H : Type) (enc : TypeId × Value → H) :
    ReturnsInHanded {} Try.checked os 5 .any (Rows.fnExactPhasesOfSpec.pre6 enc Try.prog Try.f5 Rows.fnExactPhasesOfRow.domain false) (Rows.fnExactPhasesOfSpec.post enc Try.prog Try.f5 false true false false) := by
  refine returnsInHanded_of_change (C := Try.checked) own started (by kernel_rfl) Try.func5
    (ChangeSpec.witness6 (enc := enc) (C := Try.checked) false ⟨#[], #[.int .i64 0, .int .i64 0, .slice none 0 0], []⟩ 8 (by kernel_rfl) (by kernel_rfl) (by kernel_rfl) (by kernel_rfl)) ?_
  intro W base args ds gs before hval0 hW hcnd _
  have hval : ∀ (j : Nat) t v, Try.f5.params[j]? = some t → args[j]? = some v → Value.okWide Try.prog W .any base t v := hval0
  have hW' := hW
  obtain ⟨p, q, hA0, hV, rfl, hfz, hnd⟩ := hW
  have hA : DataW.TrodAll enc Try.prog W 0 (fun _ => true) true Try.f5.params.toList args.toList ds p := hA0
  rw [Try.params5] at hA hval
  obtain ⟨v0, vs0, d0, ds0, p0, q0, hargs, rfl, rfl, h0, r0⟩ := trodAll_cons hA
  obtain ⟨v1, vs1, d1, ds1, p1, q1, rfl, rfl, rfl, h1, r1⟩ := trodAll_cons r0
  obtain ⟨v2, vs2, d2, ds2, p2, q2, rfl, rfl, rfl, h2, r2⟩ := trodAll_cons r1
  obtain ⟨rfl, rfl, rfl⟩ := trodAll_nil r2
  obtain rfl : args = #[v0, v1, v2] := by cases args; simp_all
  obtain ⟨rfl, rfl⟩ := trodVars_none hV
  obtain ⟨a0, rfl, rfl, rfl, w0⟩ := open_int Try.underlying3 (hval 0 3 v0 rfl rfl) h0
  obtain ⟨a1, rfl, rfl, rfl, w1⟩ := open_int Try.underlying3 (hval 1 3 v1 rfl rfl) h1
  have k2 := h2
  have lt2 : ∀ x ∈ p2, x.block < W.heap.size := by obtain ⟨m, hm⟩ := k2; exact DataW.trod_lt m _ _ _ hm
  obtain ⟨a2, len2, cap2, rfl⟩ := okWide_slice Try.underlying22 (hval 2 22 v2 rfl rfl)
  obtain ⟨z2, w2⟩ := row_of_ints h2
  clear hA0 hval0
  refine (walk W a0 w0 a1 w1 a2 len2 cap2 z2 w2).mono fun e W' ⟨he, bel⟩ => ?_
  subst he
  exact ⟨_, rfl, _, _, _, [], _, [], hW', trodAll_mk1 (shut_bool Try.underlying4 _), (trodAll_cons_mk (shut_int Try.underlying3 w0) (trodAll_cons_mk (shut_int Try.underlying3 w1) (trodAll_cons_mk (Below.trod laidOut (by kernel_rfl) (of_decide_eq_true (by kernel_rfl)) k2 bel lt2) trodAll_mk0))), rfl, bel.frame _, fun h => by cases h⟩

theorem over : Rows.fnExactPhasesOfRow.holds Try.pinned (OpenSpec.ofChange Rows.fnExactPhasesOfSpec) :=
  OpenClaim.holds_of_wide 5 Try.f5 rfl rfl rfl rfl rfl rfl rfl ⟨rfl, rfl, rfl, rfl, rfl⟩ rfl rfl rfl rfl rfl (by kernel_rfl) Try.func5 (by kernel_rfl)
    (of_decide_eq_true (by kernel_rfl)) (by unfold Func.isWrapper; first | (rw [if_pos (by decide +kernel)]; kernel_rfl) | (rw [if_neg (by decide +kernel)]; exact ⟨rfl, rfl⟩))
    (fun os started H enc _ => lifted os started H enc)

theorem proved : Rows.FnExactPhasesOfSaid := over
#print axioms proved
end Go.Proofs.Ytbceekcfokgmpaa.fnExactPhasesOf
