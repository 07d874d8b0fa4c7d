/- For every input FnExactProjectRequests returns true, and nothing that was in memory changes; no conditions beyond what the given row says. -/
import Derived.Test.YtbceekcfokgmpaaProjF
import Derived.Test.YtbceekcfokgmpaaMarks
namespace Go.Proofs.Ytbceekcfokgmpaa.fnExactProjectRequests
open Go.ChangeShapes Go.WideShapes Go.ChangeAt Go.RowKit
open Go.ChangeMaps (open_string shut_string)
set_option linter.unusedVariables false

set_option maxHeartbeats 1600000 in
theorem walk (w : World) (a0 : Int) (w0 : (Lit.int .i64 a0).wf = true) (a1 : Option Addr) (len1 cap1 : Nat) (z1 : List Int) (w1 : InI w a1 len1 cap1 z1) (a2 : Option Addr) (len2 cap2 : Nat) (z2 : List Int) (w2 : InI w a2 len2 cap2 z2) :
    Calls Try.prog 7 #[.int .i64 a0, .slice a1 len1 cap1, .slice a2 len2 cap2] w fun e w' => e = .returned (.bool true) ∧ Below w.heap.size w w' := by
  by_cases c1 : (1048576 : Int) < len1
  · go_enter Try.func7, Try.ntmps7
    go_wp2
    go_ret
    exact ⟨rfl, Below.refl _ _⟩
  by_cases c2 : (1048576 : Int) < len2
  · go_enter Try.func7, Try.ntmps7
    go_wp2
    go_ret
    exact ⟨rfl, Below.refl _ _⟩
  have n1 : len1 ≤ 1048576 := by omega
  obtain ⟨r1, _, _, bd1⟩ := w1
  replace bd1 := hide bd1
  have n2 : len2 ≤ 1048576 := by omega
  obtain ⟨r2, _, _, bd2⟩ := w2
  replace bd2 := hide bd2
  have b0 := bd64 w0
  clear w0
  obtain ⟨ys, bb, HV⟩ : ∃ (ys : List Int) (bb : Bool), Hid (projectRequestsV a0 z1 z2 = (ys, bb)) := ⟨_, _, rfl⟩
  have hyl : ys.length ≤ 1048576 := by have := projectRequestsV_len a0 z1 z2 (by rw [r1.1]; exact n1) (by rw [r2.1]; exact n2); rw [HV.out] at this; exact this
  have hB := hide (Below.refl w.heap.size w)
  go_enter Try.func7, Try.ntmps7
  go_wp2_with fail
  refine (toIntS_any _ _ _ z1 _ (r1.below (unhide hB)) n1).mono ?_
  rintro e W1 ⟨Ap1, cp1, rfl, op1, hb⟩
  replace op1 := op1.more (unhide hB).size
  replace hB := hide ((unhide hB).trans (hb.mono (unhide hB).size))
  clear hb
  go_wp2_with fail
  refine (toIntS_any _ _ _ z2 _ (r2.below (unhide hB)) n2).mono ?_
  rintro e W2 ⟨Ap2, cp2, rfl, op2, hb⟩
  have sp1p2 := sep_new op1 op2
  replace op2 := op2.more (unhide hB).size
  replace op1 := op1.below hb
  replace hB := hide ((unhide hB).trans (hb.mono (unhide hB).size))
  clear hb
  go_wp2_with fail
  refine (spec_ProjectRequests a0 _ _ _ z1 _ _ _ z2 _ b0.1 b0.2 op1.rd n1 (unhide bd1) op2.rd n2 (unhide bd2)).mono ?_
  rintro e W3 ⟨Aw, cw, he, ow, hb⟩
  rw [HV.out] at he ow
  subst he
  have sp1w := sep_new op1 ow
  have sp2w := sep_new op2 ow
  replace ow := ow.more (unhide hB).size
  replace op1 := op1.below hb
  replace op2 := op2.below hb
  replace hB := hide ((unhide hB).trans (hb.mono (unhide hB).size))
  clear hb
  go_wp2_with fail
  refine (toIntS_any _ _ _ z1 _ (r1.below (unhide hB)) n1).mono ?_
  rintro e W4 ⟨Ax1, cx1, rfl, ox1, hb⟩
  have sp1x1 := sep_new op1 ox1
  have sp2x1 := sep_new op2 ox1
  have swx1 := sep_new ow ox1
  replace ox1 := ox1.more (unhide hB).size
  replace op1 := op1.below hb
  replace op2 := op2.below hb
  replace ow := ow.below hb
  replace hB := hide ((unhide hB).trans (hb.mono (unhide hB).size))
  clear hb
  go_wp2_with fail
  refine (toIntS_any _ _ _ z2 _ (r2.below (unhide hB)) n2).mono ?_
  rintro e W5 ⟨Ax2, cx2, rfl, ox2, hb⟩
  have sp1x2 := sep_new op1 ox2
  have sp2x2 := sep_new op2 ox2
  have swx2 := sep_new ow ox2
  have sx1x2 := sep_new ox1 ox2
  replace ox2 := ox2.more (unhide hB).size
  replace op1 := op1.below hb
  replace op2 := op2.below hb
  replace ow := ow.below hb
  replace ox1 := ox1.below hb
  replace hB := hide ((unhide hB).trans (hb.mono (unhide hB).size))
  clear hb
  go_wp2_with fail
  refine (impl_ProjectRequests a0 _ _ _ z1 _ _ _ z2 _ b0.1 b0.2 ox1.rd n1 (unhide bd1) ox2.rd n2 (unhide bd2)).mono ?_
  rintro e W6 ⟨Ag, cg, he, og, hb⟩
  rw [HV.out] at he og
  subst he
  have sp1g := sep_new op1 og
  have sp2g := sep_new op2 og
  have swg := sep_new ow og
  have sx1g := sep_new ox1 og
  have sx2g := sep_new ox2 og
  replace og := og.more (unhide hB).size
  replace op1 := op1.below hb
  replace op2 := op2.below hb
  replace ow := ow.below hb
  replace ox1 := ox1.below hb
  replace ox2 := ox2.below hb
  replace hB := hide ((unhide hB).trans (hb.mono (unhide hB).size))
  clear hb
  go_wp2_with fail
  refine (eqIntS_same _ _ _ _ _ _ _ og.rd ow.rd (by omega)).mono ?_
  rintro e W7 ⟨rfl, m7, rfl⟩
  replace op1 := OwnI.drewN op1 m7
  replace op2 := OwnI.drewN op2 m7
  replace ow := OwnI.drewN ow m7
  replace ox1 := OwnI.drewN ox1 m7
  replace ox2 := OwnI.drewN ox2 m7
  replace og := OwnI.drewN og m7
  replace hB := hide (below_drewN (unhide hB) m7)
  go_wp2_with fail
  refine (toIntS_any _ _ _ z1 _ (r1.below (unhide hB)) n1).mono ?_
  rintro e W8 ⟨Ay1, cy1, rfl, oy1, hb⟩
  have sp1y1 := sep_new op1 oy1
  have sp2y1 := sep_new op2 oy1
  have swy1 := sep_new ow oy1
  have sx1y1 := sep_new ox1 oy1
  have sx2y1 := sep_new ox2 oy1
  have sgy1 := sep_new og oy1
  replace oy1 := oy1.more (unhide hB).size
  replace op1 := op1.below hb
  replace op2 := op2.below hb
  replace ow := ow.below hb
  replace ox1 := ox1.below hb
  replace ox2 := ox2.below hb
  replace og := og.below hb
  replace hB := hide ((unhide hB).trans (hb.mono (unhide hB).size))
  clear hb
  go_wp2_with fail
  refine (eqIntS_same _ _ _ _ _ _ _ ox1.rd oy1.rd (by omega)).mono ?_
  rintro e W9 ⟨rfl, m9, rfl⟩
  replace op1 := OwnI.drewN op1 m9
  replace op2 := OwnI.drewN op2 m9
  replace ow := OwnI.drewN ow m9
  replace ox1 := OwnI.drewN ox1 m9
  replace ox2 := OwnI.drewN ox2 m9
  replace og := OwnI.drewN og m9
  replace oy1 := OwnI.drewN oy1 m9
  replace hB := hide (below_drewN (unhide hB) m9)
  go_wp2_with fail
  refine (toIntS_any _ _ _ z2 _ (r2.below (unhide hB)) n2).mono ?_
  rintro e W10 ⟨Ay2, cy2, rfl, oy2, hb⟩
  have sp1y2 := sep_new op1 oy2
  have sp2y2 := sep_new op2 oy2
  have swy2 := sep_new ow oy2
  have sx1y2 := sep_new ox1 oy2
  have sx2y2 := sep_new ox2 oy2
  have sgy2 := sep_new og oy2
  have sy1y2 := sep_new oy1 oy2
  replace oy2 := oy2.more (unhide hB).size
  replace op1 := op1.below hb
  replace op2 := op2.below hb
  replace ow := ow.below hb
  replace ox1 := ox1.below hb
  replace ox2 := ox2.below hb
  replace og := og.below hb
  replace oy1 := oy1.below hb
  replace hB := hide ((unhide hB).trans (hb.mono (unhide hB).size))
  clear hb
  go_wp2_with fail
  refine (eqIntS_same _ _ _ _ _ _ _ ox2.rd oy2.rd (by omega)).mono ?_
  rintro e W11 ⟨rfl, m11, rfl⟩
  replace op1 := OwnI.drewN op1 m11
  replace op2 := OwnI.drewN op2 m11
  replace ow := OwnI.drewN ow m11
  replace ox1 := OwnI.drewN ox1 m11
  replace ox2 := OwnI.drewN ox2 m11
  replace og := OwnI.drewN og m11
  replace oy1 := OwnI.drewN oy1 m11
  replace oy2 := OwnI.drewN oy2 m11
  replace hB := hide (below_drewN (unhide hB) m11)
  go_wp2_with fail
  refine (markIntS_any _ _ _ _ _ _ _ ox1 (by omega) (by omega) (by omega)).mono ?_
  rintro e W12 ⟨rfl, om, hm⟩
  replace op1 := op1.marked hm sp1x1
  replace op2 := op2.marked hm sp2x1
  replace ow := ow.marked hm swx1
  replace ox2 := ox2.marked hm sx1x2.symm
  replace og := og.marked hm sx1g.symm
  replace oy1 := oy1.marked hm sx1y1.symm
  replace oy2 := oy2.marked hm sx1y2.symm
  replace hB := hide ((unhide hB).trans (ox1.marks hm (unhide hB).size))
  replace ox1 := om
  clear om hm
  go_wp2_with fail
  refine (markIntS_any _ _ _ _ _ _ _ ox2 (by omega) (by omega) (by omega)).mono ?_
  rintro e W13 ⟨rfl, om, hm⟩
  replace op1 := op1.marked hm sp1x2
  replace op2 := op2.marked hm sp2x2
  replace ow := ow.marked hm swx2
  replace ox1 := ox1.marked hm sx1x2
  replace og := og.marked hm sx2g.symm
  replace oy1 := oy1.marked hm sx2y1.symm
  replace oy2 := oy2.marked hm sx2y2.symm
  replace hB := hide ((unhide hB).trans (ox2.marks hm (unhide hB).size))
  replace ox2 := om
  clear om hm
  go_wp2_with fail
  refine (eqIntS_same _ _ _ _ _ _ _ og.rd ow.rd (by omega)).mono ?_
  rintro e W14 ⟨rfl, m14, rfl⟩
  replace op1 := OwnI.drewN op1 m14
  replace op2 := OwnI.drewN op2 m14
  replace ow := OwnI.drewN ow m14
  replace ox1 := OwnI.drewN ox1 m14
  replace ox2 := OwnI.drewN ox2 m14
  replace og := OwnI.drewN og m14
  replace oy1 := OwnI.drewN oy1 m14
  replace oy2 := OwnI.drewN oy2 m14
  replace hB := hide (below_drewN (unhide hB) m14)
  go_wp2_with fail
  refine (markIntS_any _ _ _ _ _ _ _ og (by omega) (by omega) (by omega)).mono ?_
  rintro e W15 ⟨rfl, om, hm⟩
  replace op1 := op1.marked hm sp1g
  replace op2 := op2.marked hm sp2g
  replace ow := ow.marked hm swg
  replace ox1 := ox1.marked hm sx1g
  replace ox2 := ox2.marked hm sx2g
  replace oy1 := oy1.marked hm sgy1.symm
  replace oy2 := oy2.marked hm sgy2.symm
  replace hB := hide ((unhide hB).trans (og.marks hm (unhide hB).size))
  replace og := om
  clear om hm
  go_wp2_with fail
  refine (heldIntS_any _ _ _ _ _ og.rd (by omega) (by omega) (by omega)).mono ?_
  rintro e W16 ⟨rfl, rfl⟩
  go_wp2_with fail
  refine (toIntS_any _ _ _ z1 _ (r1.below (unhide hB)) n1).mono ?_
  rintro e W17 ⟨Aq1, cq1, rfl, oq1, hb⟩
  have sp1q1 := sep_new op1 oq1
  have sp2q1 := sep_new op2 oq1
  have swq1 := sep_new ow oq1
  have sx1q1 := sep_new ox1 oq1
  have sx2q1 := sep_new ox2 oq1
  have sgq1 := sep_new og oq1
  have sy1q1 := sep_new oy1 oq1
  have sy2q1 := sep_new oy2 oq1
  replace oq1 := oq1.more (unhide hB).size
  replace op1 := op1.below hb
  replace op2 := op2.below hb
  replace ow := ow.below hb
  replace ox1 := ox1.below hb
  replace ox2 := ox2.below hb
  replace og := og.below hb
  replace oy1 := oy1.below hb
  replace oy2 := oy2.below hb
  replace hB := hide ((unhide hB).trans (hb.mono (unhide hB).size))
  clear hb
  go_wp2_with fail
  refine (toIntS_any _ _ _ z2 _ (r2.below (unhide hB)) n2).mono ?_
  rintro e W18 ⟨Aq2, cq2, rfl, oq2, hb⟩
  have sp1q2 := sep_new op1 oq2
  have sp2q2 := sep_new op2 oq2
  have swq2 := sep_new ow oq2
  have sx1q2 := sep_new ox1 oq2
  have sx2q2 := sep_new ox2 oq2
  have sgq2 := sep_new og oq2
  have sy1q2 := sep_new oy1 oq2
  have sy2q2 := sep_new oy2 oq2
  have sq1q2 := sep_new oq1 oq2
  replace oq2 := oq2.more (unhide hB).size
  replace op1 := op1.below hb
  replace op2 := op2.below hb
  replace ow := ow.below hb
  replace ox1 := ox1.below hb
  replace ox2 := ox2.below hb
  replace og := og.below hb
  replace oy1 := oy1.below hb
  replace oy2 := oy2.below hb
  replace oq1 := oq1.below hb
  replace hB := hide ((unhide hB).trans (hb.mono (unhide hB).size))
  clear hb
  go_wp2_with fail
  refine (impl_ProjectRequests a0 _ _ _ z1 _ _ _ z2 _ b0.1 b0.2 oq1.rd n1 (unhide bd1) oq2.rd n2 (unhide bd2)).mono ?_
  rintro e W19 ⟨Ah, ch, he, oh, hb⟩
  rw [HV.out] at he oh
  subst he
  have sp1h := sep_new op1 oh
  have sp2h := sep_new op2 oh
  have swh := sep_new ow oh
  have sx1h := sep_new ox1 oh
  have sx2h := sep_new ox2 oh
  have sgh := sep_new og oh
  have sy1h := sep_new oy1 oh
  have sy2h := sep_new oy2 oh
  have sq1h := sep_new oq1 oh
  have sq2h := sep_new oq2 oh
  replace oh := oh.more (unhide hB).size
  replace op1 := op1.below hb
  replace op2 := op2.below hb
  replace ow := ow.below hb
  replace ox1 := ox1.below hb
  replace ox2 := ox2.below hb
  replace og := og.below hb
  replace oy1 := oy1.below hb
  replace oy2 := oy2.below hb
  replace oq1 := oq1.below hb
  replace oq2 := oq2.below hb
  replace hB := hide ((unhide hB).trans (hb.mono (unhide hB).size))
  clear hb
  go_wp2_with fail
  refine (eqIntS_same _ _ _ _ _ _ _ oh.rd ow.rd (by omega)).mono ?_
  rintro e W20 ⟨rfl, m20, rfl⟩
  replace op1 := OwnI.drewN op1 m20
  replace op2 := OwnI.drewN op2 m20
  replace ow := OwnI.drewN ow m20
  replace ox1 := OwnI.drewN ox1 m20
  replace ox2 := OwnI.drewN ox2 m20
  replace og := OwnI.drewN og m20
  replace oy1 := OwnI.drewN oy1 m20
  replace oy2 := OwnI.drewN oy2 m20
  replace oq1 := OwnI.drewN oq1 m20
  replace oq2 := OwnI.drewN oq2 m20
  replace oh := OwnI.drewN oh m20
  replace hB := hide (below_drewN (unhide hB) m20)
  go_wp2_with fail
  refine (heldIntS_any _ _ _ _ _ og.rd (by omega) (by omega) (by omega)).mono ?_
  rintro e W21 ⟨rfl, rfl⟩
  go_wp2
  go_ret
  exact ⟨rfl, unhide hB⟩

set_option maxRecDepth 100000 in
theorem lifted (os : Os) (started : os.Started) (H : Type) (enc : TypeId × Value → H) :
    ReturnsInHanded {} Try.checked os 7 .any (Rows.fnExactProjectRequestsSpec.pre6 enc Try.prog Try.f7 Rows.fnExactProjectRequestsRow.domain false) (Rows.fnExactProjectRequestsSpec.post enc Try.prog Try.f7 false true false false) := by
  refine returnsInHanded_of_change (C := Try.checked) own started (by kernel_rfl) Try.func7
    (ChangeSpec.witness6 (enc := enc) (C := Try.checked) false ⟨#[], #[.int .i64 0, .slice none 0 0, .slice none 0 0], []⟩ 8 (by kernel_rfl) (by kernel_rfl) (by kernel_rfl) (by kernel_rfl)) ?_
  intro W base args ds gs before hval0 hW hcnd _
  have hval : ∀ (j : Nat) t v, Try.f7.params[j]? = some t → args[j]? = some v → Value.okWide Try.prog W .any base t v := hval0
  have hW' := hW
  obtain ⟨p, q, hA0, hV, rfl, hfz, hnd⟩ := hW
  have hA : DataW.TrodAll enc Try.prog W 0 (fun _ => true) true Try.f7.params.toList args.toList ds p := hA0
  rw [Try.params7] at hA hval
  obtain ⟨v0, vs0, d0, ds0, p0, q0, hargs, rfl, rfl, h0, r0⟩ := trodAll_cons hA
  obtain ⟨v1, vs1, d1, ds1, p1, q1, rfl, rfl, rfl, h1, r1⟩ := trodAll_cons r0
  obtain ⟨v2, vs2, d2, ds2, p2, q2, rfl, rfl, rfl, h2, r2⟩ := trodAll_cons r1
  obtain ⟨rfl, rfl, rfl⟩ := trodAll_nil r2
  obtain rfl : args = #[v0, v1, v2] := by cases args; simp_all
  obtain ⟨rfl, rfl⟩ := trodVars_none hV
  obtain ⟨a0, rfl, rfl, rfl, w0⟩ := open_int Try.underlying3 (hval 0 3 v0 rfl rfl) h0
  have k1 := h1
  have lt1 : ∀ x ∈ p1, x.block < W.heap.size := by obtain ⟨m, hm⟩ := k1; exact DataW.trod_lt m _ _ _ hm
  obtain ⟨a1, len1, cap1, rfl⟩ := okWide_slice Try.underlying22 (hval 1 22 v1 rfl rfl)
  obtain ⟨z1, w1⟩ := row_of_ints h1
  have k2 := h2
  have lt2 : ∀ x ∈ p2, x.block < W.heap.size := by obtain ⟨m, hm⟩ := k2; exact DataW.trod_lt m _ _ _ hm
  obtain ⟨a2, len2, cap2, rfl⟩ := okWide_slice Try.underlying22 (hval 2 22 v2 rfl rfl)
  obtain ⟨z2, w2⟩ := row_of_ints h2
  clear hA0 hval0
  refine (walk W a0 w0 a1 len1 cap1 z1 w1 a2 len2 cap2 z2 w2).mono fun e W' ⟨he, bel⟩ => ?_
  subst he
  exact ⟨_, rfl, _, _, _, [], _, [], hW', trodAll_mk1 (shut_bool Try.underlying4 _), (trodAll_cons_mk (shut_int Try.underlying3 w0) (trodAll_cons_mk (Below.trod laidOut (by kernel_rfl) (of_decide_eq_true (by kernel_rfl)) k1 bel lt1) (trodAll_cons_mk (Below.trod laidOut (by kernel_rfl) (of_decide_eq_true (by kernel_rfl)) k2 bel lt2) trodAll_mk0))), rfl, bel.frame _, fun h => by cases h⟩

theorem over : Rows.fnExactProjectRequestsRow.holds Try.pinned (OpenSpec.ofChange Rows.fnExactProjectRequestsSpec) :=
  OpenClaim.holds_of_wide 7 Try.f7 rfl rfl rfl rfl rfl rfl rfl ⟨rfl, rfl, rfl, rfl, rfl⟩ rfl rfl rfl rfl rfl (by kernel_rfl) Try.func7 (by kernel_rfl)
    (of_decide_eq_true (by kernel_rfl)) (by unfold Func.isWrapper; first | (rw [if_pos (by decide +kernel)]; kernel_rfl) | (rw [if_neg (by decide +kernel)]; exact ⟨rfl, rfl⟩))
    (fun os started H enc _ => lifted os started H enc)

theorem proved : Rows.FnExactProjectRequestsSaid := over
#print axioms proved
end Go.Proofs.Ytbceekcfokgmpaa.fnExactProjectRequests
