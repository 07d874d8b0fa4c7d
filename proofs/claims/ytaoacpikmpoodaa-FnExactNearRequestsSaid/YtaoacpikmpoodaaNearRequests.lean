/- For every number of items, length, width and seed FnExactNearRequests returns true, and nothing that was in memory changes; no conditions beyond what the given row says. -/
import Derived.Test.YtaoacpikmpoodaaNear
import Derived.Test.YtaoacpikmpoodaaMarks
namespace Go.Proofs.Ytaoacpikmpoodaa.fnExactNearRequests
open Go.ChangeShapes Go.WideShapes Go.ChangeAt Go.RowKit
open Go.ChangeMaps (open_string shut_string)
set_option linter.unusedVariables false

set_option maxHeartbeats 1600000 in
theorem walk (w : World) (a0 : Int) (w0 : (Lit.int .i64 a0).wf = true) (a1 : Int) (w1 : (Lit.int .i64 a1).wf = true) (a2 : Int) (w2 : (Lit.int .i64 a2).wf = true) (a3 : Int) (w3 : (Lit.int .i64 a3).wf = true) :
    Calls Try.prog 4 #[.int .i64 a0, .int .i64 a1, .int .i64 a2, .int .i64 a3] w fun e w' => e = .returned (.bool true) ∧ Below w.heap.size w w' := by
  have b0 := bd64 w0
  clear w0
  have b1 := bd64 w1
  clear w1
  have b2 := bd64 w2
  clear w2
  have b3 := bd64 w3
  clear w3
  obtain ⟨ys, bb, HV⟩ : ∃ (ys : List Int) (bb : Bool), Hid (nearRequestsV a0 a1 a2 a3 = (ys, bb)) := ⟨_, _, rfl⟩
  have hyl : ys.length ≤ 1048576 := by have := nearRequestsV_len a0 a1 a2 a3; rw [HV.out] at this; exact this
  have hB := hide (Below.refl w.heap.size w)
  go_enter Try.func4, Try.ntmps4
  go_wp2_with fail
  refine (spec_NearRequests a0 a1 a2 a3 _ b0.1 b0.2 b1.1 b1.2 b2.1 b2.2 b3.1 b3.2).mono ?_
  rintro e W1 ⟨Aw, cw, he, ow, hb⟩
  rw [HV.out] at he ow
  subst he
  replace ow := ow.more (unhide hB).size
  replace hB := hide ((unhide hB).trans (hb.mono (unhide hB).size))
  clear hb
  go_wp2_with fail
  refine (impl_NearRequests a0 a1 a2 a3 _ b0.1 b0.2 b1.1 b1.2 b2.1 b2.2 b3.1 b3.2).mono ?_
  rintro e W2 ⟨Ag, cg, he, og, hb⟩
  rw [HV.out] at he og
  subst he
  have swg := sep_new ow og
  replace og := og.more (unhide hB).size
  replace ow := ow.below hb
  replace hB := hide ((unhide hB).trans (hb.mono (unhide hB).size))
  clear hb
  go_wp2_with fail
  refine (eqIntS_same _ _ _ _ _ _ _ og.rd ow.rd (by omega)).mono ?_
  rintro e W3 ⟨rfl, m3, rfl⟩
  replace ow := OwnI.drewN ow m3
  replace og := OwnI.drewN og m3
  replace hB := hide (below_drewN (unhide hB) m3)
  go_wp2_with fail
  refine (markIntS_any _ _ _ _ _ _ _ og (by omega) (by omega) (by omega)).mono ?_
  rintro e W4 ⟨rfl, om, hm⟩
  replace ow := ow.marked hm swg
  replace hB := hide ((unhide hB).trans (og.marks hm (unhide hB).size))
  replace og := om
  clear om hm
  go_wp2_with fail
  refine (heldIntS_any _ _ _ _ _ og.rd (by omega) (by omega) (by omega)).mono ?_
  rintro e W5 ⟨rfl, rfl⟩
  go_wp2_with fail
  refine (impl_NearRequests a0 a1 a2 a3 _ b0.1 b0.2 b1.1 b1.2 b2.1 b2.2 b3.1 b3.2).mono ?_
  rintro e W6 ⟨Ah, ch, he, oh, hb⟩
  rw [HV.out] at he oh
  subst he
  have swh := sep_new ow oh
  have sgh := sep_new og oh
  replace oh := oh.more (unhide hB).size
  replace ow := ow.below hb
  replace og := og.below hb
  replace hB := hide ((unhide hB).trans (hb.mono (unhide hB).size))
  clear hb
  go_wp2_with fail
  refine (eqIntS_same _ _ _ _ _ _ _ oh.rd ow.rd (by omega)).mono ?_
  rintro e W7 ⟨rfl, m7, rfl⟩
  replace ow := OwnI.drewN ow m7
  replace og := OwnI.drewN og m7
  replace oh := OwnI.drewN oh m7
  replace hB := hide (below_drewN (unhide hB) m7)
  go_wp2_with fail
  refine (heldIntS_any _ _ _ _ _ og.rd (by omega) (by omega) (by omega)).mono ?_
  rintro e W8 ⟨rfl, rfl⟩
  go_wp2
  go_ret
  exact ⟨rfl, unhide hB⟩

set_option maxRecDepth 100000 in
theorem lifted (os : Os) (started : os.Started) (H : Type) (enc : TypeId × Value → H) :
    ReturnsInHanded {} Try.checked os 4 .any (Rows.fnExactNearRequestsSpec.pre6 enc Try.prog Try.f4 Rows.fnExactNearRequestsRow.domain false) (Rows.fnExactNearRequestsSpec.post enc Try.prog Try.f4 false true false false) := by
  refine returnsInHanded_of_change (C := Try.checked) own started (by kernel_rfl) Try.func4
    (ChangeSpec.witness6 (enc := enc) (C := Try.checked) false ⟨#[], #[.int .i64 0, .int .i64 0, .int .i64 0, .int .i64 0], []⟩ 8 (by kernel_rfl) (by kernel_rfl) (by kernel_rfl) (by kernel_rfl)) ?_
  intro W base args ds gs before hval0 hW hcnd _
  have hval : ∀ (j : Nat) t v, Try.f4.params[j]? = some t → args[j]? = some v → Value.okWide Try.prog W .any base t v := hval0
  have hW' := hW
  obtain ⟨p, q, hA0, hV, rfl, hfz, hnd⟩ := hW
  have hA : DataW.TrodAll enc Try.prog W 0 (fun _ => true) true Try.f4.params.toList args.toList ds p := hA0
  rw [Try.params4] at hA hval
  obtain ⟨v0, vs0, d0, ds0, p0, q0, hargs, rfl, rfl, h0, r0⟩ := trodAll_cons hA
  obtain ⟨v1, vs1, d1, ds1, p1, q1, rfl, rfl, rfl, h1, r1⟩ := trodAll_cons r0
  obtain ⟨v2, vs2, d2, ds2, p2, q2, rfl, rfl, rfl, h2, r2⟩ := trodAll_cons r1
  obtain ⟨v3, vs3, d3, ds3, p3, q3, rfl, rfl, rfl, h3, r3⟩ := trodAll_cons r2
  obtain ⟨rfl, rfl, rfl⟩ := trodAll_nil r3
  obtain rfl : args = #[v0, v1, v2, v3] := by cases args; simp_all
  obtain ⟨rfl, rfl⟩ := trodVars_none hV
  obtain ⟨a0, rfl, rfl, rfl, w0⟩ := open_int Try.underlying3 (hval 0 3 v0 rfl rfl) h0
  obtain ⟨a1, rfl, rfl, rfl, w1⟩ := open_int Try.underlying3 (hval 1 3 v1 rfl rfl) h1
  obtain ⟨a2, rfl, rfl, rfl, w2⟩ := open_int Try.underlying3 (hval 2 3 v2 rfl rfl) h2
  obtain ⟨a3, rfl, rfl, rfl, w3⟩ := open_int Try.underlying3 (hval 3 3 v3 rfl rfl) h3
  clear hA0 hval0
  refine (walk W a0 w0 a1 w1 a2 w2 a3 w3).mono fun e W' ⟨he, bel⟩ => ?_
  subst he
  exact ⟨_, rfl, _, _, _, [], _, [], hW', trodAll_mk1 (shut_bool Try.underlying4 _), (trodAll_cons_mk (shut_int Try.underlying3 w0) (trodAll_cons_mk (shut_int Try.underlying3 w1) (trodAll_cons_mk (shut_int Try.underlying3 w2) (trodAll_cons_mk (shut_int Try.underlying3 w3) trodAll_mk0)))), rfl, bel.frame _, fun h => by cases h⟩

theorem over : Rows.fnExactNearRequestsRow.holds Try.pinned (OpenSpec.ofChange Rows.fnExactNearRequestsSpec) :=
  OpenClaim.holds_of_wide 4 Try.f4 rfl rfl rfl rfl rfl rfl rfl ⟨rfl, rfl, rfl, rfl, rfl⟩ rfl rfl rfl rfl rfl (by kernel_rfl) Try.func4 (by kernel_rfl)
    (of_decide_eq_true (by kernel_rfl)) (by unfold Func.isWrapper; first | (rw [if_pos (by decide +kernel)]; kernel_rfl) | (rw [if_neg (by decide +kernel)]; exact ⟨rfl, rfl⟩))
    (fun os started H enc _ => lifted os started H enc)

theorem proved : Rows.FnExactNearRequestsSaid := over
#print axioms proved
end Go.Proofs.Ytaoacpikmpoodaa.fnExactNearRequests
