/- For every two texts FnExactSplitString returns true, and nothing that was in memory changes; no conditions beyond what the given row says. -/
import Derived.Test.YtlickpalbfhjoaaSplitAt
import Derived.Test.YtlickpalbfhjoaaMarkS
namespace Go.Proofs.Ytlickpalbfhjoaa.fnExactSplitString
open Go.ChangeShapes Go.WideShapes Go.ChangeAt Go.RowKit
open Go.ChangeMaps (open_string shut_string)
set_option linter.unusedVariables false

set_option maxHeartbeats 1600000 in
theorem walk (w : World) (a0 : ByteArray) (w0 : a0.size ≤ maxLen) (a1 : ByteArray) (w1 : a1.size ≤ maxLen) :
    Calls Try.prog 3 #[.string a0, .string a1] w fun e w' => e = .returned (.bool true) ∧ Below w.heap.size w w' := by
  by_cases c0 : (1048576 : Int) < a0.size
  · go_enter Try.func3, Try.ntmps3
    go_wp2
    go_ret
    exact ⟨rfl, Below.refl _ _⟩
  by_cases c1 : (1048576 : Int) < a1.size
  · go_enter Try.func3, Try.ntmps3
    go_wp2
    go_ret
    exact ⟨rfl, Below.refl _ _⟩
  have n0 : a0.size ≤ 1048576 := by omega
  have cs := fun w => spec_SplitString a0 a1 w n0
  have ci := fun w => impl_SplitString a0 a1 w n0
  have hyl := splitV_len a0 a1
  clear w0 w1 n0
  obtain ⟨ys, bb, HV⟩ : ∃ (ys : List ByteArray) (bb : Bool), splitStringV a0 a1 = (ys, bb) := ⟨_, _, rfl⟩
  rw [HV] at hyl cs ci
  clear HV
  simp only at hyl
  have hB := hide (Below.refl w.heap.size w)
  go_enter Try.func3, Try.ntmps3
  go_wp2_with fail
  refine (cs _).mono ?_
  rintro e W1 ⟨Aw, cw, rfl, ow, hb⟩
  replace ow := hide (ow.more (unhide hB).size)
  replace hB := hide ((unhide hB).trans (hb.mono (unhide hB).size)); clear hb
  go_wp2_with fail
  refine (ci _).mono ?_
  rintro e W2 ⟨Ag, cg, rfl, og, hb⟩
  have swg := hide (sepS_new ow.out og)
  replace ow := hide (ow.out.below hb)
  replace og := hide (og.more (unhide hB).size)
  replace hB := hide ((unhide hB).trans (hb.mono (unhide hB).size)); clear hb
  go_wp2_with fail
  refine (eqStringS_same _ _ _ _ _ _ _ og.out.rd ow.out.rd (by omega)).mono ?_
  rintro e W3 ⟨rfl, m3, rfl⟩
  replace ow := hide (ow.out.drewN m3); replace og := hide (og.out.drewN m3)
  replace hB := hide (below_drewN (unhide hB) m3)
  go_wp2_with fail
  refine (markStringS_any _ _ _ _ 1 _ _ og.out (by omega) (by omega)).mono ?_
  rintro e W4 ⟨rfl, om, hm⟩
  replace ow := hide (ow.out.marked hm swg.out)
  replace hB := hide ((unhide hB).trans (og.out.marks hm (unhide hB).size)); replace og := hide om; clear om hm
  go_wp2_with fail
  refine (heldStringS_any _ _ _ 1 _ og.out.rd (by omega) (by omega)).mono ?_
  rintro e W5 ⟨rfl, hb⟩
  replace ow := hide (ow.out.below hb); replace og := hide (og.out.below hb)
  replace hB := hide ((unhide hB).trans (hb.mono (unhide hB).size)); clear hb
  go_wp2_with fail
  refine (ci _).mono ?_
  rintro e W6 ⟨Ah, ch, rfl, oh, hb⟩
  replace ow := hide (ow.out.below hb); replace og := hide (og.out.below hb)
  replace oh := hide (oh.more (unhide hB).size)
  replace hB := hide ((unhide hB).trans (hb.mono (unhide hB).size)); clear hb
  go_wp2_with fail
  refine (eqStringS_same _ _ _ _ _ _ _ oh.out.rd ow.out.rd (by omega)).mono ?_
  rintro e W7 ⟨rfl, m7, rfl⟩
  replace og := hide (og.out.drewN m7)
  replace hB := hide (below_drewN (unhide hB) m7)
  go_wp2_with fail
  refine (heldStringS_any _ _ _ 1 _ og.out.rd (by omega) (by omega)).mono ?_
  rintro e W8 ⟨rfl, hb⟩
  replace hB := hide ((unhide hB).trans (hb.mono (unhide hB).size)); clear hb
  go_wp2
  go_ret
  exact ⟨rfl, unhide hB⟩

set_option maxRecDepth 100000 in
theorem lifted (os : Os) (started : os.Started) (H : Type) (enc : TypeId × Value → H) :
    ReturnsInHanded {} Try.checked os 3 .any (Rows.fnExactSplitStringSpec.pre6 enc Try.prog Try.f3 Rows.fnExactSplitStringRow.domain false) (Rows.fnExactSplitStringSpec.post enc Try.prog Try.f3 false true false false) := by
  refine returnsInHanded_of_change (C := Try.checked) own started (by kernel_rfl) Try.func3
    (ChangeSpec.witness6 (enc := enc) (C := Try.checked) false ⟨#[], #[.string ByteArray.empty, .string ByteArray.empty], []⟩ 8 (by kernel_rfl) (by kernel_rfl) (by kernel_rfl) (by kernel_rfl)) ?_
  intro W base args ds gs before hval0 hW hcnd _
  have hval : ∀ (j : Nat) t v, Try.f3.params[j]? = some t → args[j]? = some v → Value.okWide Try.prog W .any base t v := hval0
  have hW' := hW
  obtain ⟨p, q, hA0, hV, rfl, hfz, hnd⟩ := hW
  have hA : DataW.TrodAll enc Try.prog W 0 (fun _ => true) true Try.f3.params.toList args.toList ds p := hA0
  rw [Try.params3] at hA hval
  obtain ⟨v0, vs0, d0, ds0, p0, q0, hargs, rfl, rfl, h0, r0⟩ := trodAll_cons hA
  obtain ⟨v1, vs1, d1, ds1, p1, q1, rfl, rfl, rfl, h1, r1⟩ := trodAll_cons r0
  obtain ⟨rfl, rfl, rfl⟩ := trodAll_nil r1
  obtain rfl : args = #[v0, v1] := by cases args; simp_all
  obtain ⟨rfl, rfl⟩ := trodVars_none hV
  have k0 := h0
  have lt0 : ∀ x ∈ p0, x.block < W.heap.size := by obtain ⟨m, hm⟩ := k0; exact DataW.trod_lt m _ _ _ hm
  obtain ⟨a0, rfl, rfl, rfl, w0⟩ := open_string Try.underlying9 (hval 0 9 v0 rfl rfl) h0
  have k1 := h1
  have lt1 : ∀ x ∈ p1, x.block < W.heap.size := by obtain ⟨m, hm⟩ := k1; exact DataW.trod_lt m _ _ _ hm
  obtain ⟨a1, rfl, rfl, rfl, w1⟩ := open_string Try.underlying9 (hval 1 9 v1 rfl rfl) h1
  clear hA0 hval0
  refine (walk W a0 w0 a1 w1).mono fun e W' ⟨he, bel⟩ => ?_
  subst he
  exact ⟨_, rfl, _, _, _, [], _, [], hW', trodAll_mk1 (shut_bool Try.underlying4 _), (trodAll_cons_mk (Below.trod laidOut (by kernel_rfl) (of_decide_eq_true (by kernel_rfl)) k0 bel lt0) (trodAll_cons_mk (Below.trod laidOut (by kernel_rfl) (of_decide_eq_true (by kernel_rfl)) k1 bel lt1) trodAll_mk0)), rfl, bel.frame _, fun h => by cases h⟩

theorem over : Rows.fnExactSplitStringRow.holds Try.pinned (OpenSpec.ofChange Rows.fnExactSplitStringSpec) :=
  OpenClaim.holds_of_wide 3 Try.f3 rfl rfl rfl rfl rfl rfl rfl ⟨rfl, rfl, rfl, rfl, rfl⟩ rfl rfl rfl rfl rfl (by kernel_rfl) Try.func3 (by kernel_rfl)
    (of_decide_eq_true (by kernel_rfl)) (by unfold Func.isWrapper; first | (rw [if_pos (by decide +kernel)]; kernel_rfl) | (rw [if_neg (by decide +kernel)]; exact ⟨rfl, rfl⟩))
    (fun os started H enc _ => lifted os started H enc)

theorem proved : Rows.FnExactSplitStringSaid := over
#print axioms proved
end Go.Proofs.Ytlickpalbfhjoaa.fnExactSplitString
