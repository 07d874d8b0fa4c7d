/- For every number of items and every text FnExactParseRequests returns true, and nothing that was in memory changes; the premise is the given card's own: the listed tables and errors of Go's library read as their initialisers lay them. -/
import Derived.Test.YtlickpalbfhjoaaDoorDoorE
import Derived.Test.YtlickpalbfhjoaaDoorReadR
import Derived.Test.YtlickpalbfhjoaaDoorReadQ
import Derived.Test.YtlickpalbfhjoaaDoorMarks
namespace Go.Proofs.YtlickpalbfhjoaaDoor.fnExactParseRequests
open Go.ChangeShapes Go.WideShapes Go.ChangeAt Go.RowKit
open Go.ChangeMaps (open_string shut_string)
set_option linter.unusedVariables false
open Go

theorem of_laid {W : World} (h : laidMetH Tryd.prog Rows.fnExactParseRequestsRow.laid W) : Tab W ∧ Errs W := by
  rw [MakeChecks.laidMetH_plain _ _ _ (by kernel_rfl)] at h
  exact ⟨tab_of h, errs_of h⟩

set_option maxHeartbeats 1600000 in
theorem walk (w : World) (hl : Tab w ∧ Errs w) (a0 : Int) (_w0 : (Lit.int .i64 a0).wf = true) (a1 : ByteArray) (w1 : a1.size ≤ maxLen) :
    Calls Tryd.prog 10 #[.int .i64 a0, .string a1] w fun e w' => e = .returned (.bool true) ∧ Below w.heap.size w w' := by
  obtain ⟨ht, he⟩ := hl
  by_cases c1 : (1048576 : Int) < a1.size
  · clear ht he
    go_enter Tryd.func10, Tryd.ntmps10
    go_wp2
    go_ret
    exact ⟨rfl, Below.refl _ _⟩
  have n1 : a1.size ≤ 1048576 := by omega
  have cs := fun w => spec_ParseRequests a0 a1 w n1
  have ci := fun w1 (hb : Below w.heap.size w w1) => impl_ParseRequests a0 a1 w1 n1 (ht.below hb) (he.below hb)
  have hyl := parseRequestsV_len a0 a1
  clear w1 n1 ht he
  obtain ⟨ys, bb, HV⟩ : ∃ (ys : List Int) (bb : Bool), parseRequestsV a0 a1 = (ys, bb) := ⟨_, _, rfl⟩
  rw [HV] at hyl cs ci
  clear HV
  simp only at hyl
  have hB := hide (Below.refl w.heap.size w)
  replace ci := hide ci
  replace cs := hide cs
  go_enter Tryd.func10, Tryd.ntmps10
  go_wp2_with fail
  refine (cs.out _).mono ?_
  rintro e W1 ⟨Aw, cw, rfl, ow, hb⟩
  replace ow := hide (ow.more (unhide hB).size)
  replace hB := hide ((unhide hB).trans (hb.mono (unhide hB).size)); clear hb
  go_wp2_with fail
  refine (ci.out _ hB.out).mono ?_
  rintro e W2 ⟨Ag, cg, rfl, og, hb⟩
  have swg := hide (sep_new ow.out og)
  replace ow := hide (ow.out.below hb)
  replace og := hide (og.more (unhide hB).size)
  replace hB := hide ((unhide hB).trans (hb.mono (unhide hB).size)); clear hb
  go_wp2_with fail
  refine (eqIntS_same _ _ _ _ _ _ _ og.out.rd ow.out.rd (by omega)).mono ?_
  rintro e W3 ⟨rfl, m3, rfl⟩
  replace ow := hide (ow.out.drewN m3); replace og := hide (og.out.drewN m3)
  replace hB := hide (below_drewN (unhide hB) m3)
  go_wp2_with fail
  refine (markIntS_any _ _ _ _ _ _ _ og.out (by omega) (by omega) (by omega)).mono ?_
  rintro e W4 ⟨rfl, om, hm⟩
  replace ow := hide (ow.out.marked hm swg.out)
  replace hB := hide ((unhide hB).trans (og.out.marks hm (unhide hB).size)); replace og := hide om; clear om hm
  go_wp2_with fail
  refine (heldIntS_any _ _ _ _ _ og.out.rd (by omega) (by omega) (by omega)).mono ?_
  rintro e W5 ⟨rfl, rfl⟩
  go_wp2_with fail
  refine (ci.out _ hB.out).mono ?_
  rintro e W6 ⟨Ah, ch, rfl, oh, hb⟩
  replace ow := hide (ow.out.below hb); replace og := hide (og.out.below hb)
  replace oh := hide (oh.more (unhide hB).size)
  replace hB := hide ((unhide hB).trans (hb.mono (unhide hB).size)); clear hb
  go_wp2_with fail
  refine (eqIntS_same _ _ _ _ _ _ _ oh.out.rd ow.out.rd (by omega)).mono ?_
  rintro e W7 ⟨rfl, m7, rfl⟩
  replace og := hide (og.out.drewN m7)
  replace hB := hide (below_drewN (unhide hB) m7)
  go_wp2_with fail
  refine (heldIntS_any _ _ _ _ _ og.out.rd (by omega) (by omega) (by omega)).mono ?_
  rintro e W8 ⟨rfl, rfl⟩
  go_wp2
  go_ret
  exact ⟨rfl, unhide hB⟩

theorem door_met (os : Os) (args : Array Value) : laidMetH Tryd.prog Rows.fnExactParseRequestsRow.laid ((World.doorLaid Tryd.prog 72 os).forCall (fun _ _ => 0) ⟨#[], args, []⟩).memory :=
  laidMetH_of_parts3 (fuel := 8) (laidMet_of_run' 8 (by kernel_rfl) (by kernel_rfl)) (by kernel_rfl) (by kernel_rfl)
set_option maxRecDepth 100000 in
theorem lifted (os : Os) (started : os.Started) (H : Type) (enc : TypeId × Value → H) :
    ReturnsInHanded {} Tryd.checked os 10 .any (fun w args => (Rows.fnExactParseRequestsSpec.pre enc Tryd.prog Tryd.f10 Rows.fnExactParseRequestsRow.domain false w args ∧ laidMetH Tryd.prog Rows.fnExactParseRequestsRow.laid w) ∧ sizedMet enc Tryd.prog Tryd.f10 (OpenSpec.ofChange Rows.fnExactParseRequestsSpec) false w args) (Rows.fnExactParseRequestsSpec.post enc Tryd.prog Tryd.f10 false true false false) := by
  refine returnsInHanded_of_change_and (C := Tryd.checked) (X := fun w _ => laidMetH Tryd.prog Rows.fnExactParseRequestsRow.laid w) (fun _ _ _ hh h => h.of_heap hh) own started (by kernel_rfl) Tryd.func10
    (ChangeSpec.witness_shaped (enc := enc) (C := Tryd.checked) (os := os) (X := fun w _ => laidMetH Tryd.prog Rows.fnExactParseRequestsRow.laid w) false (World.doorLaid Tryd.prog 72 os) #[.int .i64 0, .string ByteArray.empty] 8 rfl (World.shaped_of_RefB (by kernel_rfl) (by kernel_rfl)) (by kernel_rfl) (by kernel_rfl) (by kernel_rfl) (door_met os _)) ?_
  intro W base args ds gs before hval0 hW hcnd _ hL _
  have hval : ∀ (j : Nat) t v, Tryd.f10.params[j]? = some t → args[j]? = some v → Value.okWide Tryd.prog W .any base t v := hval0
  have hW' := hW
  obtain ⟨p, q, hA0, hV, rfl, hfz, hnd⟩ := hW
  have hA : DataW.TrodAll enc Tryd.prog W 0 (fun _ => true) true Tryd.f10.params.toList args.toList ds p := hA0
  rw [Tryd.params10] at hA hval
  obtain ⟨v0, vs0, d0, ds0, p0, q0, hargs, rfl, rfl, h0, r0⟩ := trodAll_cons hA
  obtain ⟨v1, vs1, d1, ds1, p1, q1, rfl, rfl, rfl, h1, r1⟩ := trodAll_cons r0
  obtain ⟨rfl, rfl, rfl⟩ := trodAll_nil r1
  obtain rfl : args = #[v0, v1] := by cases args; simp_all
  obtain ⟨rfl, rfl⟩ := trodVars_none hV
  obtain ⟨a0, rfl, rfl, rfl, w0⟩ := open_int Tryd.underlying3 (hval 0 3 v0 rfl rfl) h0
  have k1 := h1
  have lt1 : ∀ x ∈ p1, x.block < W.heap.size := by obtain ⟨m, hm⟩ := k1; exact DataW.trod_lt m _ _ _ hm
  obtain ⟨a1, rfl, rfl, rfl, w1⟩ := open_string Tryd.underlying9 (hval 1 9 v1 rfl rfl) h1
  clear hA0 hval0
  refine (walk W (of_laid hL) a0 w0 a1 w1).mono fun e W' ⟨he, bel⟩ => ?_
  subst he
  exact ⟨_, rfl, _, _, _, [], _, [], hW', trodAll_mk1 (shut_bool Tryd.underlying4 _), (trodAll_cons_mk (shut_int Tryd.underlying3 w0) (trodAll_cons_mk (Below.trod laidOut (by kernel_rfl) (of_decide_eq_true (by kernel_rfl)) k1 bel lt1) trodAll_mk0)), rfl, bel.frame _, fun h => by cases h⟩

theorem over : Rows.fnExactParseRequestsRow.holds Tryd.pinned (OpenSpec.ofChange Rows.fnExactParseRequestsSpec) :=
  OpenClaim.holds_of_wide 10 Tryd.f10 rfl rfl rfl rfl rfl rfl rfl ⟨rfl, rfl, rfl, rfl, rfl⟩ rfl rfl rfl rfl rfl (by kernel_rfl) Tryd.func10 (by kernel_rfl)
    (of_decide_eq_true (by kernel_rfl)) (by unfold Func.isWrapper; first | (rw [if_pos (by decide +kernel)]; kernel_rfl) | (rw [if_neg (by decide +kernel)]; exact ⟨rfl, rfl⟩))
    (fun os started H enc _ => lifted os started H enc)

theorem proved : Rows.FnExactParseRequestsCardSaid :=
  Claim7.holds_tied_plain_at .later [] [.data, .data, .data, .sentinel, .sentinel] true (true, Rows.fnExactParseRequestsCard.stood.harness.2) true
    over (fun _ h => by cases h) (by kernel_rfl) (fun _ h => by cases h) fnExactParseRequests_row_tie rfl ⟨rfl, rfl⟩ (by kernel_rfl) rfl
    (fun f fn hf hfn => by
      obtain rfl : f = 10 := Option.some.inj ((show Tryd.prog.funcNamed Rows.fnExactParseRequestsRow.func = some 10 by kernel_rfl).symm.trans hf) |>.symm
      obtain rfl : fn = Tryd.f10 := (Option.some.inj (Tryd.func10.symm.trans hfn)).symm
      exact ⟨by kernel_rfl, fun j t ht => by
        rw [Tryd.params10] at ht
        have hm : t ∈ [3, 9] := by simpa using Array.mem_of_getElem? ht
        have hall : ([3, 9].all fun u => !Tryd.prog.wantsStandIn u) = true := by kernel_rfl
        exact (show Tryd.prog.wantsStandIn t = false by simpa using List.all_eq_true.1 hall t hm)⟩)
    (by kernel_rfl)
#print axioms proved
end Go.Proofs.YtlickpalbfhjoaaDoor.fnExactParseRequests
