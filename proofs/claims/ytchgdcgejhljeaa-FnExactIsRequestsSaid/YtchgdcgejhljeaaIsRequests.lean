/- For every number of items and every sequence FnExactIsRequests returns true, and nothing that was in memory changes; no conditions beyond what the given row says. -/
import Derived.Test.YtchgdcgejhljeaaReqs
namespace Go.Proofs.Ytchgdcgejhljeaa.fnExactIsRequests
open Go.ChangeShapes Go.WideShapes Go.ChangeAt Go.RowKit
open Go.ChangeMaps (open_string shut_string)
set_option linter.unusedVariables false

theorem specIsRequests_any (A : Option Addr) (n c : Nat) (xs : List Int) (q : Int) (w : World) (hr : RdI w A n xs) (hn : n ≤ 1048576) :
    Calls Try.prog 16 #[.int .i64 q, .slice A n c] w fun e w' => e = .returned (.bool (reqB q xs)) ∧ Below w.heap.size w w' := by
  have hcon := hide (l3Good_any A n c xs q w hr hn)
  clear hr
  generalize reqB q xs = r at hcon
  go_enter Try.func16, Try.ntmps16
  go_wp2_with (go_at_call 30; refine (unhide hcon).mono ?_; rintro e w1 ⟨rfl, rfl⟩)
  go_ret
  exact ⟨rfl, Below.refl _ _⟩

set_option maxHeartbeats 1600000 in
theorem walk (w : World) (a0 : Int) (w0 : (Lit.int .i64 a0).wf = true) (a1 : Option Addr) (len1 cap1 : Nat) (z1 : List Int) (w1 : InI w a1 len1 cap1 z1) :
    Calls Try.prog 7 #[.int .i64 a0, .slice a1 len1 cap1] w fun e w' => e = .returned (.bool true) ∧ Below w.heap.size w w' := by
  by_cases c1 : (1048576 : Int) < len1
  · go_enter Try.func7, Try.ntmps7
    go_wp2
    go_ret
    exact ⟨rfl, Below.refl _ _⟩
  have n1 : len1 ≤ 1048576 := by omega
  obtain ⟨r1, _, _, bd1⟩ := w1
  replace bd1 := hide bd1
  have b0 := bd64 w0
  clear w0
  have hB := hide (Below.refl w.heap.size w)
  go_enter Try.func7, Try.ntmps7
  go_wp2_with fail
  refine (toIntS_any _ _ _ z1 _ (r1.below (unhide hB)) n1).mono ?_
  rintro e W1 ⟨Ap1, cp1, rfl, op1, hb⟩
  replace op1 := op1.more (unhide hB).size
  replace hB := hide ((unhide hB).trans (hb.mono (unhide hB).size))
  clear hb
  go_wp2_with fail
  refine (specIsRequests_any _ _ _ z1 _ _ op1.rd n1).mono ?_
  rintro e W2 ⟨rfl, hb⟩
  replace op1 := op1.below hb
  replace hB := hide ((unhide hB).trans (hb.mono (unhide hB).size))
  clear hb
  go_wp2_with fail
  refine (toIntS_any _ _ _ z1 _ (r1.below (unhide hB)) n1).mono ?_
  rintro e W3 ⟨Ax1, cx1, rfl, ox1, hb⟩
  have sp1x1 := sep_new op1 ox1
  replace ox1 := ox1.more (unhide hB).size
  replace op1 := op1.below hb
  replace hB := hide ((unhide hB).trans (hb.mono (unhide hB).size))
  clear hb
  go_wp2_with fail
  refine (isRequests_any _ _ _ z1 _ _ ox1.rd n1).mono ?_
  rintro e W4 ⟨rfl, hb⟩
  replace op1 := op1.below hb
  replace ox1 := ox1.below hb
  replace hB := hide ((unhide hB).trans (hb.mono (unhide hB).size))
  clear hb
  go_wp2_with fail
  refine (toIntS_any _ _ _ z1 _ (r1.below (unhide hB)) n1).mono ?_
  rintro e W5 ⟨Ay1, cy1, rfl, oy1, hb⟩
  have sp1y1 := sep_new op1 oy1
  have sx1y1 := sep_new ox1 oy1
  replace oy1 := oy1.more (unhide hB).size
  replace op1 := op1.below hb
  replace ox1 := ox1.below hb
  replace hB := hide ((unhide hB).trans (hb.mono (unhide hB).size))
  clear hb
  go_wp2_with fail
  refine (eqIntS_same _ _ _ _ _ _ _ ox1.rd oy1.rd (by omega)).mono ?_
  rintro e W6 ⟨rfl, m6, rfl⟩
  replace op1 := OwnI.drewN op1 m6
  replace ox1 := OwnI.drewN ox1 m6
  replace oy1 := OwnI.drewN oy1 m6
  replace hB := hide (below_drewN (unhide hB) m6)
  go_wp2
  go_ret
  exact ⟨rfl, unhide hB⟩

set_option maxRecDepth 100000 in
theorem lifted (os : Os) (started : os.Started) (H : Type) (enc : TypeId × Value → H) :
    ReturnsInHanded {} Try.checked os 7 .any (Rows.fnExactIsRequestsSpec.pre6 enc Try.prog Try.f7 Rows.fnExactIsRequestsRow.domain false) (Rows.fnExactIsRequestsSpec.post enc Try.prog Try.f7 false true false false) := by
  refine returnsInHanded_of_change (C := Try.checked) own started (by kernel_rfl) Try.func7
    (ChangeSpec.witness6 (enc := enc) (C := Try.checked) false ⟨#[], #[.int .i64 0, .slice none 0 0], []⟩ 8 (by kernel_rfl) (by kernel_rfl) (by kernel_rfl) (by kernel_rfl)) ?_
  intro W base args ds gs before hval0 hW hcnd _
  have hval : ∀ (j : Nat) t v, Try.f7.params[j]? = some t → args[j]? = some v → Value.okWide Try.prog W .any base t v := hval0
  have hW' := hW
  obtain ⟨p, q, hA0, hV, rfl, hfz, hnd⟩ := hW
  have hA : DataW.TrodAll enc Try.prog W 0 (fun _ => true) true Try.f7.params.toList args.toList ds p := hA0
  rw [Try.params7] at hA hval
  obtain ⟨v0, vs0, d0, ds0, p0, q0, hargs, rfl, rfl, h0, r0⟩ := trodAll_cons hA
  obtain ⟨v1, vs1, d1, ds1, p1, q1, rfl, rfl, rfl, h1, r1⟩ := trodAll_cons r0
  obtain ⟨rfl, rfl, rfl⟩ := trodAll_nil r1
  obtain rfl : args = #[v0, v1] := by cases args; simp_all
  obtain ⟨rfl, rfl⟩ := trodVars_none hV
  obtain ⟨a0, rfl, rfl, rfl, w0⟩ := open_int Try.underlying3 (hval 0 3 v0 rfl rfl) h0
  have k1 := h1
  have lt1 : ∀ x ∈ p1, x.block < W.heap.size := by obtain ⟨m, hm⟩ := k1; exact DataW.trod_lt m _ _ _ hm
  obtain ⟨a1, len1, cap1, rfl⟩ := okWide_slice Try.underlying33 (hval 1 33 v1 rfl rfl)
  obtain ⟨z1, w1⟩ := row_of_ints h1
  clear hA0 hval0
  refine (walk W a0 w0 a1 len1 cap1 z1 w1).mono fun e W' ⟨he, bel⟩ => ?_
  subst he
  exact ⟨_, rfl, _, _, _, [], _, [], hW', trodAll_mk1 (shut_bool Try.underlying4 _), (trodAll_cons_mk (shut_int Try.underlying3 w0) (trodAll_cons_mk (Below.trod laidOut (by kernel_rfl) (of_decide_eq_true (by kernel_rfl)) k1 bel lt1) trodAll_mk0)), rfl, bel.frame _, fun h => by cases h⟩

theorem over : Rows.fnExactIsRequestsRow.holds Try.pinned (OpenSpec.ofChange Rows.fnExactIsRequestsSpec) :=
  OpenClaim.holds_of_wide 7 Try.f7 rfl rfl rfl rfl rfl rfl rfl ⟨rfl, rfl, rfl, rfl, rfl⟩ rfl rfl rfl rfl rfl (by kernel_rfl) Try.func7 (by kernel_rfl)
    (of_decide_eq_true (by kernel_rfl)) (by unfold Func.isWrapper; first | (rw [if_pos (by decide +kernel)]; kernel_rfl) | (rw [if_neg (by decide +kernel)]; exact ⟨rfl, rfl⟩))
    (fun os started H enc _ => lifted os started H enc)

theorem proved : Rows.FnExactIsRequestsSaid := over
#print axioms proved
end Go.Proofs.Ytchgdcgejhljeaa.fnExactIsRequests
