/- For every fraction FnExactCeilFrac returns true, and nothing that was in memory changes; no conditions beyond what the given row says. -/
import Derived.Test.YtainbffcnaafkaaFloor
namespace Go.Proofs.Ytainbffcnaafkaa.fnExactCeilFrac
open Go.ChangeShapes Go.WideShapes Go.ChangeAt Go.RowKit
open Go.ChangeMaps (open_string shut_string)
set_option linter.unusedVariables false

theorem walk_yes (w : World) (a b : Int) (hg : fracB a b = true) :
    Calls Try.prog 3 #[.agg #[.int .i64 a, .int .i64 b]] w fun e w' => e = .returned (.bool true) ∧ Below w.heap.size w w' := by
  replace hg := hide hg
  have HK := Kept.start (Nat.le_refl (w.alloc (.cells #[.int .i64 a, .int .i64 b] 23)).heap.size)
  have hc := trivial
  go_enter Try.func3, Try.ntmps3
  go_wp2_with (first
    | (go_at_call 16; refine (toFrac_any _ _ _).mono ?_; rintro e w1 ⟨rfl, hb⟩; replace HK := HK.step hb; clear hb hc; have hc := HK.cells)
    | (go_at_call 15; refine (specCeilFrac_yes _ _ _ hg.out).mono ?_; rintro e w1 ⟨rfl, hb⟩; replace HK := HK.step hb; clear hb hc; have hc := HK.cells)
    | (go_at_call 17; refine (implCeilFrac_yes _ _ _ hg.out).mono ?_; rintro e w1 ⟨rfl, hb⟩; replace HK := HK.step hb; clear hb hc; have hc := HK.cells))
  go_ret
  exact ⟨rfl, HK.below (by repeat (first | exact Below.refl _ _ | (refine below_drewN ?_ _) | (refine Below.drew ?_) | (refine Below.alloc ?_ (by first | exact Nat.le_refl _ | (simp; done) | (simp; omega) | omega) _) | (refine Below.setCell ?_ (by first | exact Nat.le_refl _ | (simp; done) | (simp; omega) | omega) _) | (refine Below.trans ?_ (Below.mono (by assumption) (by first | exact Nat.le_refl _ | (simp; done) | (simp; omega) | omega))))) (by simp)⟩

theorem walk_no (w : World) (a b : Int) (hg : fracB a b = false) :
    Calls Try.prog 3 #[.agg #[.int .i64 a, .int .i64 b]] w fun e w' => e = .returned (.bool true) ∧ Below w.heap.size w w' := by
  replace hg := hide hg
  have HK := Kept.start (Nat.le_refl (w.alloc (.cells #[.int .i64 a, .int .i64 b] 23)).heap.size)
  have hc := trivial
  go_enter Try.func3, Try.ntmps3
  go_wp2_with (first
    | (go_at_call 16; refine (toFrac_any _ _ _).mono ?_; rintro e w1 ⟨rfl, hb⟩; replace HK := HK.step hb; clear hb hc; have hc := HK.cells)
    | (go_at_call 15; refine (specCeilFrac_no _ _ _ hg.out).mono ?_; rintro e w1 ⟨rfl, hb⟩; replace HK := HK.step hb; clear hb hc; have hc := HK.cells)
    | (go_at_call 17; refine (implCeilFrac_no _ _ _ hg.out).mono ?_; rintro e w1 ⟨rfl, hb⟩; replace HK := HK.step hb; clear hb hc; have hc := HK.cells))
  go_ret
  exact ⟨rfl, HK.below (by repeat (first | exact Below.refl _ _ | (refine below_drewN ?_ _) | (refine Below.drew ?_) | (refine Below.alloc ?_ (by first | exact Nat.le_refl _ | (simp; done) | (simp; omega) | omega) _) | (refine Below.setCell ?_ (by first | exact Nat.le_refl _ | (simp; done) | (simp; omega) | omega) _) | (refine Below.trans ?_ (Below.mono (by assumption) (by first | exact Nat.le_refl _ | (simp; done) | (simp; omega) | omega))))) (by simp)⟩

theorem walk (w : World) (a b : Int) (w0 : (Lit.int .i64 a).wf = true) (x0 : (Lit.int .i64 b).wf = true) :
    Calls Try.prog 3 #[.agg #[.int .i64 a, .int .i64 b]] w fun e w' => e = .returned (.bool true) ∧ Below w.heap.size w w' := by
  cases hg : fracB a b
  · exact walk_no w a b hg
  · exact walk_yes w a b hg

set_option maxRecDepth 100000 in
theorem lifted (os : Os) (started : os.Started) (H : Type) (enc : TypeId × Value → H) :
    ReturnsInHanded {} Try.checked os 3 .any (Rows.fnExactCeilFracSpec.pre6 enc Try.prog Try.f3 Rows.fnExactCeilFracRow.domain false) (Rows.fnExactCeilFracSpec.post enc Try.prog Try.f3 false true false false) := by
  refine returnsInHanded_of_change (C := Try.checked) own started (by kernel_rfl) Try.func3
    (ChangeSpec.witness6 (enc := enc) (C := Try.checked) false ⟨#[], #[.agg #[.int .i64 0, .int .i64 0]], []⟩ 8 (by kernel_rfl) (by kernel_rfl) (by kernel_rfl) (by kernel_rfl)) ?_
  intro W base args ds gs before hval0 hW hcnd _
  have hval : ∀ (j : Nat) t v, Try.f3.params[j]? = some t → args[j]? = some v → Value.okWide Try.prog W .any base t v := hval0
  have hW' := hW
  obtain ⟨p, q, hA0, hV, rfl, hfz, hnd⟩ := hW
  have hA : DataW.TrodAll enc Try.prog W 0 (fun _ => true) true Try.f3.params.toList args.toList ds p := hA0
  rw [Try.params3] at hA hval
  obtain ⟨v0, vs0, d0, ds0, p0, q0, hargs, rfl, rfl, h0, r0⟩ := trodAll_cons hA
  obtain ⟨rfl, rfl, rfl⟩ := trodAll_nil r0
  obtain rfl : args = #[v0] := by cases args; simp_all
  obtain ⟨rfl, rfl⟩ := trodVars_none hV
  have k0 := h0
  have lt0 : ∀ x ∈ p0, x.block < W.heap.size := by obtain ⟨m, hm⟩ := k0; exact DataW.trod_lt m _ _ _ hm
  obtain ⟨a0, b0, rfl, w0, x0⟩ := frac_of (hval 0 23 v0 rfl rfl) h0
  clear hA0 hval0
  refine (walk W a0 b0 w0 x0).mono fun e W' ⟨he, bel⟩ => ?_
  subst he
  exact ⟨_, rfl, _, _, _, [], _, [], hW', trodAll_mk1 (shut_bool Try.underlying4 _), (trodAll_cons_mk (Below.trod laidOut (by kernel_rfl) (of_decide_eq_true (by kernel_rfl)) k0 bel lt0) trodAll_mk0), rfl, bel.frame _, fun h => by cases h⟩

theorem over : Rows.fnExactCeilFracRow.holds Try.pinned (OpenSpec.ofChange Rows.fnExactCeilFracSpec) :=
  OpenClaim.holds_of_wide 3 Try.f3 rfl rfl rfl rfl rfl rfl rfl ⟨rfl, rfl, rfl, rfl, rfl⟩ rfl rfl rfl rfl rfl (by kernel_rfl) Try.func3 (by kernel_rfl)
    (of_decide_eq_true (by kernel_rfl)) (by unfold Func.isWrapper; first | (rw [if_pos (by decide +kernel)]; kernel_rfl) | (rw [if_neg (by decide +kernel)]; exact ⟨rfl, rfl⟩))
    (fun os started H enc _ => lifted os started H enc)

theorem proved : Rows.FnExactCeilFracSaid := over
#print axioms proved
end Go.Proofs.Ytainbffcnaafkaa.fnExactCeilFrac
