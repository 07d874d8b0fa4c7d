/- For every list of fractions FnExactSumFracs returns true, and nothing that was in memory changes; no conditions beyond what the given row says. -/
import Derived.Test.YtainbffcnaafkaaSumS
namespace Go.Proofs.Ytainbffcnaafkaa.fnExactSumFracs
open Go.ChangeShapes Go.WideShapes Go.ChangeAt Go.RowKit
open Go.ChangeMaps (open_string shut_string)
set_option linter.unusedVariables false

theorem specSumFracs_len (A : Option Addr) (n c : Nat) (w : World) (h : 100 < n) (hn : n ≤ 1048576) :
    Calls Try.prog 42 #[.slice A n c] w fun e w' => e = .returned (.tuple #[.agg #[.int .i64 0, .int .i64 0], .bool false]) ∧ Below w.heap.size w w' := by
  go_enter Try.func42, Try.ntmps42
  go_wp2
  refine bodyPost_ret (v := .tuple #[.agg #[.int .i64 0, .int .i64 0], .bool false]) (by simp [results, Try.results42, go_sem]) rfl ⟨rfl, (by repeat (first | exact Below.refl _ _ | (refine below_drewN ?_ _) | (refine Below.drew ?_) | (refine Below.alloc ?_ (by first | exact Nat.le_refl _ | (simp; done) | (simp; omega) | omega) _) | (refine Below.setCell ?_ (by first | exact Nat.le_refl _ | (simp; done) | (simp; omega) | omega) _) | (refine Below.trans ?_ (Below.mono (by assumption) (by first | exact Nat.le_refl _ | (simp; done) | (simp; omega) | omega)))))⟩

theorem implSumFracs_len (A : Option Addr) (n c : Nat) (w : World) (h : 100 < n) (hn : n ≤ 1048576) :
    Calls Try.prog 44 #[.slice A n c] w fun e w' => e = .returned (.tuple #[.agg #[.int .i64 0, .int .i64 0], .bool false]) ∧ Below w.heap.size w w' := by
  go_enter Try.func44, Try.ntmps44
  go_wp2
  refine bodyPost_ret (v := .tuple #[.agg #[.int .i64 0, .int .i64 0], .bool false]) (by simp [results, Try.results44, go_sem]) rfl ⟨rfl, (by repeat (first | exact Below.refl _ _ | (refine below_drewN ?_ _) | (refine Below.drew ?_) | (refine Below.alloc ?_ (by first | exact Nat.le_refl _ | (simp; done) | (simp; omega) | omega) _) | (refine Below.setCell ?_ (by first | exact Nat.le_refl _ | (simp; done) | (simp; omega) | omega) _) | (refine Below.trans ?_ (Below.mono (by assumption) (by first | exact Nat.le_refl _ | (simp; done) | (simp; omega) | omega)))))⟩

set_option maxHeartbeats 1600000 in
theorem walk_yes (w : World) (a0 : Option Addr) (len0 cap0 : Nat) (z0 : List (Int × Int)) (r0 : RdP w a0 len0 z0) (n0 : len0 ≤ 1048576) (h : len0 ≤ 100) :
    Calls Try.prog 14 #[.slice a0 len0 cap0] w fun e w' => e = .returned (.bool true) ∧ Below w.heap.size w w' := by
  obtain ⟨X, HX⟩ : ∃ X : Int, Hid (((sumF z0).getD (0, 0)).1 = X) := ⟨_, rfl⟩
  obtain ⟨Y, HY⟩ : ∃ Y : Int, Hid (((sumF z0).getD (0, 0)).2 = Y) := ⟨_, rfl⟩
  obtain ⟨B, HB⟩ : ∃ B : Bool, Hid ((sumF z0).isSome = B) := ⟨_, rfl⟩
  have hB := hide (Below.refl w.heap.size w)
  go_enter Try.func14, Try.ntmps14
  go_wp2_with fail
  refine (szFracS_any _ _ _ _ n0).mono ?_
  rintro e w1 ⟨rfl, rfl⟩
  go_wp2_with fail
  refine (toFracS_any _ _ _ z0 _ (r0.below (unhide hB)) n0).mono ?_
  rintro e W1 ⟨Ap, cp, rfl, op, hb⟩
  replace op := op.more (unhide hB).size
  replace hB := hide ((unhide hB).trans (hb.mono (unhide hB).size))
  clear hb
  go_wp2_with fail
  refine (specSumFracs_any _ _ _ z0 _ op.rd h _ rfl).mono ?_
  rintro e W2 ⟨he, hb⟩
  rw [HX.out, HY.out, HB.out] at he
  subst he
  replace op := op.below hb
  replace hB := hide ((unhide hB).trans (hb.mono (unhide hB).size))
  clear hb
  replace op := op.below ((Below.refl _ _).alloc (Nat.le_refl _) (.cells #[.int .i64 X, .int .i64 Y] 26))
  replace hB := hide ((unhide hB).alloc (unhide hB).size (.cells #[.int .i64 X, .int .i64 Y] 26))
  go_wp2_with fail
  refine (toFracS_any _ _ _ z0 _ (r0.below (unhide hB)) n0).mono ?_
  rintro e W3 ⟨Ax, cx, rfl, ox, hb⟩
  replace ox := ox.more (unhide hB).size
  have f1 := two_new hb
  replace op := op.below hb
  replace hB := hide ((unhide hB).trans (hb.mono (unhide hB).size))
  clear hb
  go_wp2_with fail
  refine (implSumFracs_any _ _ _ z0 _ ox.rd h _ rfl).mono ?_
  rintro e W4 ⟨he, hb⟩
  rw [HX.out, HY.out, HB.out] at he
  subst he
  replace f1 := two_on f1 hb
  replace op := op.below hb
  replace ox := ox.below hb
  replace hB := hide ((unhide hB).trans (hb.mono (unhide hB).size))
  clear hb
  replace op := op.below ((Below.refl _ _).alloc (Nat.le_refl _) (.cells #[.int .i64 X, .int .i64 Y] 26))
  replace ox := ox.below ((Below.refl _ _).alloc (Nat.le_refl _) (.cells #[.int .i64 X, .int .i64 Y] 26))
  replace hB := hide ((unhide hB).alloc (unhide hB).size (.cells #[.int .i64 X, .int .i64 Y] 26))
  replace f1 := two_on f1 ((Below.refl _ _).alloc (Nat.le_refl _) (.cells #[.int .i64 X, .int .i64 Y] 26))
  go_wp2_with fail
  refine (eqFrac_same _ _ _).mono ?_
  rintro e W5 ⟨rfl, hb⟩
  replace f1 := two_on f1 hb
  have f2 := two_new hb
  replace op := op.below hb
  replace ox := ox.below hb
  replace hB := hide ((unhide hB).trans (hb.mono (unhide hB).size))
  clear hb
  go_wp2_with fail
  refine (toFracS_any _ _ _ z0 _ (r0.below (unhide hB)) n0).mono ?_
  rintro e W6 ⟨Ay, cy, rfl, oy, hb⟩
  replace oy := oy.more (unhide hB).size
  replace f1 := two_on f1 hb
  replace f2 := two_on f2 hb
  replace op := op.below hb
  replace ox := ox.below hb
  replace hB := hide ((unhide hB).trans (hb.mono (unhide hB).size))
  clear hb
  go_wp2_with fail
  refine (eqFracS_same _ _ _ _ _ _ _ ox.rd oy.rd n0).mono ?_
  rintro e W7 ⟨rfl, hb⟩
  replace f1 := two_on f1 hb
  replace f2 := two_on f2 hb
  replace op := op.below hb
  replace ox := ox.below hb
  replace oy := oy.below hb
  replace hB := hide ((unhide hB).trans (hb.mono (unhide hB).size))
  clear hb
  go_wp2
  go_ret
  exact ⟨rfl, unhide hB⟩

set_option maxHeartbeats 1600000 in
theorem walk_len (w : World) (a0 : Option Addr) (len0 cap0 : Nat) (z0 : List (Int × Int)) (r0 : RdP w a0 len0 z0) (n0 : len0 ≤ 1048576) (h : 100 < len0) :
    Calls Try.prog 14 #[.slice a0 len0 cap0] w fun e w' => e = .returned (.bool true) ∧ Below w.heap.size w w' := by
  have hB := hide (Below.refl w.heap.size w)
  go_enter Try.func14, Try.ntmps14
  go_wp2_with fail
  refine (szFracS_any _ _ _ _ n0).mono ?_
  rintro e w1 ⟨rfl, rfl⟩
  go_wp2_with fail
  refine (toFracS_any _ _ _ z0 _ (r0.below (unhide hB)) n0).mono ?_
  rintro e W1 ⟨Ap, cp, rfl, op, hb⟩
  replace op := op.more (unhide hB).size
  replace hB := hide ((unhide hB).trans (hb.mono (unhide hB).size))
  clear hb
  go_wp2_with fail
  refine (specSumFracs_len _ _ _ _ h n0).mono ?_
  rintro e W2 ⟨rfl, hb⟩
  replace op := op.below hb
  replace hB := hide ((unhide hB).trans (hb.mono (unhide hB).size))
  clear hb
  replace op := op.below ((Below.refl _ _).alloc (Nat.le_refl _) (.cells #[.int .i64 0, .int .i64 0] 26))
  replace hB := hide ((unhide hB).alloc (unhide hB).size (.cells #[.int .i64 0, .int .i64 0] 26))
  go_wp2_with fail
  refine (toFracS_any _ _ _ z0 _ (r0.below (unhide hB)) n0).mono ?_
  rintro e W3 ⟨Ax, cx, rfl, ox, hb⟩
  replace ox := ox.more (unhide hB).size
  have f1 := two_new hb
  replace op := op.below hb
  replace hB := hide ((unhide hB).trans (hb.mono (unhide hB).size))
  clear hb
  go_wp2_with fail
  refine (implSumFracs_len _ _ _ _ h n0).mono ?_
  rintro e W4 ⟨rfl, hb⟩
  replace f1 := two_on f1 hb
  replace op := op.below hb
  replace ox := ox.below hb
  replace hB := hide ((unhide hB).trans (hb.mono (unhide hB).size))
  clear hb
  replace op := op.below ((Below.refl _ _).alloc (Nat.le_refl _) (.cells #[.int .i64 0, .int .i64 0] 26))
  replace ox := ox.below ((Below.refl _ _).alloc (Nat.le_refl _) (.cells #[.int .i64 0, .int .i64 0] 26))
  replace hB := hide ((unhide hB).alloc (unhide hB).size (.cells #[.int .i64 0, .int .i64 0] 26))
  replace f1 := two_on f1 ((Below.refl _ _).alloc (Nat.le_refl _) (.cells #[.int .i64 0, .int .i64 0] 26))
  go_wp2_with fail
  refine (eqFrac_same _ _ _).mono ?_
  rintro e W5 ⟨rfl, hb⟩
  replace f1 := two_on f1 hb
  have f2 := two_new hb
  replace op := op.below hb
  replace ox := ox.below hb
  replace hB := hide ((unhide hB).trans (hb.mono (unhide hB).size))
  clear hb
  go_wp2_with fail
  refine (toFracS_any _ _ _ z0 _ (r0.below (unhide hB)) n0).mono ?_
  rintro e W6 ⟨Ay, cy, rfl, oy, hb⟩
  replace oy := oy.more (unhide hB).size
  replace f1 := two_on f1 hb
  replace f2 := two_on f2 hb
  replace op := op.below hb
  replace ox := ox.below hb
  replace hB := hide ((unhide hB).trans (hb.mono (unhide hB).size))
  clear hb
  go_wp2_with fail
  refine (eqFracS_same _ _ _ _ _ _ _ ox.rd oy.rd n0).mono ?_
  rintro e W7 ⟨rfl, hb⟩
  replace f1 := two_on f1 hb
  replace f2 := two_on f2 hb
  replace op := op.below hb
  replace ox := ox.below hb
  replace oy := oy.below hb
  replace hB := hide ((unhide hB).trans (hb.mono (unhide hB).size))
  clear hb
  go_wp2
  go_ret
  exact ⟨rfl, unhide hB⟩

theorem walk (w : World) (a0 : Option Addr) (len0 cap0 : Nat) (z0 : List (Int × Int)) (w0 : InP w a0 len0 cap0 z0) :
    Calls Try.prog 14 #[.slice a0 len0 cap0] w fun e w' => e = .returned (.bool true) ∧ Below w.heap.size w w' := by
  obtain ⟨r0, hl, hm⟩ := w0
  by_cases c0 : 1048576 < len0
  · go_enter Try.func14, Try.ntmps14
    go_wp2_with (go_at_call 41; refine (szFracS_great _ _ _ _ c0 (by omega)).mono ?_; rintro e w1 ⟨rfl, rfl⟩)
    go_ret
    exact ⟨rfl, Below.refl _ _⟩
  · have n0 : len0 ≤ 1048576 := by omega
    by_cases h : len0 ≤ 100
    · exact walk_yes w a0 len0 cap0 z0 r0 n0 h
    · exact walk_len w a0 len0 cap0 z0 r0 n0 (by omega)

set_option maxRecDepth 100000 in
theorem lifted (os : Os) (started : os.Started) (H : Type) (enc : TypeId × Value → H) :
    ReturnsInHanded {} Try.checked os 14 .any (Rows.fnExactSumFracsSpec.pre6 enc Try.prog Try.f14 Rows.fnExactSumFracsRow.domain false) (Rows.fnExactSumFracsSpec.post enc Try.prog Try.f14 false true false false) := by
  refine returnsInHanded_of_change (C := Try.checked) own started (by kernel_rfl) Try.func14
    (ChangeSpec.witness6 (enc := enc) (C := Try.checked) false ⟨#[], #[.slice none 0 0], []⟩ 8 (by kernel_rfl) (by kernel_rfl) (by kernel_rfl) (by kernel_rfl)) ?_
  intro W base args ds gs before hval0 hW hcnd _
  have hval : ∀ (j : Nat) t v, Try.f14.params[j]? = some t → args[j]? = some v → Value.okWide Try.prog W .any base t v := hval0
  have hW' := hW
  obtain ⟨p, q, hA0, hV, rfl, hfz, hnd⟩ := hW
  have hA : DataW.TrodAll enc Try.prog W 0 (fun _ => true) true Try.f14.params.toList args.toList ds p := hA0
  rw [Try.params14] at hA hval
  obtain ⟨v0, vs0, d0, ds0, p0, q0, hargs, rfl, rfl, h0, r0⟩ := trodAll_cons hA
  obtain ⟨rfl, rfl, rfl⟩ := trodAll_nil r0
  obtain rfl : args = #[v0] := by cases args; simp_all
  obtain ⟨rfl, rfl⟩ := trodVars_none hV
  have k0 := h0
  have lt0 : ∀ x ∈ p0, x.block < W.heap.size := by obtain ⟨m, hm⟩ := k0; exact DataW.trod_lt m _ _ _ hm
  obtain ⟨a0, len0, cap0, rfl⟩ := okWide_slice Try.underlying43 (hval 0 43 v0 rfl rfl)
  obtain ⟨z0, w0⟩ := row_of_fracs h0
  clear hA0 hval0
  refine (walk W a0 len0 cap0 z0 w0).mono fun e W' ⟨he, bel⟩ => ?_
  subst he
  exact ⟨_, rfl, _, _, _, [], _, [], hW', trodAll_mk1 (shut_bool Try.underlying4 _), (trodAll_cons_mk (Below.trod laidOut (by kernel_rfl) (of_decide_eq_true (by kernel_rfl)) k0 bel lt0) trodAll_mk0), rfl, bel.frame _, fun h => by cases h⟩

theorem over : Rows.fnExactSumFracsRow.holds Try.pinned (OpenSpec.ofChange Rows.fnExactSumFracsSpec) :=
  OpenClaim.holds_of_wide 14 Try.f14 rfl rfl rfl rfl rfl rfl rfl ⟨rfl, rfl, rfl, rfl, rfl⟩ rfl rfl rfl rfl rfl (by kernel_rfl) Try.func14 (by kernel_rfl)
    (of_decide_eq_true (by kernel_rfl)) (by unfold Func.isWrapper; first | (rw [if_pos (by decide +kernel)]; kernel_rfl) | (rw [if_neg (by decide +kernel)]; exact ⟨rfl, rfl⟩))
    (fun os started H enc _ => lifted os started H enc)

theorem proved : Rows.FnExactSumFracsSaid := over
#print axioms proved
end Go.Proofs.Ytainbffcnaafkaa.fnExactSumFracs
