/- MakeFrac: what the reference and the program return; and for every two numbers FnExactMakeFrac returns true, and nothing that was in memory changes; no conditions beyond what the given row says. -/
import Derived.Test.YtainbffcnaafkaaMake
namespace Go.Proofs.Ytainbffcnaafkaa.fnExactMakeFrac
open Go.ChangeShapes Go.WideShapes Go.ChangeAt Go.RowKit
open Go.ChangeMaps (open_string shut_string)
set_option linter.unusedVariables false

theorem specMakeFrac_no (num den : Int) (w : World) (h : ¬ (-1000000000000000 ≤ num ∧ num ≤ 1000000000000000 ∧ 1 ≤ den ∧ den ≤ 1000000000000000)) :
    Calls Try.prog 20 #[.int .i64 num, .int .i64 den] w fun e w' => e = .returned (.tuple #[.agg #[.int .i64 0, .int .i64 0], .bool false]) ∧ Below w.heap.size w w' := by
  by_cases c1 : -1000000000000000 ≤ num ∧ num ≤ 1000000000000000
  · have c2 : ¬ (1 ≤ den ∧ den ≤ 1000000000000000) := by omega
    obtain ⟨c11, c12⟩ := c1
    clear h
    go_enter Try.func20, Try.ntmps20
    go_wp2_with (first | (go_at_call 50; refine (l1In_yes _ _ _ _ (by omega) (by omega)).mono ?_; rintro e w' ⟨rfl, rfl⟩) | (go_at_call 50; refine (l1In_no _ _ _ _ (by omega)).mono ?_; rintro e w' ⟨rfl, rfl⟩) | go_in)
    refine bodyPost_ret (v := .tuple #[.agg #[.int .i64 0, .int .i64 0], .bool false]) (by simp [results, Try.results20, go_sem]) rfl ⟨rfl, (by repeat (first | exact Below.refl _ _ | (refine below_drewN ?_ _) | (refine Below.drew ?_) | (refine Below.alloc ?_ (by first | exact Nat.le_refl _ | (simp; done) | (simp; omega) | omega) _) | (refine Below.setCell ?_ (by first | exact Nat.le_refl _ | (simp; done) | (simp; omega) | omega) _) | (refine Below.trans ?_ (Below.mono (by assumption) (by first | exact Nat.le_refl _ | (simp; done) | (simp; omega) | omega)))))⟩
  · clear h
    go_enter Try.func20, Try.ntmps20
    go_wp2_with (first | (go_at_call 50; refine (l1In_yes _ _ _ _ (by omega) (by omega)).mono ?_; rintro e w' ⟨rfl, rfl⟩) | (go_at_call 50; refine (l1In_no _ _ _ _ (by omega)).mono ?_; rintro e w' ⟨rfl, rfl⟩) | go_in)
    refine bodyPost_ret (v := .tuple #[.agg #[.int .i64 0, .int .i64 0], .bool false]) (by simp [results, Try.results20, go_sem]) rfl ⟨rfl, (by repeat (first | exact Below.refl _ _ | (refine below_drewN ?_ _) | (refine Below.drew ?_) | (refine Below.alloc ?_ (by first | exact Nat.le_refl _ | (simp; done) | (simp; omega) | omega) _) | (refine Below.setCell ?_ (by first | exact Nat.le_refl _ | (simp; done) | (simp; omega) | omega) _) | (refine Below.trans ?_ (Below.mono (by assumption) (by first | exact Nat.le_refl _ | (simp; done) | (simp; omega) | omega)))))⟩
theorem specMakeFrac_yes (num den : Int) (w : World) (h1 : -1000000000000000 ≤ num) (h2 : num ≤ 1000000000000000) (h3 : 1 ≤ den) (h4 : den ≤ 1000000000000000) :
    Calls Try.prog 20 #[.int .i64 num, .int .i64 den] w fun e w' => e = .returned (.tuple #[.agg #[.int .i64 (mkN num den), .int .i64 (mkD num den)], .bool (mkB num den)]) ∧ Below w.heap.size w w' := by
  go_enter Try.func20, Try.ntmps20
  go_wp2_with (first | (go_at_call 50; refine (l1In_yes _ _ _ _ (by omega) (by omega)).mono ?_; rintro e w' ⟨rfl, rfl⟩) | (go_at_call 50; refine (l1In_no _ _ _ _ (by omega)).mono ?_; rintro e w' ⟨rfl, rfl⟩) | (go_at_call 51; refine (l2Make_any _ _ _ (by omega) (by omega) (by omega) (by omega)).mono ?_; rintro e w1 ⟨rfl, hb⟩; obtain ⟨hc, hf⟩ := bcell hb) | go_in)
  obtain ⟨r0, r1⟩ := two_cells (w := w1) (b := w.heap.size) (x := .int .i64 0) (y := .int .i64 0) (by rw [hc _ _ (by first | (simp; done) | (simp; omega) | omega)]; go_simp) (by rw [hc _ _ (by first | (simp; done) | (simp; omega) | omega)]; go_simp)
  refine bodyPost_ret (v := .tuple #[.agg #[.int .i64 (mkN num den), .int .i64 (mkD num den)], .bool (mkB num den)]) (by simp [results, Try.results20, go_sem, r0, r1]) rfl ⟨rfl, (by repeat (first | exact Below.refl _ _ | (refine below_drewN ?_ _) | (refine Below.drew ?_) | (refine Below.alloc ?_ (by first | exact Nat.le_refl _ | (simp; done) | (simp; omega) | omega) _) | (refine Below.setCell ?_ (by first | exact Nat.le_refl _ | (simp; done) | (simp; omega) | omega) _) | (refine Below.trans ?_ (Below.mono (by assumption) (by first | exact Nat.le_refl _ | (simp; done) | (simp; omega) | omega)))))⟩

theorem implMakeFrac_no (num den : Int) (w : World) (h : ¬ (-1000000000000000 ≤ num ∧ num ≤ 1000000000000000 ∧ 1 ≤ den ∧ den ≤ 1000000000000000)) :
    Calls Try.prog 21 #[.int .i64 num, .int .i64 den] w fun e w' => e = .returned (.tuple #[.agg #[.int .i64 0, .int .i64 0], .bool false]) ∧ Below w.heap.size w w' := by
  by_cases c1 : -1000000000000000 ≤ num ∧ num ≤ 1000000000000000
  · have c2 : ¬ (1 ≤ den ∧ den ≤ 1000000000000000) := by omega
    obtain ⟨c11, c12⟩ := c1
    clear h
    go_enter Try.func21, Try.ntmps21
    go_wp2_with (first | (go_at_call 52; refine (within_yes _ _ _ _ (by omega) (by omega)).mono ?_; rintro e w' ⟨rfl, rfl⟩) | (go_at_call 52; refine (within_no _ _ _ _ (by omega)).mono ?_; rintro e w' ⟨rfl, rfl⟩) | go_in)
    refine bodyPost_ret (v := .tuple #[.agg #[.int .i64 0, .int .i64 0], .bool false]) (by simp [results, Try.results21, go_sem]) rfl ⟨rfl, (by repeat (first | exact Below.refl _ _ | (refine below_drewN ?_ _) | (refine Below.drew ?_) | (refine Below.alloc ?_ (by first | exact Nat.le_refl _ | (simp; done) | (simp; omega) | omega) _) | (refine Below.setCell ?_ (by first | exact Nat.le_refl _ | (simp; done) | (simp; omega) | omega) _) | (refine Below.trans ?_ (Below.mono (by assumption) (by first | exact Nat.le_refl _ | (simp; done) | (simp; omega) | omega)))))⟩
  · clear h
    go_enter Try.func21, Try.ntmps21
    go_wp2_with (first | (go_at_call 52; refine (within_yes _ _ _ _ (by omega) (by omega)).mono ?_; rintro e w' ⟨rfl, rfl⟩) | (go_at_call 52; refine (within_no _ _ _ _ (by omega)).mono ?_; rintro e w' ⟨rfl, rfl⟩) | go_in)
    refine bodyPost_ret (v := .tuple #[.agg #[.int .i64 0, .int .i64 0], .bool false]) (by simp [results, Try.results21, go_sem]) rfl ⟨rfl, (by repeat (first | exact Below.refl _ _ | (refine below_drewN ?_ _) | (refine Below.drew ?_) | (refine Below.alloc ?_ (by first | exact Nat.le_refl _ | (simp; done) | (simp; omega) | omega) _) | (refine Below.setCell ?_ (by first | exact Nat.le_refl _ | (simp; done) | (simp; omega) | omega) _) | (refine Below.trans ?_ (Below.mono (by assumption) (by first | exact Nat.le_refl _ | (simp; done) | (simp; omega) | omega)))))⟩
theorem implMakeFrac_yes (num den : Int) (w : World) (h1 : -1000000000000000 ≤ num) (h2 : num ≤ 1000000000000000) (h3 : 1 ≤ den) (h4 : den ≤ 1000000000000000) :
    Calls Try.prog 21 #[.int .i64 num, .int .i64 den] w fun e w' => e = .returned (.tuple #[.agg #[.int .i64 (mkN num den), .int .i64 (mkD num den)], .bool (mkB num den)]) ∧ Below w.heap.size w w' := by
  go_enter Try.func21, Try.ntmps21
  go_wp2_with (first | (go_at_call 52; refine (within_yes _ _ _ _ (by omega) (by omega)).mono ?_; rintro e w' ⟨rfl, rfl⟩) | (go_at_call 52; refine (within_no _ _ _ _ (by omega)).mono ?_; rintro e w' ⟨rfl, rfl⟩) | (go_at_call 53; refine (makeFrac_any _ _ _ (by omega) (by omega) (by omega) (by omega)).mono ?_; rintro e w1 ⟨rfl, hb⟩; obtain ⟨hc, hf⟩ := bcell hb) | go_in)
  obtain ⟨r0, r1⟩ := two_cells (w := w1) (b := w.heap.size) (x := .int .i64 0) (y := .int .i64 0) (by rw [hc _ _ (by first | (simp; done) | (simp; omega) | omega)]; go_simp) (by rw [hc _ _ (by first | (simp; done) | (simp; omega) | omega)]; go_simp)
  refine bodyPost_ret (v := .tuple #[.agg #[.int .i64 (mkN num den), .int .i64 (mkD num den)], .bool (mkB num den)]) (by simp [results, Try.results21, go_sem, r0, r1]) rfl ⟨rfl, (by repeat (first | exact Below.refl _ _ | (refine below_drewN ?_ _) | (refine Below.drew ?_) | (refine Below.alloc ?_ (by first | exact Nat.le_refl _ | (simp; done) | (simp; omega) | omega) _) | (refine Below.setCell ?_ (by first | exact Nat.le_refl _ | (simp; done) | (simp; omega) | omega) _) | (refine Below.trans ?_ (Below.mono (by assumption) (by first | exact Nat.le_refl _ | (simp; done) | (simp; omega) | omega)))))⟩

theorem walk_yes (w : World) (a b : Int) (h1 : -1000000000000000 ≤ a) (h2 : a ≤ 1000000000000000) (h3 : 1 ≤ b) (h4 : b ≤ 1000000000000000) :
    Calls Try.prog 5 #[.int .i64 a, .int .i64 b] w fun e w' => e = .returned (.bool true) ∧ Below w.heap.size w w' := by
  have hc := trivial
  go_enter Try.func5, Try.ntmps5
  go_wp2_with fail
  refine (specMakeFrac_yes _ _ _ h1 h2 h3 h4).mono ?_
  rintro e w1 ⟨rfl, hb1⟩
  go_wp2_with fail
  refine (implMakeFrac_yes _ _ _ h1 h2 h3 h4).mono ?_
  rintro e w2 ⟨rfl, hb2⟩
  obtain ⟨k0, k1, k2, k3, k4⟩ := two_new hb2
  go_wp2_with fail
  refine (eqFrac_same _ _ _).mono ?_
  rintro e w3 ⟨rfl, hb3⟩
  go_wp2
  go_ret
  have z1 := hb1.size
  have z2 := hb2.size
  simp at z2
  exact ⟨rfl, ((hb1.trans (Below.alloc (Below.refl _ _) (by omega) _)).trans (hb2.mono (by simp; omega))).trans (((Below.refl _ _).alloc (by omega) _).trans (hb3.mono (by simp; omega)))⟩

theorem walk_no (w : World) (a b : Int) (h : ¬ (-1000000000000000 ≤ a ∧ a ≤ 1000000000000000 ∧ 1 ≤ b ∧ b ≤ 1000000000000000)) :
    Calls Try.prog 5 #[.int .i64 a, .int .i64 b] w fun e w' => e = .returned (.bool true) ∧ Below w.heap.size w w' := by
  have H := hide h
  clear h
  go_enter Try.func5, Try.ntmps5
  go_wp2_with fail
  refine (specMakeFrac_no _ _ _ H.out).mono ?_
  rintro e w1 ⟨rfl, hb1⟩
  go_wp2_with fail
  refine (implMakeFrac_no _ _ _ H.out).mono ?_
  rintro e w2 ⟨rfl, hb2⟩
  obtain ⟨k0, k1, k2, k3, k4⟩ := two_new hb2
  go_wp2_with fail
  refine (eqFrac_same _ _ _).mono ?_
  rintro e w3 ⟨rfl, hb3⟩
  go_wp2
  go_ret
  have z1 := hb1.size
  have z2 := hb2.size
  simp at z2
  exact ⟨rfl, ((hb1.trans (Below.alloc (Below.refl _ _) (by omega) _)).trans (hb2.mono (by simp; omega))).trans (((Below.refl _ _).alloc (by omega) _).trans (hb3.mono (by simp; omega)))⟩

theorem walk (w : World) (a : Int) (w0 : (Lit.int .i64 a).wf = true) (b : Int) (w1 : (Lit.int .i64 b).wf = true) :
    Calls Try.prog 5 #[.int .i64 a, .int .i64 b] w fun e w' => e = .returned (.bool true) ∧ Below w.heap.size w w' := by
  by_cases h : -1000000000000000 ≤ a ∧ a ≤ 1000000000000000 ∧ 1 ≤ b ∧ b ≤ 1000000000000000
  · exact walk_yes w a b h.1 h.2.1 h.2.2.1 h.2.2.2
  · exact walk_no w a b h

set_option maxRecDepth 100000 in
theorem lifted (os : Os) (started : os.Started) (H : Type) (enc : TypeId × Value → H) :
    ReturnsInHanded {} Try.checked os 5 .any (Rows.fnExactMakeFracSpec.pre6 enc Try.prog Try.f5 Rows.fnExactMakeFracRow.domain false) (Rows.fnExactMakeFracSpec.post enc Try.prog Try.f5 false true false false) := by
  refine returnsInHanded_of_change (C := Try.checked) own started (by kernel_rfl) Try.func5
    (ChangeSpec.witness6 (enc := enc) (C := Try.checked) false ⟨#[], #[.int .i64 0, .int .i64 0], []⟩ 8 (by kernel_rfl) (by kernel_rfl) (by kernel_rfl) (by kernel_rfl)) ?_
  intro W base args ds gs before hval0 hW hcnd _
  have hval : ∀ (j : Nat) t v, Try.f5.params[j]? = some t → args[j]? = some v → Value.okWide Try.prog W .any base t v := hval0
  have hW' := hW
  obtain ⟨p, q, hA0, hV, rfl, hfz, hnd⟩ := hW
  have hA : DataW.TrodAll enc Try.prog W 0 (fun _ => true) true Try.f5.params.toList args.toList ds p := hA0
  rw [Try.params5] at hA hval
  obtain ⟨v0, vs0, d0, ds0, p0, q0, hargs, rfl, rfl, h0, r0⟩ := trodAll_cons hA
  obtain ⟨v1, vs1, d1, ds1, p1, q1, rfl, rfl, rfl, h1, r1⟩ := trodAll_cons r0
  obtain ⟨rfl, rfl, rfl⟩ := trodAll_nil r1
  obtain rfl : args = #[v0, v1] := by cases args; simp_all
  obtain ⟨rfl, rfl⟩ := trodVars_none hV
  obtain ⟨a0, rfl, rfl, rfl, w0⟩ := open_int Try.underlying3 (hval 0 3 v0 rfl rfl) h0
  obtain ⟨a1, rfl, rfl, rfl, w1⟩ := open_int Try.underlying3 (hval 1 3 v1 rfl rfl) h1
  clear hA0 hval0
  refine (walk W a0 w0 a1 w1).mono fun e W' ⟨he, bel⟩ => ?_
  subst he
  exact ⟨_, rfl, _, _, _, [], _, [], hW', trodAll_mk1 (shut_bool Try.underlying4 _), (trodAll_cons_mk (shut_int Try.underlying3 w0) (trodAll_cons_mk (shut_int Try.underlying3 w1) trodAll_mk0)), rfl, bel.frame _, fun h => by cases h⟩

theorem over : Rows.fnExactMakeFracRow.holds Try.pinned (OpenSpec.ofChange Rows.fnExactMakeFracSpec) :=
  OpenClaim.holds_of_wide 5 Try.f5 rfl rfl rfl rfl rfl rfl rfl ⟨rfl, rfl, rfl, rfl, rfl⟩ rfl rfl rfl rfl rfl (by kernel_rfl) Try.func5 (by kernel_rfl)
    (of_decide_eq_true (by kernel_rfl)) (by unfold Func.isWrapper; first | (rw [if_pos (by decide +kernel)]; kernel_rfl) | (rw [if_neg (by decide +kernel)]; exact ⟨rfl, rfl⟩))
    (fun os started H enc _ => lifted os started H enc)

theorem proved : Rows.FnExactMakeFracSaid := over
#print axioms proved
end Go.Proofs.Ytainbffcnaafkaa.fnExactMakeFrac
