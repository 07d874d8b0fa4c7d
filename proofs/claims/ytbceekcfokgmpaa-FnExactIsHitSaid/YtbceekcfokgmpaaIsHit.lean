/- For every number of items, every item and every cache FnExactIsHit returns true, and nothing that was in memory changes; no conditions beyond what the given row says. -/
import Derived.Test.YtbceekcfokgmpaaHitC
import Derived.Test.YtbceekcfokgmpaaCacheB
namespace Go.Proofs.Ytbceekcfokgmpaa.fnExactIsHit
open Go.ChangeShapes Go.WideShapes Go.ChangeAt Go.RowKit
open Go.ChangeMaps (open_string shut_string)
set_option linter.unusedVariables false

set_option maxRecDepth 100000 in
set_option maxHeartbeats 3200000 in
theorem walk (w : World) (a0 : Int) (_w0 : (Lit.int .i64 a0).wf = true) (c : CV) (w1 : c.In w) (a2 : Int) (_w2 : (Lit.int .i64 a2).wf = true) :
    Calls Try.prog 12 #[.int .i64 a0, c.val, .int .i64 a2] w fun e w' => e = .returned (.bool true) ∧ Below w.heap.size w w' := by
  obtain ⟨p, s, A1, n1, c1, xs, A2, n2, c2, ys, h⟩ := c
  obtain ⟨⟨r1, m1, m1', _⟩, ⟨r2, m2, m2', _⟩, _⟩ := w1
  simp only at r1 m1 m1' r2 m2 m2'
  show Calls Try.prog 12 #[.int .i64 a0, .agg #[.int .i64 p, .int .i64 s, .slice A1 n1 c1, .slice A2 n2 c2, .int .i64 h], .int .i64 a2] w _
  have g1 : n1 ≤ maxLen := Nat.le_trans m1 m1'
  have g2 : n2 ≤ maxLen := Nat.le_trans m2 m2'
  have hB := (Below.refl w.heap.size w).alloc (Nat.le_refl _) (.cells #[.int .i64 p, .int .i64 s, .slice A1 n1 c1, .slice A2 n2 c2, .int .i64 h] 36)
  have HF := hide (Five.new w 36 (.int .i64 p) (.int .i64 s) (.slice A1 n1 c1) (.slice A2 n2 c2) (.int .i64 h))
  replace hB := hide hB
  have hsz := fun w' => szCache_any p s h A1 n1 c1 A2 n2 c2 1048576 w' (Nat.le_refl _) g1 g2
  replace r1 := hide r1
  replace r2 := hide r2
  clear m1 m1' m2 m2' g1 g2
  by_cases hz : n1 + n2 ≤ 1048576
  · have hn1 : n1 ≤ 1048576 := by omega
    have hn2 : n2 ≤ 1048576 := by omega
    rw [show szC n1 n2 1048576 = ((1048576 - n1 - n2 : Nat) : Int) from if_pos hz] at hsz
    generalize 1048576 - n1 - n2 = M at hsz
    have hs := fun B1 d1 B2 d2 w' (q1 : RdI w' B1 n1 xs) (q2 : RdI w' B2 n2 ys) => spec_IsHit a0 p s h a2 B1 n1 d1 B2 n2 d2 xs ys w' q1 q2 hn1 hn2
    have hi := fun B1 d1 B2 d2 w' (q1 : RdI w' B1 n1 xs) (q2 : RdI w' B2 n2 ys) => impl_IsHit a0 p s h a2 B1 n1 d1 B2 n2 d2 xs ys w' q1 q2 hn1 hn2
    generalize hitB a0 p s xs ys h a2 = g at hs hi
    generalize hitOk a0 p s xs ys h a2 = k at hs hi
    have hk : (k != k) = false := by simp
    have hg : (g != g) = false := by simp
    replace hs := hide hs
    replace hi := hide hi
    replace hsz := hide hsz
    clear hz
    obtain ⟨f0, f1, f2, f3, f4, f5⟩ := HF.out
    go_enter Try.func12, Try.ntmps12
    go_wp2_with fail
    refine (hsz.out _).mono ?_
    rintro e W0 ⟨rfl, hb⟩
    clear f0 f1 f2 f3 f4 f5
    replace HF := hide (HF.out.on hb)
    replace hB := hide (hB.out.trans (hb.mono hB.out.size))
    clear hb
    obtain ⟨f0, f1, f2, f3, f4, f5⟩ := HF.out
    go_wp2_with fail
    refine (toCache_any p s h A1 n1 c1 A2 n2 c2 xs ys _ (r1.out.below hB.out) (r2.out.below hB.out) hn1 hn2).mono ?_
    rintro e W1 ⟨B1, d1, B2, d2, rfl, o1, o2, hb⟩
    clear f0 f1 f2 f3 f4 f5
    replace o1 := hide o1
    replace o2 := hide o2
    replace HF := hide (HF.out.on hb)
    replace hB := hide (hB.out.trans (hb.mono hB.out.size))
    clear hb
    obtain ⟨f0, f1, f2, f3, f4, f5⟩ := HF.out
    go_wp2_with fail
    refine (hs.out B1 d1 B2 d2 _ o1.out.rd o2.out.rd).mono ?_
    rintro e W2 ⟨rfl, hb⟩
    clear f0 f1 f2 f3 f4 f5
    clear o1 o2
    replace HF := hide (HF.out.on hb)
    replace hB := hide (hB.out.trans (hb.mono hB.out.size))
    clear hb
    obtain ⟨f0, f1, f2, f3, f4, f5⟩ := HF.out
    go_wp2_with fail
    refine (toCache_any p s h A1 n1 c1 A2 n2 c2 xs ys _ (r1.out.below hB.out) (r2.out.below hB.out) hn1 hn2).mono ?_
    rintro e W3 ⟨D1, e1, D2, e2, rfl, o1, o2, hb⟩
    clear f0 f1 f2 f3 f4 f5
    replace o1 := hide o1
    replace o2 := hide o2
    replace HF := hide (HF.out.on hb)
    replace hB := hide (hB.out.trans (hb.mono hB.out.size))
    clear hb
    have hb := (Below.refl W3.heap.size W3).alloc (Nat.le_refl _) (.cells #[.int .i64 p, .int .i64 s, .slice D1 n1 e1, .slice D2 n2 e2, .int .i64 h] 39)
    have HX := hide (Five.new W3 39 (.int .i64 p) (.int .i64 s) (.slice D1 n1 e1) (.slice D2 n2 e2) (.int .i64 h))
    replace o1 := hide (o1.out.below hb)
    replace o2 := hide (o2.out.below hb)
    replace HF := hide (HF.out.on hb)
    replace hB := hide (hB.out.trans (hb.mono hB.out.size))
    clear hb
    obtain ⟨f0, f1, f2, f3, f4, f5⟩ := HF.out
    obtain ⟨x0, x1, x2, x3, x4, x5⟩ := HX.out
    go_wp2_with fail
    refine (hi.out D1 e1 D2 e2 _ o1.out.rd o2.out.rd).mono ?_
    rintro e W5 ⟨rfl, hb⟩
    clear f0 f1 f2 f3 f4 f5
    clear x0 x1 x2 x3 x4 x5
    replace o1 := hide (o1.out.below hb)
    replace o2 := hide (o2.out.below hb)
    replace HF := hide (HF.out.on hb)
    replace HX := hide (HX.out.on hb)
    replace hB := hide (hB.out.trans (hb.mono hB.out.size))
    clear hb
    obtain ⟨f0, f1, f2, f3, f4, f5⟩ := HF.out
    obtain ⟨x0, x1, x2, x3, x4, x5⟩ := HX.out
    have mkS := hide (fun (w' : World) (k : Kept W5.heap.size W5 w') => (⟨(k.cells _ _ f0).trans f1, (k.cells _ _ f0).trans f2, (k.cells _ _ f0).trans f3, (k.cells _ _ f0).trans f4, (k.cells _ _ f0).trans f5, (k.cells _ _ x0).trans x1, (k.cells _ _ x0).trans x2, (k.cells _ _ x0).trans x3, (k.cells _ _ x0).trans x4, (k.cells _ _ x0).trans x5, k⟩ : w'.cell? ⟨w.heap.size, 0, none⟩ = some (.int .i64 p) ∧ w'.cell? ⟨w.heap.size, 1, none⟩ = some (.int .i64 s) ∧ w'.cell? ⟨w.heap.size, 2, none⟩ = some (.slice A1 n1 c1) ∧ w'.cell? ⟨w.heap.size, 3, none⟩ = some (.slice A2 n2 c2) ∧ w'.cell? ⟨w.heap.size, 4, none⟩ = some (.int .i64 h) ∧ w'.cell? ⟨W3.heap.size, 0, none⟩ = some (.int .i64 p) ∧ w'.cell? ⟨W3.heap.size, 1, none⟩ = some (.int .i64 s) ∧ w'.cell? ⟨W3.heap.size, 2, none⟩ = some (.slice D1 n1 e1) ∧ w'.cell? ⟨W3.heap.size, 3, none⟩ = some (.slice D2 n2 e2) ∧ w'.cell? ⟨W3.heap.size, 4, none⟩ = some (.int .i64 h) ∧ Kept W5.heap.size W5 w'))
    have HK := Kept.start (Nat.le_refl W5.heap.size)
    have kc := hide (fun (w' : World) (k : Kept W5.heap.size W5 w') => toCache_any p s h A1 n1 c1 A2 n2 c2 xs ys w' (r1.out.below (hB.out.trans (k.1.mono hB.out.size))) (r2.out.below (hB.out.trans (k.1.mono hB.out.size))) hn1 hn2)
    have ke := hide (fun (w' : World) (k : Kept W5.heap.size W5 w') E1 l1 E2 l2 (q1 : RdI w' E1 n1 xs) (q2 : RdI w' E2 n2 ys) => eqCache_same p s h D1 n1 e1 D2 n2 e2 xs ys E1 l1 E2 l2 w' (o1.out.rd.below k.1) (o2.out.rd.below k.1) q1 q2 hn1 hn2)
    clear f0 f1 f2 f3 f4 f5
    clear x0 x1 x2 x3 x4 x5
    obtain ⟨f1, f2, f3, f4, f5, x1, x2, x3, x4, x5, _⟩ := mkS.out _ HK
    go_wp2_with fail
    go_region_held3 (fun w' => w'.cell? ⟨w.heap.size, 0, none⟩ = some (.int .i64 p) ∧ w'.cell? ⟨w.heap.size, 1, none⟩ = some (.int .i64 s) ∧ w'.cell? ⟨w.heap.size, 2, none⟩ = some (.slice A1 n1 c1) ∧ w'.cell? ⟨w.heap.size, 3, none⟩ = some (.slice A2 n2 c2) ∧ w'.cell? ⟨w.heap.size, 4, none⟩ = some (.int .i64 h) ∧ w'.cell? ⟨W3.heap.size, 0, none⟩ = some (.int .i64 p) ∧ w'.cell? ⟨W3.heap.size, 1, none⟩ = some (.int .i64 s) ∧ w'.cell? ⟨W3.heap.size, 2, none⟩ = some (.slice D1 n1 e1) ∧ w'.cell? ⟨W3.heap.size, 3, none⟩ = some (.slice D2 n2 e2) ∧ w'.cell? ⟨W3.heap.size, 4, none⟩ = some (.int .i64 h) ∧ Kept W5.heap.size W5 w')
      (first | exact mkS.out _ HK | exact mkS.out _ HK.drew)
      (first
        | (go_at_call 31; refine (kc.out _ (by first | exact HK | exact HK.drew)).mono ?_; rintro e w6 ⟨E1, l1, E2, l2, rfl, u1, u2, hb⟩; go_must (have U1 := hide u1.rd); go_must (have U2 := hide u2.rd); go_must (have HK := Kept.step (by first | exact HK | exact HK.drew) hb))
        | (go_at_call 33; refine (ke.out _ (by first | exact HK | exact HK.drew) _ _ _ _ (by first | exact U1.out | exact RdI.drewN U1.out 1) (by first | exact U2.out | exact RdI.drewN U2.out 1)).mono ?_; rintro e w7 ⟨rfl, hb⟩; go_must (have HK := Kept.step (by first | exact HK | exact HK.drew) hb)))
    all_goals go_wp2_with fail
    all_goals go_ret
    all_goals (first | exact ⟨rfl, HK.below hB.out hB.out.size⟩ | exact ⟨rfl, HK.drew.below hB.out hB.out.size⟩)
  · rw [show szC n1 n2 1048576 = -1 from if_neg hz] at hsz
    replace hsz := hide hsz
    obtain ⟨f0, f1, f2, f3, f4, f5⟩ := HF.out
    go_enter Try.func12, Try.ntmps12
    go_wp2_with fail
    refine (hsz.out _).mono ?_
    rintro e W0 ⟨rfl, hb⟩
    clear f0 f1 f2 f3 f4 f5
    replace HF := hide (HF.out.on hb)
    replace hB := hide (hB.out.trans (hb.mono hB.out.size))
    clear hb
    go_wp2_with fail
    go_ret
    exact ⟨rfl, hB.out⟩

set_option maxRecDepth 100000 in
theorem lifted (os : Os) (started : os.Started) (H : Type) (enc : TypeId × Value → H) :
    ReturnsInHanded {} Try.checked os 12 .any (Rows.fnExactIsHitSpec.pre6 enc Try.prog Try.f12 Rows.fnExactIsHitRow.domain false) (Rows.fnExactIsHitSpec.post enc Try.prog Try.f12 false true false false) := by
  refine returnsInHanded_of_change (C := Try.checked) own started (by kernel_rfl) Try.func12
    (ChangeSpec.witness6 (enc := enc) (C := Try.checked) false ⟨#[], #[.int .i64 0, .agg #[.int .i64 0, .int .i64 0, .slice none 0 0, .slice none 0 0, .int .i64 0], .int .i64 0], []⟩ 8 (by kernel_rfl) (by kernel_rfl) (by kernel_rfl) (by kernel_rfl)) ?_
  intro W base args ds gs before hval0 hW hcnd _
  have hval : ∀ (j : Nat) t v, Try.f12.params[j]? = some t → args[j]? = some v → Value.okWide Try.prog W .any base t v := hval0
  have hW' := hW
  obtain ⟨p, q, hA0, hV, rfl, hfz, hnd⟩ := hW
  have hA : DataW.TrodAll enc Try.prog W 0 (fun _ => true) true Try.f12.params.toList args.toList ds p := hA0
  rw [Try.params12] at hA hval
  obtain ⟨v0, vs0, d0, ds0, p0, q0, hargs, rfl, rfl, h0, r0⟩ := trodAll_cons hA
  obtain ⟨v1, vs1, d1, ds1, p1, q1, rfl, rfl, rfl, h1, r1⟩ := trodAll_cons r0
  obtain ⟨v2, vs2, d2, ds2, p2, q2, rfl, rfl, rfl, h2, r2⟩ := trodAll_cons r1
  obtain ⟨rfl, rfl, rfl⟩ := trodAll_nil r2
  obtain rfl : args = #[v0, v1, v2] := by cases args; simp_all
  obtain ⟨rfl, rfl⟩ := trodVars_none hV
  obtain ⟨a0, rfl, rfl, rfl, w0⟩ := open_int Try.underlying3 (hval 0 3 v0 rfl rfl) h0
  have k1 := h1
  have lt1 : ∀ x ∈ p1, x.block < W.heap.size := by obtain ⟨m, hm⟩ := k1; exact DataW.trod_lt m _ _ _ hm
  obtain ⟨c1, rfl, w1⟩ := cache_of (hval 1 36 v1 rfl rfl) h1
  obtain ⟨a2, rfl, rfl, rfl, w2⟩ := open_int Try.underlying3 (hval 2 3 v2 rfl rfl) h2
  clear hA0 hval0
  refine (walk W a0 w0 c1 w1 a2 w2).mono fun e W' ⟨he, bel⟩ => ?_
  subst he
  exact ⟨_, rfl, _, _, _, [], _, [], hW', trodAll_mk1 (shut_bool Try.underlying4 _), (trodAll_cons_mk (shut_int Try.underlying3 w0) (trodAll_cons_mk (Below.trod laidOut (by kernel_rfl) (of_decide_eq_true (by kernel_rfl)) k1 bel lt1) (trodAll_cons_mk (shut_int Try.underlying3 w2) trodAll_mk0))), rfl, bel.frame _, fun h => by cases h⟩

theorem over : Rows.fnExactIsHitRow.holds Try.pinned (OpenSpec.ofChange Rows.fnExactIsHitSpec) :=
  OpenClaim.holds_of_wide 12 Try.f12 rfl rfl rfl rfl rfl rfl rfl ⟨rfl, rfl, rfl, rfl, rfl⟩ rfl rfl rfl rfl rfl (by kernel_rfl) Try.func12 (by kernel_rfl)
    (of_decide_eq_true (by kernel_rfl)) (by unfold Func.isWrapper; first | (rw [if_pos (by decide +kernel)]; kernel_rfl) | (rw [if_neg (by decide +kernel)]; exact ⟨rfl, rfl⟩))
    (fun os started H enc _ => lifted os started H enc)

theorem proved : Rows.FnExactIsHitSaid := over
#print axioms proved
end Go.Proofs.Ytbceekcfokgmpaa.fnExactIsHit
