/- For every number of items and every cache FnExactCacheText returns true, and nothing that was in memory changes; the premise is the given card's own: the listed tables of Go's library read as their initialisers lay them. -/
import Derived.Test.YtkimbgehnhcmaaaDoorCacheTC
import Derived.Test.YtkimbgehnhcmaaaDoorCacheTF
import Derived.Test.YtkimbgehnhcmaaaDoorCacheB
import Derived.Test.YtkimbgehnhcmaaaDoorDoor
import Derived.Lay
namespace Go.Proofs.YtkimbgehnhcmaaaDoor.fnExactCacheText
open Go.ChangeShapes Go.WideShapes Go.ChangeAt Go.RowKit
open Go.ChangeMaps (open_string shut_string)
set_option linter.unusedVariables false
open Go

theorem of_laid {W : World} (h : laidMetH Tryd.prog Rows.fnExactCacheTextRow.laid W) : Tab W := by
  rw [MakeChecks.laidMetH_plain _ _ _ (by kernel_rfl)] at h
  exact tab_of h
theorem str_self (t : ByteArray) : (t.toList == t.toList) = true := by simp

set_option maxRecDepth 100000 in
set_option maxHeartbeats 3200000 in
theorem walk (w : World) (htab : Tab w) (hm : ∃ m, w.cell? ⟨0, 0, none⟩ = some (.int .i64 m)) (a0 : Int) (_w0 : (Lit.int .i64 a0).wf = true) (c : CV) (w1 : c.In w) :
    Calls Tryd.prog 3 #[.int .i64 a0, c.val] w fun e w' => e = .returned (.bool true) ∧ Below w.heap.size w w' := by
  obtain ⟨m, hm⟩ := hm
  have hT := hide (show Tabs m w from ⟨htab, hm⟩)
  clear htab hm
  obtain ⟨p, s, A1, n1, c1, xs, A2, n2, c2, ys, h⟩ := c
  obtain ⟨⟨r1, m1, m1', _⟩, ⟨r2, m2, m2', _⟩, _⟩ := w1
  simp only at r1 m1 m1' r2 m2 m2'
  show Calls Tryd.prog 3 #[.int .i64 a0, .agg #[.int .i64 p, .int .i64 s, .slice A1 n1 c1, .slice A2 n2 c2, .int .i64 h]] w _
  have g1 : n1 ≤ maxLen := Nat.le_trans m1 m1'
  have g2 : n2 ≤ maxLen := Nat.le_trans m2 m2'
  have hB := (Below.refl w.heap.size w).alloc (Nat.le_refl _) (.cells #[.int .i64 p, .int .i64 s, .slice A1 n1 c1, .slice A2 n2 c2, .int .i64 h] 24)
  have HF := hide (Five.new w 24 (.int .i64 p) (.int .i64 s) (.slice A1 n1 c1) (.slice A2 n2 c2) (.int .i64 h))
  replace hB := hide hB
  have hsz := fun w' => szCache_any p s h A1 n1 c1 A2 n2 c2 1048576 w' (Nat.le_refl _) g1 g2
  replace r1 := hide r1
  replace r2 := hide r2
  clear m1 m1' m2 m2' g1 g2
  by_cases hz : n1 + n2 ≤ 1048576
  · have hn1 : n1 ≤ 1048576 := by omega
    have hn2 : n2 ≤ 1048576 := by omega
    rw [show szC n1 n2 1048576 = ((1048576 - n1 - n2 : Nat) : Int) from if_pos hz] at hsz
    generalize 1048576 - n1 - n2 = M at hsz
    have hs := fun B1 d1 B2 d2 w' (q1 : RdI w' B1 n1 xs) (q2 : RdI w' B2 n2 ys) => sCacheText_any a0 p s h B1 n1 d1 B2 n2 d2 xs ys w' q1 q2 hn2
    have hi := fun B1 d1 B2 d2 w' (q1 : RdI w' B1 n1 xs) (q2 : RdI w' B2 n2 ys) (q3 : Tabs m w') => iCacheText_any m a0 p s h B1 n1 d1 B2 n2 d2 xs ys w' q1 q2 hn2 q3
    generalize cacheB a0 p s xs ys h = g at hs hi
    generalize ctText a0 p s xs ys h = t at hs hi
    have ht0 := str_self t
    have hg : (g != g) = false := by simp
    replace hs := hide hs
    replace hi := hide hi
    replace hsz := hide hsz
    clear hz
    obtain ⟨f0, f1, f2, f3, f4, f5⟩ := HF.out
    go_enter Tryd.func3, Tryd.ntmps3
    go_wp2_with fail
    refine (hsz.out _).mono ?_
    rintro e W0 ⟨rfl, hb⟩
    clear f0 f1 f2 f3 f4 f5
    replace HF := hide (HF.out.on hb)
    replace hB := hide (hB.out.trans (hb.mono hB.out.size))
    clear hb
    obtain ⟨f0, f1, f2, f3, f4, f5⟩ := HF.out
    go_wp2_with fail
    refine (toCache_any p s h A1 n1 c1 A2 n2 c2 xs ys _ (r1.out.below hB.out) (r2.out.below hB.out) hn1 hn2).mono ?_
    rintro e W1 ⟨B1, d1, B2, d2, rfl, o1, o2, hb⟩
    clear f0 f1 f2 f3 f4 f5
    replace o1 := hide o1
    replace o2 := hide o2
    replace HF := hide (HF.out.on hb)
    replace hB := hide (hB.out.trans (hb.mono hB.out.size))
    clear hb
    obtain ⟨f0, f1, f2, f3, f4, f5⟩ := HF.out
    go_wp2_with fail
    refine (hs.out B1 d1 B2 d2 _ o1.out.rd o2.out.rd).mono ?_
    rintro e W2 ⟨rfl, hb⟩
    clear f0 f1 f2 f3 f4 f5
    clear o1 o2
    replace HF := hide (HF.out.on hb)
    replace hB := hide (hB.out.trans (hb.mono hB.out.size))
    clear hb
    obtain ⟨f0, f1, f2, f3, f4, f5⟩ := HF.out
    go_wp2_with fail
    refine (toCache_any p s h A1 n1 c1 A2 n2 c2 xs ys _ (r1.out.below hB.out) (r2.out.below hB.out) hn1 hn2).mono ?_
    rintro e W3 ⟨D1, e1, D2, e2, rfl, o1, o2, hb⟩
    clear f0 f1 f2 f3 f4 f5
    replace o1 := hide o1
    replace o2 := hide o2
    replace HF := hide (HF.out.on hb)
    replace hB := hide (hB.out.trans (hb.mono hB.out.size))
    clear hb
    have hb := (Below.refl W3.heap.size W3).alloc (Nat.le_refl _) (.cells #[.int .i64 p, .int .i64 s, .slice D1 n1 e1, .slice D2 n2 e2, .int .i64 h] 28)
    have HX := hide (Five.new W3 28 (.int .i64 p) (.int .i64 s) (.slice D1 n1 e1) (.slice D2 n2 e2) (.int .i64 h))
    replace o1 := hide (o1.out.below hb)
    replace o2 := hide (o2.out.below hb)
    replace HF := hide (HF.out.on hb)
    replace hB := hide (hB.out.trans (hb.mono hB.out.size))
    clear hb
    obtain ⟨f0, f1, f2, f3, f4, f5⟩ := HF.out
    obtain ⟨x0, x1, x2, x3, x4, x5⟩ := HX.out
    go_wp2_with fail
    refine (hi.out D1 e1 D2 e2 _ o1.out.rd o2.out.rd (hT.out.below hB.out)).mono ?_
    rintro e W5 ⟨rfl, hb⟩
    clear f0 f1 f2 f3 f4 f5
    clear x0 x1 x2 x3 x4 x5
    replace o1 := hide (o1.out.below hb)
    replace o2 := hide (o2.out.below hb)
    replace HF := hide (HF.out.on hb)
    replace HX := hide (HX.out.on hb)
    replace hB := hide (hB.out.trans (hb.mono hB.out.size))
    clear hb
    obtain ⟨f0, f1, f2, f3, f4, f5⟩ := HF.out
    obtain ⟨x0, x1, x2, x3, x4, x5⟩ := HX.out
    have mkS := hide (fun (w' : World) (k : Kept W5.heap.size W5 w') => (⟨(k.cells _ _ f0).trans f1, (k.cells _ _ f0).trans f2, (k.cells _ _ f0).trans f3, (k.cells _ _ f0).trans f4, (k.cells _ _ f0).trans f5, (k.cells _ _ x0).trans x1, (k.cells _ _ x0).trans x2, (k.cells _ _ x0).trans x3, (k.cells _ _ x0).trans x4, (k.cells _ _ x0).trans x5, k⟩ : w'.cell? ⟨w.heap.size, 0, none⟩ = some (.int .i64 p) ∧ w'.cell? ⟨w.heap.size, 1, none⟩ = some (.int .i64 s) ∧ w'.cell? ⟨w.heap.size, 2, none⟩ = some (.slice A1 n1 c1) ∧ w'.cell? ⟨w.heap.size, 3, none⟩ = some (.slice A2 n2 c2) ∧ w'.cell? ⟨w.heap.size, 4, none⟩ = some (.int .i64 h) ∧ w'.cell? ⟨W3.heap.size, 0, none⟩ = some (.int .i64 p) ∧ w'.cell? ⟨W3.heap.size, 1, none⟩ = some (.int .i64 s) ∧ w'.cell? ⟨W3.heap.size, 2, none⟩ = some (.slice D1 n1 e1) ∧ w'.cell? ⟨W3.heap.size, 3, none⟩ = some (.slice D2 n2 e2) ∧ w'.cell? ⟨W3.heap.size, 4, none⟩ = some (.int .i64 h) ∧ Kept W5.heap.size W5 w'))
    have HK := Kept.start (Nat.le_refl W5.heap.size)
    have kc := hide (fun (w' : World) (k : Kept W5.heap.size W5 w') => toCache_any p s h A1 n1 c1 A2 n2 c2 xs ys w' (r1.out.below (hB.out.trans (k.1.mono hB.out.size))) (r2.out.below (hB.out.trans (k.1.mono hB.out.size))) hn1 hn2)
    have ke := hide (fun (w' : World) (k : Kept W5.heap.size W5 w') E1 l1 E2 l2 (q1 : RdI w' E1 n1 xs) (q2 : RdI w' E2 n2 ys) => eqCache_same p s h D1 n1 e1 D2 n2 e2 xs ys E1 l1 E2 l2 w' (o1.out.rd.below k.1) (o2.out.rd.below k.1) q1 q2 hn1 hn2)
    clear f0 f1 f2 f3 f4 f5
    clear x0 x1 x2 x3 x4 x5
    obtain ⟨f1, f2, f3, f4, f5, x1, x2, x3, x4, x5, _⟩ := mkS.out _ HK
    go_wp2_with fail
    go_region_held3 (fun w' => w'.cell? ⟨w.heap.size, 0, none⟩ = some (.int .i64 p) ∧ w'.cell? ⟨w.heap.size, 1, none⟩ = some (.int .i64 s) ∧ w'.cell? ⟨w.heap.size, 2, none⟩ = some (.slice A1 n1 c1) ∧ w'.cell? ⟨w.heap.size, 3, none⟩ = some (.slice A2 n2 c2) ∧ w'.cell? ⟨w.heap.size, 4, none⟩ = some (.int .i64 h) ∧ w'.cell? ⟨W3.heap.size, 0, none⟩ = some (.int .i64 p) ∧ w'.cell? ⟨W3.heap.size, 1, none⟩ = some (.int .i64 s) ∧ w'.cell? ⟨W3.heap.size, 2, none⟩ = some (.slice D1 n1 e1) ∧ w'.cell? ⟨W3.heap.size, 3, none⟩ = some (.slice D2 n2 e2) ∧ w'.cell? ⟨W3.heap.size, 4, none⟩ = some (.int .i64 h) ∧ Kept W5.heap.size W5 w')
      (first | exact mkS.out _ HK | exact mkS.out _ HK.drew)
      (first
        | (go_at_call 6; refine (kc.out _ (by first | exact HK | exact HK.drew)).mono ?_; rintro e w6 ⟨E1, l1, E2, l2, rfl, u1, u2, hb⟩; go_must (have U1 := hide u1.rd); go_must (have U2 := hide u2.rd); go_must (have HK := Kept.step (by first | exact HK | exact HK.drew) hb))
        | (go_at_call 8; refine (ke.out _ (by first | exact HK | exact HK.drew) _ _ _ _ (by first | exact U1.out | exact RdI.drewN U1.out 1) (by first | exact U2.out | exact RdI.drewN U2.out 1)).mono ?_; rintro e w7 ⟨rfl, hb⟩; go_must (have HK := Kept.step (by first | exact HK | exact HK.drew) hb)))
    all_goals go_wp2_with fail
    all_goals go_ret
    all_goals (first | exact ⟨rfl, HK.below hB.out hB.out.size⟩ | exact ⟨rfl, HK.drew.below hB.out hB.out.size⟩)
  · rw [show szC n1 n2 1048576 = -1 from if_neg hz] at hsz
    replace hsz := hide hsz
    obtain ⟨f0, f1, f2, f3, f4, f5⟩ := HF.out
    go_enter Tryd.func3, Tryd.ntmps3
    go_wp2_with fail
    refine (hsz.out _).mono ?_
    rintro e W0 ⟨rfl, hb⟩
    clear f0 f1 f2 f3 f4 f5
    replace HF := hide (HF.out.on hb)
    replace hB := hide (hB.out.trans (hb.mono hB.out.size))
    clear hb
    go_wp2_with fail
    go_ret
    exact ⟨rfl, hB.out⟩

set_option maxRecDepth 100000 in
theorem lifted (os : Os) (started : os.Started) (H : Type) (enc : TypeId × Value → H) :
    ReturnsInHanded {} Tryd.checked os 3 .any (fun w args => (Rows.fnExactCacheTextSpec.pre enc Tryd.prog Tryd.f3 Rows.fnExactCacheTextRow.domain false w args ∧ laidMetH Tryd.prog Rows.fnExactCacheTextRow.laid w) ∧ sizedMet enc Tryd.prog Tryd.f3 (OpenSpec.ofChange Rows.fnExactCacheTextSpec) false w args) (Rows.fnExactCacheTextSpec.post enc Tryd.prog Tryd.f3 false true false false) := by
  refine lift_both (C := Tryd.checked) (X := fun w => laidMetH Tryd.prog Rows.fnExactCacheTextRow.laid w) (fun _ _ hh h => h.of_heap hh) own started (by kernel_rfl) Tryd.func3
    (ChangeSpec.witness_shaped (enc := enc) (C := Tryd.checked) (os := os) (X := fun w _ => laidMetH Tryd.prog Rows.fnExactCacheTextRow.laid w) false (World.laidAll Tryd.prog os Rows.fnExactCacheTextRow.laid) #[.int .i64 0, .agg #[.int .i64 0, .int .i64 0, .slice none 0 0, .slice none 0 0, .int .i64 0]] 8 (World.laidAll_os _ _ _)
      (World.shaped_of_ZipB (by kernel_rfl) (by kernel_rfl)) (by kernel_rfl) (by kernel_rfl) (by kernel_rfl)
      (by rw [MakeChecks.laidMetH_plain _ _ _ (by kernel_rfl)]; exact laidMet_laidAll _ (by kernel_rfl) (by kernel_rfl))) ?_
  intro W base args ds gs before hval0 hW hL hsh
  have hval : ∀ (j : Nat) t v, Tryd.f3.params[j]? = some t → args[j]? = some v → Value.okWide Tryd.prog W .any base t v := hval0
  have hW' := hW
  obtain ⟨p, q, hA0, hV, rfl, hfz, hnd⟩ := hW
  have hA : DataW.TrodAll enc Tryd.prog W 0 (fun _ => true) true Tryd.f3.params.toList args.toList ds p := hA0
  rw [Tryd.params3] at hA hval
  obtain ⟨v0, vs0, d0, ds0, p0, q0, hargs, rfl, rfl, h0, r0⟩ := trodAll_cons hA
  obtain ⟨v1, vs1, d1, ds1, p1, q1, rfl, rfl, rfl, h1, r1⟩ := trodAll_cons r0
  obtain ⟨rfl, rfl, rfl⟩ := trodAll_nil r1
  obtain rfl : args = #[v0, v1] := by cases args; simp_all
  obtain ⟨rfl, rfl⟩ := trodVars_none hV
  obtain ⟨a0, rfl, rfl, rfl, w0⟩ := open_int Tryd.underlying3 (hval 0 3 v0 rfl rfl) h0
  have k1 := h1
  have lt1 : ∀ x ∈ p1, x.block < W.heap.size := by obtain ⟨m, hm⟩ := k1; exact DataW.trod_lt m _ _ _ hm
  obtain ⟨c1, rfl, w1⟩ := cache_of (hval 1 24 v1 rfl rfl) h1
  clear hA0 hval0
  refine (walk W (of_laid hL) (maxLen_of hsh) a0 w0 c1 w1).mono fun e W' ⟨he, bel⟩ => ?_
  subst he
  exact ⟨_, rfl, _, _, _, [], _, [], hW', trodAll_mk1 (shut_bool Tryd.underlying4 _), (trodAll_cons_mk (shut_int Tryd.underlying3 w0) (trodAll_cons_mk (Below.trod laidOut (by kernel_rfl) (of_decide_eq_true (by kernel_rfl)) k1 bel lt1) trodAll_mk0)), rfl, bel.frame _, fun h => by cases h⟩

theorem over : Rows.fnExactCacheTextRow.holds Tryd.pinned (OpenSpec.ofChange Rows.fnExactCacheTextSpec) :=
  OpenClaim.holds_of_wide 3 Tryd.f3 rfl rfl rfl rfl rfl rfl rfl ⟨rfl, rfl, rfl, rfl, rfl⟩ rfl rfl rfl rfl rfl (by kernel_rfl) Tryd.func3 (by kernel_rfl)
    (of_decide_eq_true (by kernel_rfl)) (by unfold Func.isWrapper; first | (rw [if_pos (by decide +kernel)]; kernel_rfl) | (rw [if_neg (by decide +kernel)]; exact ⟨rfl, rfl⟩))
    (fun os started H enc _ => lifted os started H enc)

theorem proved : Rows.FnExactCacheTextCardSaid :=
  Claim7.holds_tied_plain_at .later [] [.data, .data, .data, .data, .pinned] true (true, Rows.fnExactCacheTextCard.stood.harness.2) Rows.fnExactCacheTextCard.stood.looks
    over (fun _ h => by cases h) (by kernel_rfl) (fun _ h => by cases h) fnExactCacheText_row_tie rfl ⟨rfl, rfl⟩ (by kernel_rfl) rfl
    (fun f fn hf hfn => by
      obtain rfl : f = 3 := Option.some.inj ((show Tryd.prog.funcNamed Rows.fnExactCacheTextRow.func = some 3 by kernel_rfl).symm.trans hf) |>.symm
      obtain rfl : fn = Tryd.f3 := (Option.some.inj (Tryd.func3.symm.trans hfn)).symm
      exact ⟨by kernel_rfl, fun j t ht => by
        rw [Tryd.params3] at ht
        have hm : t ∈ [3, 24] := by simpa using Array.mem_of_getElem? ht
        have hall : ([3, 24].all fun u => !Tryd.prog.wantsStandIn u) = true := by kernel_rfl
        exact (show Tryd.prog.wantsStandIn t = false by simpa using List.all_eq_true.1 hall t hm)⟩)
    (by kernel_rfl)
#print axioms proved
end Go.Proofs.YtkimbgehnhcmaaaDoor.fnExactCacheText
