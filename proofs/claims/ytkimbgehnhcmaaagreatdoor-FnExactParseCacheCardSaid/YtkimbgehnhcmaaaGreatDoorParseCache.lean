/- For every number of items and every text FnExactParseCache returns true, and nothing that was in memory changes; the premise is the given card's own: the listed tables and errors of Go's library read as their initialisers lay them. -/
import Derived.Test.YtkimbgehnhcmaaaGreatDoorDoorE
import Derived.Test.YtkimbgehnhcmaaaGreatDoorPcI
import Derived.Test.YtkimbgehnhcmaaaGreatDoorPcM
import Derived.Lay
namespace Go.Proofs.YtkimbgehnhcmaaaGreatDoor.fnExactParseCache
open Go.ChangeShapes Go.WideShapes Go.ChangeAt Go.RowKit
open Go.ChangeMaps (open_string shut_string)
set_option linter.unusedVariables false
open Go

theorem of_laid {W : World} (h : laidMetH Tryz.prog Rows.fnExactParseCacheRow.laid W) : Tab W ∧ Errs W := by
  rw [MakeChecks.laidMetH_plain _ _ _ (by kernel_rfl)] at h
  exact ⟨tab_of h, errs_of h⟩
theorem pc_len (n : Int) (t : ByteArray) : (pcD (pcI n t)).xs.length ≤ 6 ∧ (pcD (pcI n t)).ys.length ≤ 6 := by
  cases h : pcI n t with
  | none => exact ⟨Nat.zero_le _, Nat.zero_le _⟩
  | some x =>
    have f := pcI_form h
    have hf := fine_of f.1
    have hm := marks_of f.1
    have h1 := hf.len
    refine ⟨h1, ?_⟩
    show x.ys.length ≤ 6
    by_cases hp : mkB x.p = true
    · have := (hf.marked (by simpa [mkB] using hp)).1
      omega
    · have h2 := hm.1
      rw [if_neg hp] at h2
      rw [← h2]
      exact Nat.zero_le _

set_option maxRecDepth 100000 in
set_option maxHeartbeats 3200000 in
theorem walk (w : World) (hl : Tab w ∧ Errs w) (hm : ∃ m, w.cell? ⟨0, 0, none⟩ = some (.int .i64 m)) (a0 : Int) (_w0 : (Lit.int .i64 a0).wf = true) (a1 : ByteArray) (w1 : a1.size ≤ maxLen) :
    Calls Tryz.prog 3 #[.int .i64 a0, .string a1] w fun e w' => e = .returned (.bool true) ∧ Below w.heap.size w w' := by
  obtain ⟨ht, he⟩ := hl
  obtain ⟨m, hm⟩ := hm
  by_cases c1 : (1048576 : Int) < a1.size
  · clear hm ht he
    go_enter Tryz.func3, Tryz.ntmps3
    go_wp2
    go_ret
    exact ⟨rfl, Below.refl _ _⟩
  have n1 : a1.size ≤ 1048576 := by omega
  have hE : Env m w := ⟨⟨ht, hm⟩, he⟩
  have cs := fun w => spec_ParseCache a0 a1 w n1
  have ci := fun w1 (hb : Below w.heap.size w w1) => impl_ParseCache a0 m a1 w1 n1 (hE.below hb)
  have hlen := pc_len a0 a1
  clear w1 n1 ht he hm hE
  unfold RetPC at cs ci
  generalize pcD (pcI a0 a1) = q at cs ci hlen
  generalize (pcI a0 a1).isSome = g at cs ci
  obtain ⟨P, Z, H, xs, ys⟩ := q
  simp only at cs ci hlen
  obtain ⟨hx, hy⟩ := hlen
  have lx : xs.length ≤ 1048576 := by omega
  have ly : ys.length ≤ 1048576 := by omega
  have hg : (g != g) = false := by simp
  have hk : ((1 : Int) + (xs.length : Int) + (ys.length : Int) != (1 : Int) + (xs.length : Int) + (ys.length : Int)) = false := by simp
  have hk0 : ¬ ((1 : Int) + (xs.length : Int) + (ys.length : Int) < 0) := by omega
  have HB := hide (Below.refl w.heap.size w)
  replace ci := hide ci
  replace cs := hide cs
  go_enter Tryz.func3, Tryz.ntmps3
  go_wp2_with fail
  refine (cs.out _).mono ?_
  rintro e W1 ⟨Aw1, cw1, Aw2, cw2, rfl, ow1, ow2, sw, hb⟩
  replace HB := hide (HB.out.trans hb)
  clear hb
  have hb := (Below.refl W1.heap.size W1).alloc (Nat.le_refl _) (.cells #[.int .i64 P, .int .i64 Z, .slice Aw1 xs.length cw1, .slice Aw2 ys.length cw2, .int .i64 H] 24)
  have HW := hide (Blk.new W1 (.int .i64 P) (.int .i64 Z) (.slice Aw1 xs.length cw1) (.slice Aw2 ys.length cw2) (.int .i64 H))
  replace ow1 := hide (ow1.below hb)
  replace ow2 := hide (ow2.below hb)
  replace sw := hide sw
  replace HB := hide (HB.out.trans (hb.mono HB.out.size))
  clear hb
  go_upto_region 4 with (fail)
  generalize W1.alloc (.cells #[.int .i64 P, .int .i64 Z, .slice Aw1 xs.length cw1, .slice Aw2 ys.length cw2, .int .i64 H] 24) = V1 at HW ow1 ow2 HB ⊢
  generalize W1.heap.size = XW at HW ⊢
  go_wp2_with fail
  refine (ci.out _ HB.out).mono ?_
  rintro e W2 ⟨Ag1, cg1, Ag2, cg2, rfl, og1, og2, sg, hb⟩
  have s11 := hide (sep_new ow1.out og1)
  have s12 := hide (sep_new ow1.out og2)
  have s21 := hide (sep_new ow2.out og1)
  have s22 := hide (sep_new ow2.out og2)
  replace HW := hide (HW.out.on hb)
  replace ow1 := hide (ow1.out.below hb)
  replace ow2 := hide (ow2.out.below hb)
  replace og1 := og1.more HB.out.size
  replace og2 := og2.more HB.out.size
  replace HB := hide (HB.out.trans (hb.mono HB.out.size))
  clear hb
  have hb := (Below.refl W2.heap.size W2).alloc (Nat.le_refl _) (.cells #[.int .i64 P, .int .i64 Z, .slice Ag1 xs.length cg1, .slice Ag2 ys.length cg2, .int .i64 H] 24)
  have HG := hide (Blk.new W2 (.int .i64 P) (.int .i64 Z) (.slice Ag1 xs.length cg1) (.slice Ag2 ys.length cg2) (.int .i64 H))
  replace HW := hide (HW.out.on hb)
  replace ow1 := hide (ow1.out.below hb)
  replace ow2 := hide (ow2.out.below hb)
  replace og1 := hide (og1.below hb)
  replace og2 := hide (og2.below hb)
  replace sg := hide sg
  replace HB := hide (HB.out.trans (hb.mono HB.out.size))
  clear hb
  go_upto_region 5 with (fail)
  generalize W2.alloc (.cells #[.int .i64 P, .int .i64 Z, .slice Ag1 xs.length cg1, .slice Ag2 ys.length cg2, .int .i64 H] 24) = V2 at HW HG ow1 ow2 og1 og2 HB ⊢
  generalize W2.heap.size = XG at HG ⊢
  obtain ⟨u0, w0', w1, w2, w3, w4⟩ := HW.out.five
  obtain ⟨v0, g0, g1, g2, g3, g4⟩ := HG.out.five
  go_wp2_with fail
  refine (eqCache_same _ _ _ _ _ _ _ _ _ xs ys _ _ _ _ _ og1.out.rd og2.out.rd ow1.out.rd ow2.out.rd lx ly).mono ?_
  rintro e W3 ⟨rfl, hb⟩
  clear u0 w0' w1 w2 w3 w4 v0 g0 g1 g2 g3 g4
  replace HW := hide (HW.out.on hb)
  replace HG := hide (HG.out.on hb)
  replace ow1 := hide (ow1.out.below hb)
  replace ow2 := hide (ow2.out.below hb)
  replace og1 := hide (og1.out.below hb)
  replace og2 := hide (og2.out.below hb)
  replace HB := hide (HB.out.trans (hb.mono HB.out.size))
  clear hb
  obtain ⟨v0, g0, g1, g2, g3, g4⟩ := HG.out.five
  go_wp2_with fail
  refine (markCache_any P Z H 1 _ _ _ _ _ _ _ xs ys _ og1.out og2.out sg.out (by omega) (by omega) lx ly).mono ?_
  rintro e W4 ⟨rfl, m1, m2, hM⟩
  clear v0 g0 g1 g2 g3 g4
  replace HW := hide (hM.blk HW.out og1.out og2.out)
  replace HG := hide (hM.blk HG.out og1.out og2.out)
  replace ow1 := hide (hM.own ow1.out s11.out s12.out)
  replace ow2 := hide (hM.own ow2.out s21.out s22.out)
  replace HB := hide (HB.out.trans (hM.below og1.out og2.out HB.out.size))
  replace og1 := hide m1
  replace og2 := hide m2
  clear hM m1 m2
  obtain ⟨v0, g0, g1, g2, g3, g4⟩ := HG.out.five
  go_wp2_with fail
  refine (heldCache_any P Z H 1 _ _ _ _ _ _ _ og1.out.rd og2.out.rd (by omega) (by omega) lx ly).mono ?_
  rintro e W5 ⟨rfl, hb⟩
  clear v0 g0 g1 g2 g3 g4
  replace HW := hide (HW.out.on hb)
  replace HG := hide (HG.out.on hb)
  replace ow1 := hide (ow1.out.below hb)
  replace ow2 := hide (ow2.out.below hb)
  replace og1 := hide (og1.out.below hb)
  replace og2 := hide (og2.out.below hb)
  replace HB := hide (HB.out.trans (hb.mono HB.out.size))
  clear hb
  go_wp2_with fail
  refine (ci.out _ HB.out).mono ?_
  rintro e W6 ⟨Ah1, ch1, Ah2, ch2, rfl, oh1, oh2, sh, hb⟩
  replace HW := hide (HW.out.on hb)
  replace HG := hide (HG.out.on hb)
  replace ow1 := hide (ow1.out.below hb)
  replace ow2 := hide (ow2.out.below hb)
  replace og1 := hide (og1.out.below hb)
  replace og2 := hide (og2.out.below hb)
  replace HB := hide (HB.out.trans (hb.mono HB.out.size))
  clear hb sh
  have hb := (Below.refl W6.heap.size W6).alloc (Nat.le_refl _) (.cells #[.int .i64 P, .int .i64 Z, .slice Ah1 xs.length ch1, .slice Ah2 ys.length ch2, .int .i64 H] 24)
  have HH := hide (Blk.new W6 (.int .i64 P) (.int .i64 Z) (.slice Ah1 xs.length ch1) (.slice Ah2 ys.length ch2) (.int .i64 H))
  replace HW := hide (HW.out.on hb)
  replace HG := hide (HG.out.on hb)
  replace ow1 := hide (ow1.out.below hb)
  replace ow2 := hide (ow2.out.below hb)
  replace og1 := hide (og1.out.below hb)
  replace og2 := hide (og2.out.below hb)
  replace oh1 := hide (oh1.below hb)
  replace oh2 := hide (oh2.below hb)
  replace HB := hide (HB.out.trans (hb.mono HB.out.size))
  clear hb
  go_upto_region 16 with (fail)
  generalize W6.alloc (.cells #[.int .i64 P, .int .i64 Z, .slice Ah1 xs.length ch1, .slice Ah2 ys.length ch2, .int .i64 H] 24) = V6 at HW HG HH ow1 ow2 og1 og2 oh1 oh2 HB ⊢
  generalize W6.heap.size = XH at HH ⊢
  obtain ⟨u0, w0', w1, w2, w3, w4⟩ := HW.out.five
  obtain ⟨t0, h0, h1, h2, h3, h4⟩ := HH.out.five
  go_wp2_with fail
  refine (eqCache_same _ _ _ _ _ _ _ _ _ xs ys _ _ _ _ _ oh1.out.rd oh2.out.rd ow1.out.rd ow2.out.rd lx ly).mono ?_
  rintro e W7 ⟨rfl, hb⟩
  clear u0 w0' w1 w2 w3 w4 t0 h0 h1 h2 h3 h4
  replace HG := hide (HG.out.on hb)
  replace og1 := hide (og1.out.below hb)
  replace og2 := hide (og2.out.below hb)
  replace HB := hide (HB.out.trans (hb.mono HB.out.size))
  clear hb
  obtain ⟨v0, g0, g1, g2, g3, g4⟩ := HG.out.five
  go_wp2_with fail
  refine (heldCache_any P Z H 1 _ _ _ _ _ _ _ og1.out.rd og2.out.rd (by omega) (by omega) lx ly).mono ?_
  rintro e W8 ⟨rfl, hb⟩
  clear v0 g0 g1 g2 g3 g4
  replace HB := hide (HB.out.trans (hb.mono HB.out.size))
  clear hb
  go_wp2
  go_ret
  exact ⟨rfl, HB.out⟩

set_option maxRecDepth 100000 in
theorem lifted (os : Os) (started : os.Started) (H : Type) (enc : TypeId × Value → H) :
    ReturnsInHanded {} Tryz.checked os 3 .any (fun w args => (Rows.fnExactParseCacheSpec.pre enc Tryz.prog Tryz.f3 Rows.fnExactParseCacheRow.domain false w args ∧ laidMetH Tryz.prog Rows.fnExactParseCacheRow.laid w) ∧ sizedMet enc Tryz.prog Tryz.f3 (OpenSpec.ofChange Rows.fnExactParseCacheSpec) false w args) (Rows.fnExactParseCacheSpec.post enc Tryz.prog Tryz.f3 false true false false) := by
  refine lift_both (C := Tryz.checked) (X := fun w => laidMetH Tryz.prog Rows.fnExactParseCacheRow.laid w) (fun _ _ hh h => h.of_heap hh) own started (by kernel_rfl) Tryz.func3
    (ChangeSpec.witness_shaped (enc := enc) (C := Tryz.checked) (os := os) (X := fun w _ => laidMetH Tryz.prog Rows.fnExactParseCacheRow.laid w) false (World.laidAll Tryz.prog os Rows.fnExactParseCacheRow.laid) #[.int .i64 0, .string ByteArray.empty] 8 (World.laidAll_os _ _ _)
      (World.shaped_of_ZipB (by kernel_rfl) (by kernel_rfl)) (by kernel_rfl) (by kernel_rfl) (by kernel_rfl)
      (by rw [MakeChecks.laidMetH_plain _ _ _ (by kernel_rfl)]; exact laidMet_laidAll _ (by kernel_rfl) (by kernel_rfl))) ?_
  intro W base args ds gs before hval0 hW hL hsh
  have hval : ∀ (j : Nat) t v, Tryz.f3.params[j]? = some t → args[j]? = some v → Value.okWide Tryz.prog W .any base t v := hval0
  have hW' := hW
  obtain ⟨p, q, hA0, hV, rfl, hfz, hnd⟩ := hW
  have hA : DataW.TrodAll enc Tryz.prog W 0 (fun _ => true) true Tryz.f3.params.toList args.toList ds p := hA0
  rw [Tryz.params3] at hA hval
  obtain ⟨v0, vs0, d0, ds0, p0, q0, hargs, rfl, rfl, h0, r0⟩ := trodAll_cons hA
  obtain ⟨v1, vs1, d1, ds1, p1, q1, rfl, rfl, rfl, h1, r1⟩ := trodAll_cons r0
  obtain ⟨rfl, rfl, rfl⟩ := trodAll_nil r1
  obtain rfl : args = #[v0, v1] := by cases args; simp_all
  obtain ⟨rfl, rfl⟩ := trodVars_none hV
  obtain ⟨a0, rfl, rfl, rfl, w0⟩ := open_int Tryz.underlying3 (hval 0 3 v0 rfl rfl) h0
  have k1 := h1
  have lt1 : ∀ x ∈ p1, x.block < W.heap.size := by obtain ⟨m, hm⟩ := k1; exact DataW.trod_lt m _ _ _ hm
  obtain ⟨a1, rfl, rfl, rfl, w1⟩ := open_string Tryz.underlying9 (hval 1 9 v1 rfl rfl) h1
  clear hA0 hval0
  refine (walk W (of_laid hL) (maxLen_of hsh) a0 w0 a1 w1).mono fun e W' ⟨he, bel⟩ => ?_
  subst he
  exact ⟨_, rfl, _, _, _, [], _, [], hW', trodAll_mk1 (shut_bool Tryz.underlying4 _), (trodAll_cons_mk (shut_int Tryz.underlying3 w0) (trodAll_cons_mk (Below.trod laidOut (by kernel_rfl) (of_decide_eq_true (by kernel_rfl)) k1 bel lt1) trodAll_mk0)), rfl, bel.frame _, fun h => by cases h⟩

theorem over : Rows.fnExactParseCacheRow.holds Tryz.pinned (OpenSpec.ofChange Rows.fnExactParseCacheSpec) :=
  OpenClaim.holds_of_wide 3 Tryz.f3 rfl rfl rfl rfl rfl rfl rfl ⟨rfl, rfl, rfl, rfl, rfl⟩ rfl rfl rfl rfl rfl (by kernel_rfl) Tryz.func3 (by kernel_rfl)
    (of_decide_eq_true (by kernel_rfl)) (by unfold Func.isWrapper; first | (rw [if_pos (by decide +kernel)]; kernel_rfl) | (rw [if_neg (by decide +kernel)]; exact ⟨rfl, rfl⟩))
    (fun os started H enc _ => lifted os started H enc)

theorem proved : Rows.FnExactParseCacheCardSaid :=
  Claim7.holds_tied_plain_at .later [] [.data, .data, .data, .data, .sentinel, .sentinel, .pinned] true (true, Rows.fnExactParseCacheCard.stood.harness.2) Rows.fnExactParseCacheCard.stood.looks
    over (fun _ h => by cases h) (by kernel_rfl) (fun _ h => by cases h) fnExactParseCache_row_tie rfl ⟨rfl, rfl⟩ (by kernel_rfl) rfl
    (fun f fn hf hfn => by
      obtain rfl : f = 3 := Option.some.inj ((show Tryz.prog.funcNamed Rows.fnExactParseCacheRow.func = some 3 by kernel_rfl).symm.trans hf) |>.symm
      obtain rfl : fn = Tryz.f3 := (Option.some.inj (Tryz.func3.symm.trans hfn)).symm
      exact ⟨by kernel_rfl, fun j t ht => by
        rw [Tryz.params3] at ht
        have hm : t ∈ [3, 9] := by simpa using Array.mem_of_getElem? ht
        have hall : ([3, 9].all fun u => !Tryz.prog.wantsStandIn u) = true := by kernel_rfl
        exact (show Tryz.prog.wantsStandIn t = false by simpa using List.all_eq_true.1 hall t hm)⟩)
    (by kernel_rfl)
#print axioms proved
end Go.Proofs.YtkimbgehnhcmaaaGreatDoor.fnExactParseCache
