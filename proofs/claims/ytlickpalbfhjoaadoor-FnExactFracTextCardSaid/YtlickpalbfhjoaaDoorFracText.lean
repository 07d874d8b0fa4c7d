/- For every fraction FnExactFracText returns true, and nothing that was in memory changes; the premise is the given card's own: the listed tables of Go's library read as their initialisers lay them. -/
import Derived.Test.YtlickpalbfhjoaaDoorDoor
import Derived.Test.YtlickpalbfhjoaaDoorFracLaw
import Derived.Deep.RegionHeld3
namespace Go.Proofs.YtlickpalbfhjoaaDoor.fnExactFracText
open Go.ChangeShapes Go.WideShapes Go.ChangeAt Go.RowKit
open Go.ChangeMaps (open_string shut_string)
set_option linter.unusedVariables false
open Go

theorem of_laid {W : World} (h : laidMetH Tryd.prog Rows.fnExactFracTextRow.laid W) : Tab W := by
  rw [MakeChecks.laidMetH_plain _ _ _ (by kernel_rfl)] at h
  exact tab_of h

def numText (n : Int) : ByteArray := ⟨(Lib.itoa n).toArray⟩
theorem numText_size (n : Int) (h : -9223372036854775808 ≤ n ∧ n ≤ 9223372036854775807) : (numText n).size ≤ 21 := by
  have h1 : (numText n).size = (Lib.itoa n).length := by rfl
  rw [h1]
  exact Lib.itoa_length_le n h.1 h.2
def fText (a b : Int) : ByteArray := if b = 1 then numText a else numText a ++ ⟨#[47]⟩ ++ numText b
def fracText (a b : Int) : ByteArray := if fracB a b = true then fText a b else ByteArray.empty

set_option maxRecDepth 100000 in
set_option maxHeartbeats 1000000 in
theorem l2Text_any (a b : Int) (ha : -4611686018427387904 < a ∧ a < 4611686018427387904) (hb : -4611686018427387904 < b ∧ b < 4611686018427387904) (w : World) :
    Calls Tryd.prog 44 #[.agg #[.int .i64 a, .int .i64 b]] w fun e w' => e = .returned (.string (fText a b)) ∧ Below w.heap.size w w' := by
  have hA := fun w => l1Num_any a ha.1 ha.2 w
  have hB := fun w => l1Num_any b hb.1 hb.2 w
  have sA := numText_size a (by omega)
  have sB := numText_size b (by omega)
  change ∀ w, Calls _ _ _ w fun e w' => e = .returned (.string (numText a)) ∧ ∃ m, w' = w.drewN m at hA
  change ∀ w, Calls _ _ _ w fun e w' => e = .returned (.string (numText b)) ∧ ∃ m, w' = w.drewN m at hB
  unfold fText
  generalize numText a = ta at hA sA ⊢
  generalize numText b = tb at hB sB ⊢
  clear ha hb
  by_cases h : b = 1
  · subst h
    go_enter Tryd.func44, Tryd.ntmps44
    go_wp2_with ((go_at_call 40; refine (hA _).mono ?_; rintro e w1 ⟨rfl, m, rfl⟩))
    go_ret
    exact ⟨rfl, (by repeat (first | exact Below.refl _ _ | (refine below_drewN ?_ _) | (refine Below.drew ?_) | (refine Below.alloc ?_ (by first | exact Nat.le_refl _ | (simp; done) | (simp; omega) | omega) _) | (refine Below.setCell ?_ (by first | exact Nat.le_refl _ | (simp; done) | (simp; omega) | omega) _) | (refine Below.trans ?_ (Below.mono (by assumption) (by first | exact Nat.le_refl _ | (simp; done) | (simp; omega) | omega)))))⟩
  · rw [if_neg h]
    go_enter Tryd.func44, Tryd.ntmps44
    go_wp2_with fail
    go_quiet (first
      | (go_at_call_of 40 (Value.int .i64 a); exact Calls.quiet_of (hA _))
      | (go_at_call_of 40 (Value.int .i64 b); exact Calls.quiet_of (hB _)))
    go_wp2_with fail
    go_ret
    exact ⟨rfl, (by repeat (first | exact Below.refl _ _ | (refine below_drewN ?_ _) | (refine Below.drew ?_) | (refine Below.alloc ?_ (by first | exact Nat.le_refl _ | (simp; done) | (simp; omega) | omega) _) | (refine Below.setCell ?_ (by first | exact Nat.le_refl _ | (simp; done) | (simp; omega) | omega) _) | (refine Below.trans ?_ (Below.mono (by assumption) (by first | exact Nat.le_refl _ | (simp; done) | (simp; omega) | omega)))))⟩

set_option maxRecDepth 100000 in
set_option maxHeartbeats 1000000 in
theorem fracText_any (a b : Int) (ha : -4611686018427387904 < a ∧ a < 4611686018427387904) (hb : -4611686018427387904 < b ∧ b < 4611686018427387904) (w : World) (ht : Tab w) :
    Calls Tryd.prog 46 #[.agg #[.int .i64 a, .int .i64 b]] w fun e w' => e = .returned (.string (fText a b)) ∧ Below w.heap.size w w' := by
  have hA := fun w => dec_any a (by omega) (by omega) w
  have hB := fun w => dec_any b (by omega) (by omega) w
  have sA := numText_size a (by omega)
  have sB := numText_size b (by omega)
  change ∀ w, Tab w → Calls _ _ _ w fun e w' => e = .returned (.string (numText a)) ∧ Below w.heap.size w w' at hA
  change ∀ w, Tab w → Calls _ _ _ w fun e w' => e = .returned (.string (numText b)) ∧ Below w.heap.size w w' at hB
  unfold fText
  generalize numText a = ta at hA sA ⊢
  generalize numText b = tb at hB sB ⊢
  clear ha hb
  have hbe : Below w.heap.size w (w.alloc (.cells #[.int .i64 a, .int .i64 b] 28)) := (by repeat (first | exact Below.refl _ _ | (refine below_drewN ?_ _) | (refine Below.drew ?_) | (refine Below.alloc ?_ (by first | exact Nat.le_refl _ | (simp; done) | (simp; omega) | omega) _) | (refine Below.setCell ?_ (by first | exact Nat.le_refl _ | (simp; done) | (simp; omega) | omega) _) | (refine Below.trans ?_ (Below.mono (by assumption) (by first | exact Nat.le_refl _ | (simp; done) | (simp; omega) | omega)))))
  by_cases h : b = 1
  · subst h
    replace ht := ht.below hbe
    go_enter Tryd.func46, Tryd.ntmps46
    go_wp2_with ((go_at_call 42; refine (hA _ ht).mono ?_; rintro e w1 ⟨rfl, hb⟩))
    go_ret
    exact ⟨rfl, hbe.trans (hb.mono hbe.size)⟩
  · rw [if_neg h]
    obtain ⟨W0, HW⟩ : ∃ W0, W0 = w.alloc (.cells #[.int .i64 a, .int .i64 b] 28) := ⟨_, rfl⟩
    have q0 : W0.cell? ⟨w.heap.size, 0, none⟩ = some (.int .i64 a) := by subst HW; go_simp
    have q1 : W0.cell? ⟨w.heap.size, 1, none⟩ = some (.int .i64 b) := by subst HW; go_simp
    have hz : w.heap.size + 1 ≤ W0.heap.size := by subst HW; simp
    rw [← HW] at hbe
    replace ht := ht.below hbe
    have HT := hide (fun (w' : World) (hk : Kept W0.heap.size W0 w') => ht.below hk.1)
    have mkS := hide (fun (w' : World) (h : Kept W0.heap.size W0 w') => (⟨(h.cells _ _ (by omega)).trans q0, (h.cells _ _ (by omega)).trans q1, h⟩ : w'.cell? ⟨w.heap.size, 0, none⟩ = some (.int .i64 a) ∧ w'.cell? ⟨w.heap.size, 1, none⟩ = some (.int .i64 b) ∧ Kept W0.heap.size W0 w'))
    have HK := Kept.start (Nat.le_refl W0.heap.size)
    replace hbe := hide hbe
    replace HW := hide HW
    go_enter Tryd.func46, Tryd.ntmps46
    go_upto_region 1 with (fail)
    rw [← HW.out]
    have c1 : ¬ (9223372036854775807 < ta.size + 1) := by omega
    have c2 : ¬ (9223372036854775807 < ta.size + 1 + tb.size) := by omega
    have c3 : (⟨#[47]⟩ : ByteArray).size = 1 := rfl
    go_wp2_with fail
    go_region_held3 (fun w' => w'.cell? ⟨w.heap.size, 0, none⟩ = some (.int .i64 a) ∧ w'.cell? ⟨w.heap.size, 1, none⟩ = some (.int .i64 b) ∧ Kept W0.heap.size W0 w')
      (first | exact mkS.out _ HK | exact mkS.out _ HK.drew)
      (first
        | (go_at_call 42; (first | refine (hA _ (HT.out _ (by first | exact HK | exact HK.drew))).mono ?_ | refine (hB _ (HT.out _ (by first | exact HK | exact HK.drew))).mono ?_); rintro e w1 ⟨rfl, hb⟩; go_must (have HK := Kept.step (by first | exact HK | exact HK.drew) hb)))
    all_goals go_wp2_with fail
    all_goals go_ret
    all_goals exact ⟨rfl, HK.below hbe.out (by omega)⟩

theorem sFracText_any (a b : Int) (w : World) :
    Calls Tryd.prog 15 #[.agg #[.int .i64 a, .int .i64 b]] w fun e w' => e = .returned (.tuple #[.string (fracText a b), .bool (fracB a b)]) ∧ Below w.heap.size w w' := by
  obtain ⟨g, hg⟩ : ∃ g, g = fracB a b := ⟨_, rfl⟩
  have h1 := l2Good_any a b
  unfold fracText
  rw [← hg] at h1 ⊢
  have HK := Kept.start (Nat.le_refl (w.alloc (.cells #[.int .i64 a, .int .i64 b] 28)).heap.size)
  have hc := trivial
  cases g
  · clear hg
    go_enter Tryd.func15, Tryd.ntmps15
    go_wp2_with (first
      | (go_at_call 43; refine (h1 _).mono ?_; rintro e w1 ⟨rfl, hb⟩; replace HK := HK.step hb; clear hb hc; have hc := HK.cells))
    go_ret2
    exact ⟨rfl, HK.below (by repeat (first | exact Below.refl _ _ | (refine below_drewN ?_ _) | (refine Below.drew ?_) | (refine Below.alloc ?_ (by first | exact Nat.le_refl _ | (simp; done) | (simp; omega) | omega) _) | (refine Below.setCell ?_ (by first | exact Nat.le_refl _ | (simp; done) | (simp; omega) | omega) _) | (refine Below.trans ?_ (Below.mono (by assumption) (by first | exact Nat.le_refl _ | (simp; done) | (simp; omega) | omega))))) (by simp)⟩
  · have hd := frac_bd hg.symm
    have h2 := l2Text_any a b (by omega) (by omega)
    clear hg hd
    go_enter Tryd.func15, Tryd.ntmps15
    go_wp2_with (first
      | (go_at_call 43; refine (h1 _).mono ?_; rintro e w1 ⟨rfl, hb⟩; replace HK := HK.step hb; clear hb hc; have hc := HK.cells)
      | (go_at_call 44; refine (h2 _).mono ?_; rintro e w1 ⟨rfl, hb⟩; replace HK := HK.step hb; clear hb hc; have hc := HK.cells))
    go_ret2
    exact ⟨rfl, HK.below (by repeat (first | exact Below.refl _ _ | (refine below_drewN ?_ _) | (refine Below.drew ?_) | (refine Below.alloc ?_ (by first | exact Nat.le_refl _ | (simp; done) | (simp; omega) | omega) _) | (refine Below.setCell ?_ (by first | exact Nat.le_refl _ | (simp; done) | (simp; omega) | omega) _) | (refine Below.trans ?_ (Below.mono (by assumption) (by first | exact Nat.le_refl _ | (simp; done) | (simp; omega) | omega))))) (by simp)⟩
theorem iFracText_any (a b : Int) (w : World) (ht : Tab w) :
    Calls Tryd.prog 17 #[.agg #[.int .i64 a, .int .i64 b]] w fun e w' => e = .returned (.tuple #[.string (fracText a b), .bool (fracB a b)]) ∧ Below w.heap.size w w' := by
  obtain ⟨g, hg⟩ : ∃ g, g = fracB a b := ⟨_, rfl⟩
  have h1 := isFrac_any a b
  unfold fracText
  rw [← hg] at h1 ⊢
  have HK := Kept.start (Nat.le_refl (w.alloc (.cells #[.int .i64 a, .int .i64 b] 28)).heap.size)
  have hbe : Below w.heap.size w (w.alloc (.cells #[.int .i64 a, .int .i64 b] 28)) := (by repeat (first | exact Below.refl _ _ | (refine below_drewN ?_ _) | (refine Below.drew ?_) | (refine Below.alloc ?_ (by first | exact Nat.le_refl _ | (simp; done) | (simp; omega) | omega) _) | (refine Below.setCell ?_ (by first | exact Nat.le_refl _ | (simp; done) | (simp; omega) | omega) _) | (refine Below.trans ?_ (Below.mono (by assumption) (by first | exact Nat.le_refl _ | (simp; done) | (simp; omega) | omega)))))
  have hc := trivial
  cases g
  · clear hg
    go_enter Tryd.func17, Tryd.ntmps17
    go_wp2_with (first
      | (go_at_call 45; refine (h1 _).mono ?_; rintro e w1 ⟨rfl, hb⟩; replace HK := HK.step hb; clear hb hc; have hc := HK.cells))
    go_ret2
    exact ⟨rfl, HK.below (by repeat (first | exact Below.refl _ _ | (refine below_drewN ?_ _) | (refine Below.drew ?_) | (refine Below.alloc ?_ (by first | exact Nat.le_refl _ | (simp; done) | (simp; omega) | omega) _) | (refine Below.setCell ?_ (by first | exact Nat.le_refl _ | (simp; done) | (simp; omega) | omega) _) | (refine Below.trans ?_ (Below.mono (by assumption) (by first | exact Nat.le_refl _ | (simp; done) | (simp; omega) | omega))))) (by simp)⟩
  · have hd := frac_bd hg.symm
    have h2 := fracText_any a b (by omega) (by omega)
    have HT := hide (fun (w' : World) (hk : Kept (w.alloc (.cells #[.int .i64 a, .int .i64 b] 28)).heap.size (w.alloc (.cells #[.int .i64 a, .int .i64 b] 28)) w') => (ht.below hbe).below hk.1)
    clear hg hd
    go_enter Tryd.func17, Tryd.ntmps17
    go_wp2_with (first
      | (go_at_call 45; refine (h1 _).mono ?_; rintro e w1 ⟨rfl, hb⟩; replace HK := HK.step hb; clear hb hc; have hc := HK.cells)
      | (go_at_call 46; refine (h2 _ (HT.out _ HK)).mono ?_; rintro e w1 ⟨rfl, hb⟩; replace HK := HK.step hb; clear hb hc; have hc := HK.cells))
    go_ret2
    exact ⟨rfl, HK.below (by repeat (first | exact Below.refl _ _ | (refine below_drewN ?_ _) | (refine Below.drew ?_) | (refine Below.alloc ?_ (by first | exact Nat.le_refl _ | (simp; done) | (simp; omega) | omega) _) | (refine Below.setCell ?_ (by first | exact Nat.le_refl _ | (simp; done) | (simp; omega) | omega) _) | (refine Below.trans ?_ (Below.mono (by assumption) (by first | exact Nat.le_refl _ | (simp; done) | (simp; omega) | omega))))) (by simp)⟩

theorem walk (w : World) (ht : Tab w) (a b : Int) (w0 : (Lit.int .i64 a).wf = true) (x0 : (Lit.int .i64 b).wf = true) :
    Calls Tryd.prog 4 #[.agg #[.int .i64 a, .int .i64 b]] w fun e w' => e = .returned (.bool true) ∧ Below w.heap.size w w' := by
  have HK := Kept.start (Nat.le_refl (w.alloc (.cells #[.int .i64 a, .int .i64 b] 26)).heap.size)
  have hbe : Below w.heap.size w (w.alloc (.cells #[.int .i64 a, .int .i64 b] 26)) := (by repeat (first | exact Below.refl _ _ | (refine below_drewN ?_ _) | (refine Below.drew ?_) | (refine Below.alloc ?_ (by first | exact Nat.le_refl _ | (simp; done) | (simp; omega) | omega) _) | (refine Below.setCell ?_ (by first | exact Nat.le_refl _ | (simp; done) | (simp; omega) | omega) _) | (refine Below.trans ?_ (Below.mono (by assumption) (by first | exact Nat.le_refl _ | (simp; done) | (simp; omega) | omega)))))
  have HT := hide (fun (w' : World) (hk : Kept (w.alloc (.cells #[.int .i64 a, .int .i64 b] 26)).heap.size (w.alloc (.cells #[.int .i64 a, .int .i64 b] 26)) w') => (ht.below hbe).below hk.1)
  have h1 := sFracText_any a b
  have h2 := iFracText_any a b
  generalize fracText a b = t at h1 h2
  generalize fracB a b = g at h1 h2
  have hc := trivial
  go_enter Tryd.func4, Tryd.ntmps4
  go_wp2_with (first
    | (go_at_call 16; refine (toFrac_any _ _ _).mono ?_; rintro e w1 ⟨rfl, hb⟩; replace HK := HK.step hb; clear hb hc; have hc := HK.cells)
    | (go_at_call 15; refine (h1 _).mono ?_; rintro e w1 ⟨rfl, hb⟩; replace HK := HK.step hb; clear hb hc; have hc := HK.cells)
    | (go_at_call 17; refine (h2 _ (HT.out _ HK)).mono ?_; rintro e w1 ⟨rfl, hb⟩; replace HK := HK.step hb; clear hb hc; have hc := HK.cells))
  go_ret
  exact ⟨rfl, HK.below (by repeat (first | exact Below.refl _ _ | (refine below_drewN ?_ _) | (refine Below.drew ?_) | (refine Below.alloc ?_ (by first | exact Nat.le_refl _ | (simp; done) | (simp; omega) | omega) _) | (refine Below.setCell ?_ (by first | exact Nat.le_refl _ | (simp; done) | (simp; omega) | omega) _) | (refine Below.trans ?_ (Below.mono (by assumption) (by first | exact Nat.le_refl _ | (simp; done) | (simp; omega) | omega))))) (by simp)⟩

theorem door_met (os : Os) (args : Array Value) : laidMetH Tryd.prog Rows.fnExactFracTextRow.laid ((World.doorLaid Tryd.prog 72 os).forCall (fun _ _ => 0) ⟨#[], args, []⟩).memory :=
  laidMetH_of_parts3 (fuel := 8) (laidMet_of_run' 8 (by kernel_rfl) (by kernel_rfl)) (by kernel_rfl) (by kernel_rfl)
set_option maxRecDepth 100000 in
theorem lifted (os : Os) (started : os.Started) (H : Type) (enc : TypeId × Value → H) :
    ReturnsInHanded {} Tryd.checked os 4 .any (fun w args => (Rows.fnExactFracTextSpec.pre enc Tryd.prog Tryd.f4 Rows.fnExactFracTextRow.domain false w args ∧ laidMetH Tryd.prog Rows.fnExactFracTextRow.laid w) ∧ sizedMet enc Tryd.prog Tryd.f4 (OpenSpec.ofChange Rows.fnExactFracTextSpec) false w args) (Rows.fnExactFracTextSpec.post enc Tryd.prog Tryd.f4 false true false false) := by
  refine returnsInHanded_of_change_and (C := Tryd.checked) (X := fun w _ => laidMetH Tryd.prog Rows.fnExactFracTextRow.laid w) (fun _ _ _ hh h => h.of_heap hh) own started (by kernel_rfl) Tryd.func4
    (ChangeSpec.witness_shaped (enc := enc) (C := Tryd.checked) (os := os) (X := fun w _ => laidMetH Tryd.prog Rows.fnExactFracTextRow.laid w) false (World.doorLaid Tryd.prog 72 os) #[.agg #[.int .i64 0, .int .i64 0]] 8 rfl (World.shaped_of_RefB (by kernel_rfl) (by kernel_rfl)) (by kernel_rfl) (by kernel_rfl) (by kernel_rfl) (door_met os _)) ?_
  intro W base args ds gs before hval0 hW hcnd _ hL _
  have hval : ∀ (j : Nat) t v, Tryd.f4.params[j]? = some t → args[j]? = some v → Value.okWide Tryd.prog W .any base t v := hval0
  have hW' := hW
  obtain ⟨p, q, hA0, hV, rfl, hfz, hnd⟩ := hW
  have hA : DataW.TrodAll enc Tryd.prog W 0 (fun _ => true) true Tryd.f4.params.toList args.toList ds p := hA0
  rw [Tryd.params4] at hA hval
  obtain ⟨v0, vs0, d0, ds0, p0, q0, hargs, rfl, rfl, h0, r0⟩ := trodAll_cons hA
  obtain ⟨rfl, rfl, rfl⟩ := trodAll_nil r0
  obtain rfl : args = #[v0] := by cases args; simp_all
  obtain ⟨rfl, rfl⟩ := trodVars_none hV
  have k0 := h0
  have lt0 : ∀ x ∈ p0, x.block < W.heap.size := by obtain ⟨m, hm⟩ := k0; exact DataW.trod_lt m _ _ _ hm
  obtain ⟨a0, b0, rfl, w0, x0⟩ := frac_of (hval 0 26 v0 rfl rfl) h0
  clear hA0 hval0
  refine (walk W (of_laid hL) a0 b0 w0 x0).mono fun e W' ⟨he, bel⟩ => ?_
  subst he
  exact ⟨_, rfl, _, _, _, [], _, [], hW', trodAll_mk1 (shut_bool Tryd.underlying4 _), (trodAll_cons_mk (Below.trod laidOut (by kernel_rfl) (of_decide_eq_true (by kernel_rfl)) k0 bel lt0) trodAll_mk0), rfl, bel.frame _, fun h => by cases h⟩

theorem over : Rows.fnExactFracTextRow.holds Tryd.pinned (OpenSpec.ofChange Rows.fnExactFracTextSpec) :=
  OpenClaim.holds_of_wide 4 Tryd.f4 rfl rfl rfl rfl rfl rfl rfl ⟨rfl, rfl, rfl, rfl, rfl⟩ rfl rfl rfl rfl rfl (by kernel_rfl) Tryd.func4 (by kernel_rfl)
    (of_decide_eq_true (by kernel_rfl)) (by unfold Func.isWrapper; first | (rw [if_pos (by decide +kernel)]; kernel_rfl) | (rw [if_neg (by decide +kernel)]; exact ⟨rfl, rfl⟩))
    (fun os started H enc _ => lifted os started H enc)

theorem proved : Rows.FnExactFracTextCardSaid :=
  Claim7.holds_tied_plain_at .later [] [.data, .data, .data] true (true, Rows.fnExactFracTextCard.stood.harness.2) true
    over (fun _ h => by cases h) (by kernel_rfl) (fun _ h => by cases h) fnExactFracText_row_tie rfl ⟨rfl, rfl⟩ (by kernel_rfl) rfl
    (fun f fn hf hfn => by
      obtain rfl : f = 4 := Option.some.inj ((show Tryd.prog.funcNamed Rows.fnExactFracTextRow.func = some 4 by kernel_rfl).symm.trans hf) |>.symm
      obtain rfl : fn = Tryd.f4 := (Option.some.inj (Tryd.func4.symm.trans hfn)).symm
      exact ⟨by kernel_rfl, fun j t ht => by
        rw [Tryd.params4] at ht
        have hm : t ∈ [26] := by simpa using Array.mem_of_getElem? ht
        have hall : ([26].all fun u => !Tryd.prog.wantsStandIn u) = true := by kernel_rfl
        exact (show Tryd.prog.wantsStandIn t = false by simpa using List.all_eq_true.1 hall t hm)⟩)
    (by kernel_rfl)
#print axioms proved
end Go.Proofs.YtlickpalbfhjoaaDoor.fnExactFracText
