/- For every text FnExactVerifyChecksum returns true, and nothing that was in memory changes; the premise is the given card's own: the listed tables of Go's library read as their initialisers lay them. -/
import Derived.Test.YtlickpalbfhjoaaDoorDoor
import Derived.Test.YtlickpalbfhjoaaDoorCutP
import Derived.Lib.SlicesS
namespace Go.Proofs.YtlickpalbfhjoaaDoor.fnExactVerifyChecksum
open Go.ChangeShapes Go.WideShapes Go.ChangeAt Go.RowKit
open Go.ChangeMaps (open_string shut_string)
set_option linter.unusedVariables false
open Go

theorem of_laid {W : World} (h : laidMetH Tryd.prog Rows.fnExactVerifyChecksumRow.laid W) : Tab W := by
  rw [MakeChecks.laidMetH_plain _ _ _ (by kernel_rfl)] at h
  exact tab_of h

theorem bytes_ne {x y : ByteArray} (h : ¬ x = y) : (x.toList == y.toList) = false := by
  cases hb : (x.toList == y.toList)
  · rfl
  · exact absurd ((Lib.bytes_beq_iff x y).1 hb) h
def verOk (s : ByteArray) : Bool := decide (s.size ≤ 4000) && decide (sealT (ahead s 35) = s)
def verText (s : ByteArray) : ByteArray := if verOk s = true then ahead s 35 else ByteArray.empty
theorem chk_of {s : ByteArray} (h : s.size ≤ 4000) (e : sealT (ahead s 35) = s) : chkOk (ahead s 35) = true ∧ chkText (ahead s 35) = s := by
  have h1 := ahead_size s 35
  have h2 := ahead_no s 35
  have h3 : chkOk (ahead s 35) = true := by
    unfold chkOk
    rw [h2, e]
    simp
    omega
  exact ⟨h3, by unfold chkText; rw [if_pos h3, e]⟩
theorem chk_not {s : ByteArray} (e : ¬ sealT (ahead s 35) = s) (h : chkOk (ahead s 35) = true) : ¬ chkText (ahead s 35) = s := by
  unfold chkText
  rw [if_pos h]
  exact e

set_option maxRecDepth 100000 in
set_option maxHeartbeats 800000 in
theorem sVerify_any (s : ByteArray) (w : World) (hs : s.size ≤ 1048576) :
    Calls Tryd.prog 24 #[.string s] w fun e w' => e = .returned (.tuple #[.string (verText s), .bool (verOk s)]) ∧ Below w.heap.size w w' := by
  have h1 := l1Split_any s 35 w hs
  change Calls _ _ #[_, .int .u8 35] _ _ at h1
  have h2 := fun w => l1Seal_any (ahead s 35) w (Nat.le_trans (ahead_size s 35) hs)
  have h0 := splitL_pos s 35
  have h00 := hide (split_head s 35)
  unfold verText verOk
  by_cases c1 : (4000 : Int) < s.size
  · have c2 : ¬ s.size ≤ 4000 := by omega
    simp only [decide_eq_false c2, Bool.false_and, Bool.false_eq_true, if_false]
    clear c2
    go_enter Tryd.func24, Tryd.ntmps24
    go_wp2
    go_ret2
    exact ⟨rfl, Below.refl _ _⟩
  · have c2 : s.size ≤ 4000 := by omega
    simp only [decide_eq_true c2, Bool.true_and]
    clear c2 hs
    generalize ahead s 35 = t at h2 h00 ⊢
    generalize splitL s 35 = ys at h1 h0 h00
    generalize sealT t = u at h2 ⊢
    by_cases hu : u = s
    · rw [decide_eq_true hu, if_pos rfl]
      go_enter Tryd.func24, Tryd.ntmps24
      go_wp2_with fail
      refine h1.mono ?_
      rintro e w1 ⟨A, c, rfl, ho, hb⟩
      obtain ⟨b, off, rfl, hbl, hc⟩ := ho.rd.at_ h0
      rw [h00.out] at hc
      rw [Nat.add_zero] at hc
      replace ho := hide ho
      replace hb := hide hb
      go_wp2_with (go_at_call 48; refine (h2 _).mono ?_; rintro e w2 ⟨rfl, m, rfl⟩)
      go_ret2
      exact ⟨rfl, below_drewN hb.out _⟩
    · rw [decide_eq_false hu, if_neg (by decide)]
      have hne := bytes_ne hu
      go_enter Tryd.func24, Tryd.ntmps24
      go_wp2_with fail
      refine h1.mono ?_
      rintro e w1 ⟨A, c, rfl, ho, hb⟩
      obtain ⟨b, off, rfl, hbl, hc⟩ := ho.rd.at_ h0
      rw [h00.out] at hc
      rw [Nat.add_zero] at hc
      replace ho := hide ho
      replace hb := hide hb
      go_wp2_with (go_at_call 48; refine (h2 _).mono ?_; rintro e w2 ⟨rfl, m, rfl⟩)
      go_ret2
      exact ⟨rfl, below_drewN hb.out _⟩

set_option maxRecDepth 100000 in
set_option maxHeartbeats 800000 in
theorem iVerify_any (s : ByteArray) (m0 : Int) (w : World) (hs : s.size ≤ 1048576) (hm : w.cell? ⟨0, 0, none⟩ = some (.int .i64 m0)) (ht : Tab w) :
    Calls Tryd.prog 25 #[.string s] w fun e w' => e = .returned (.tuple #[.string (verText s), .bool (verOk s)]) ∧ Below w.heap.size w w' := by
  have h1 := Tryd.strings_Cut s ⟨#[35]⟩ m0 w (by omega) hm
  rw [show (⟨#[35]⟩ : ByteArray).data.toList = [35] from rfl, cut_ahead s 35] at h1
  have h2 := fun (w' : World) (hb : Below w.heap.size w w') => iAppendChecksum_any (ahead s 35) w' (Nat.le_trans (ahead_size s 35) hs) (ht.below hb)
  have k1 := @chk_of s
  have k2 := @chk_not s
  unfold verText verOk
  generalize (⟨(Lib.cut s.data.toList [35]).2.1.toArray⟩ : ByteArray) = x1 at h1
  generalize (Lib.cut s.data.toList [35]).2.2 = x2 at h1
  clear hm ht
  by_cases c1 : (4000 : Int) < s.size
  · have c2 : ¬ s.size ≤ 4000 := by omega
    simp only [decide_eq_false c2, Bool.false_and, Bool.false_eq_true, if_false]
    clear c2
    go_enter Tryd.func25, Tryd.ntmps25
    go_wp2
    go_ret2
    exact ⟨rfl, Below.refl _ _⟩
  · have c2 : s.size ≤ 4000 := by omega
    simp only [decide_eq_true c2, Bool.true_and]
    replace k1 := k1 c2
    clear c2 hs
    generalize ahead s 35 = t at h1 h2 k1 k2 ⊢
    generalize sealT t = u at k1 k2 ⊢
    generalize chkText t = v at h2 k1 k2
    generalize chkOk t = g at h2 k1 k2
    by_cases hu : u = s
    · obtain ⟨rfl, rfl⟩ := k1 hu
      rw [decide_eq_true hu, if_pos rfl]
      clear k1 k2 hu
      go_enter Tryd.func25, Tryd.ntmps25
      go_wp2_with fail
      refine h1.mono ?_
      rintro e w1 ⟨rfl, n, rfl⟩
      have h3 := h2 _ (below_drewN (Below.refl _ _) n)
      go_wp2_with (go_at_call 19; refine h3.mono ?_; rintro e w2 ⟨rfl, hb⟩)
      go_ret2
      exact ⟨rfl, (below_drewN (Below.refl _ _) n).trans hb⟩
    · have k3 := k2 hu
      rw [decide_eq_false hu, if_neg (by decide)]
      clear k1 k2 hu
      cases g
      · clear k3
        go_enter Tryd.func25, Tryd.ntmps25
        go_wp2_with fail
        refine h1.mono ?_
        rintro e w1 ⟨rfl, n, rfl⟩
        have h3 := h2 _ (below_drewN (Below.refl _ _) n)
        go_wp2_with (go_at_call 19; refine h3.mono ?_; rintro e w2 ⟨rfl, hb⟩)
        go_ret2
        exact ⟨rfl, (below_drewN (Below.refl _ _) n).trans hb⟩
      · have hne := bytes_ne (k3 rfl)
        clear k3
        go_enter Tryd.func25, Tryd.ntmps25
        go_wp2_with fail
        refine h1.mono ?_
        rintro e w1 ⟨rfl, n, rfl⟩
        have h3 := h2 _ (below_drewN (Below.refl _ _) n)
        go_wp2_with (go_at_call 19; refine h3.mono ?_; rintro e w2 ⟨rfl, hb⟩)
        go_ret2
        exact ⟨rfl, (below_drewN (Below.refl _ _) n).trans hb⟩

theorem walk (w : World) (ht : Tab w) (hm : ∃ m, w.cell? ⟨0, 0, none⟩ = some (.int .i64 m)) (a0 : ByteArray) (w0 : a0.size ≤ maxLen) :
    Calls Tryd.prog 7 #[.string a0] w fun e w' => e = .returned (.bool true) ∧ Below w.heap.size w w' := by
  obtain ⟨m, hm⟩ := hm
  by_cases c1 : (1048576 : Int) < a0.size
  · clear hm
    go_enter Tryd.func7, Tryd.ntmps7
    go_wp2
    go_ret
    exact ⟨rfl, Below.refl _ _⟩
  · have hs : a0.size ≤ 1048576 := by omega
    have hlt := World.block_lt_of_cell? _ _ hm
    have h1 := fun w => sVerify_any a0 w hs
    have h2 := fun w1 (hb : Below w.heap.size w w1) => iVerify_any a0 m w1 hs ((hb.cell hlt).trans hm) (ht.below hb)
    generalize verText a0 = t at h1 h2
    generalize verOk a0 = g at h1 h2
    clear hs w0 hm hlt ht
    go_enter Tryd.func7, Tryd.ntmps7
    go_wp2_with fail
    refine (h1 _).mono ?_
    rintro e w1 ⟨rfl, hb1⟩
    go_wp2_with fail
    refine (h2 _ hb1).mono ?_
    rintro e w2 ⟨rfl, hb2⟩
    go_wp2_with fail
    go_ret
    exact ⟨rfl, hb1.trans (hb2.mono hb1.size)⟩

theorem door_met (os : Os) (args : Array Value) : laidMetH Tryd.prog Rows.fnExactVerifyChecksumRow.laid ((World.doorLaid Tryd.prog 72 os).forCall (fun _ _ => 0) ⟨#[], args, []⟩).memory :=
  laidMetH_of_parts3 (fuel := 8) (laidMet_of_run' 8 (by kernel_rfl) (by kernel_rfl)) (by kernel_rfl) (by kernel_rfl)
set_option maxRecDepth 100000 in
theorem lifted (os : Os) (started : os.Started) (H : Type) (enc : TypeId × Value → H) :
    ReturnsInHanded {} Tryd.checked os 7 .any (fun w args => (Rows.fnExactVerifyChecksumSpec.pre enc Tryd.prog Tryd.f7 Rows.fnExactVerifyChecksumRow.domain false w args ∧ laidMetH Tryd.prog Rows.fnExactVerifyChecksumRow.laid w) ∧ sizedMet enc Tryd.prog Tryd.f7 (OpenSpec.ofChange Rows.fnExactVerifyChecksumSpec) false w args) (Rows.fnExactVerifyChecksumSpec.post enc Tryd.prog Tryd.f7 false true false false) := by
  refine lift_both (C := Tryd.checked) (X := fun w => laidMetH Tryd.prog Rows.fnExactVerifyChecksumRow.laid w) (fun _ _ hh h => h.of_heap hh) own started (by kernel_rfl) Tryd.func7
    (ChangeSpec.witness_shaped (enc := enc) (C := Tryd.checked) (os := os) (X := fun w _ => laidMetH Tryd.prog Rows.fnExactVerifyChecksumRow.laid w) false (World.doorLaid Tryd.prog 72 os) #[.string ByteArray.empty] 8 rfl (World.shaped_of_RefB (by kernel_rfl) (by kernel_rfl)) (by kernel_rfl) (by kernel_rfl) (by kernel_rfl) (door_met os _)) ?_
  intro W base args ds gs before hval0 hW hL hsh
  have hval : ∀ (j : Nat) t v, Tryd.f7.params[j]? = some t → args[j]? = some v → Value.okWide Tryd.prog W .any base t v := hval0
  have hW' := hW
  obtain ⟨p, q, hA0, hV, rfl, hfz, hnd⟩ := hW
  have hA : DataW.TrodAll enc Tryd.prog W 0 (fun _ => true) true Tryd.f7.params.toList args.toList ds p := hA0
  rw [Tryd.params7] at hA hval
  obtain ⟨v0, vs0, d0, ds0, p0, q0, hargs, rfl, rfl, h0, r0⟩ := trodAll_cons hA
  obtain ⟨rfl, rfl, rfl⟩ := trodAll_nil r0
  obtain rfl : args = #[v0] := by cases args; simp_all
  obtain ⟨rfl, rfl⟩ := trodVars_none hV
  have k0 := h0
  have lt0 : ∀ x ∈ p0, x.block < W.heap.size := by obtain ⟨m, hm⟩ := k0; exact DataW.trod_lt m _ _ _ hm
  obtain ⟨a0, rfl, rfl, rfl, w0⟩ := open_string Tryd.underlying9 (hval 0 9 v0 rfl rfl) h0
  clear hA0 hval0
  refine (walk W (of_laid hL) (maxLen_of hsh) a0 w0).mono fun e W' ⟨he, bel⟩ => ?_
  subst he
  exact ⟨_, rfl, _, _, _, [], _, [], hW', trodAll_mk1 (shut_bool Tryd.underlying4 _), (trodAll_cons_mk (Below.trod laidOut (by kernel_rfl) (of_decide_eq_true (by kernel_rfl)) k0 bel lt0) trodAll_mk0), rfl, bel.frame _, fun h => by cases h⟩

theorem over : Rows.fnExactVerifyChecksumRow.holds Tryd.pinned (OpenSpec.ofChange Rows.fnExactVerifyChecksumSpec) :=
  OpenClaim.holds_of_wide 7 Tryd.f7 rfl rfl rfl rfl rfl rfl rfl ⟨rfl, rfl, rfl, rfl, rfl⟩ rfl rfl rfl rfl rfl (by kernel_rfl) Tryd.func7 (by kernel_rfl)
    (of_decide_eq_true (by kernel_rfl)) (by unfold Func.isWrapper; first | (rw [if_pos (by decide +kernel)]; kernel_rfl) | (rw [if_neg (by decide +kernel)]; exact ⟨rfl, rfl⟩))
    (fun os started H enc _ => lifted os started H enc)

theorem proved : Rows.FnExactVerifyChecksumCardSaid :=
  Claim7.holds_tied_plain_at .later [] [.data, .data, .data] true (true, Rows.fnExactVerifyChecksumCard.stood.harness.2) true
    over (fun _ h => by cases h) (by kernel_rfl) (fun _ h => by cases h) fnExactVerifyChecksum_row_tie rfl ⟨rfl, rfl⟩ (by kernel_rfl) rfl
    (fun f fn hf hfn => by
      obtain rfl : f = 7 := Option.some.inj ((show Tryd.prog.funcNamed Rows.fnExactVerifyChecksumRow.func = some 7 by kernel_rfl).symm.trans hf) |>.symm
      obtain rfl : fn = Tryd.f7 := (Option.some.inj (Tryd.func7.symm.trans hfn)).symm
      exact ⟨by kernel_rfl, fun j t ht => by
        rw [Tryd.params7] at ht
        have hm : t ∈ [9] := by simpa using Array.mem_of_getElem? ht
        have hall : ([9].all fun u => !Tryd.prog.wantsStandIn u) = true := by kernel_rfl
        exact (show Tryd.prog.wantsStandIn t = false by simpa using List.all_eq_true.1 hall t hm)⟩)
    (by kernel_rfl)
#print axioms proved
end Go.Proofs.YtlickpalbfhjoaaDoor.fnExactVerifyChecksum
