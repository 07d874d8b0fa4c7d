/- For every sequence FnExactRequestsText returns true, and nothing that was in memory changes; the premise is the given card's own: the listed tables of Go's library read as their initialisers lay them. -/
import Derived.Test.YtlickpalbfhjoaaDoorDoor
import Derived.Test.YtlickpalbfhjoaaDoorReqI
namespace Go.Proofs.YtlickpalbfhjoaaDoor.fnExactRequestsText
open Go.ChangeShapes Go.WideShapes Go.ChangeAt Go.RowKit
open Go.ChangeMaps (open_string shut_string)
set_option linter.unusedVariables false
open Go

theorem of_laid {W : World} (h : laidMetH Tryd.prog Rows.fnExactRequestsTextRow.laid W) : Tab W := by
  rw [MakeChecks.laidMetH_plain _ _ _ (by kernel_rfl)] at h
  exact tab_of h

def rText (q : Int) (xs : List Int) : ByteArray := if reqB q xs = true then reqText xs else ByteArray.empty
theorem in64_of {q : Int} {xs : List Int} (h : reqB q xs = true) : In64 xs := by
  intro j hj
  unfold reqB belowB at h
  simp only [Bool.and_eq_true, decide_eq_true_eq, List.all_eq_true] at h
  have := h.2.2 _ (List.getElem_mem hj)
  have e : xs.getD j 0 = xs[j] := by simp [List.getD_eq_getElem?_getD, List.getElem?_eq_getElem hj]
  rw [e]
  omega
theorem sReq_any (A : Option Addr) (n c : Nat) (xs : List Int) (q : Int) (w : World) (hr : RdI w A n xs) (hn : n ≤ 1048576) :
    Calls Tryd.prog 20 #[.int .i64 q, .slice A n c] w fun e w' => e = .returned (.tuple #[.string (rText q xs), .bool (reqB q xs)]) ∧ Below w.heap.size w w' := by
  have h1 := l3Good_any A n c xs q w hr hn
  unfold rText
  cases hg : reqB q xs
  · rw [hg] at h1
    clear hr
    simp only [Bool.false_eq_true, if_false]
    go_enter Tryd.func20, Tryd.ntmps20
    go_wp2_with (go_at_call 51; refine h1.mono ?_; rintro e w1 ⟨rfl, rfl⟩)
    go_ret2
    exact ⟨rfl, Below.refl _ _⟩
  · rw [hg] at h1
    have h2 := hide (l3Text_any A n c xs w hr hn (in64_of hg))
    clear hr
    simp only [if_true]
    go_enter Tryd.func20, Tryd.ntmps20
    go_wp2_with (first
      | (go_at_call 51; refine h1.mono ?_; rintro e w1 ⟨rfl, rfl⟩)
      | (go_at_call 52; refine h2.out.mono ?_; rintro e w1 ⟨rfl, hb⟩))
    go_ret2
    exact ⟨rfl, hb⟩
theorem iReq_any (A : Option Addr) (n c : Nat) (xs : List Int) (q : Int) (w : World) (hr : RdI w A n xs) (hn : n ≤ 1048576) (ht : Tab w) :
    Calls Tryd.prog 22 #[.int .i64 q, .slice A n c] w fun e w' => e = .returned (.tuple #[.string (rText q xs), .bool (reqB q xs)]) ∧ Below w.heap.size w w' := by
  have h1 := isRequests_any A n c xs q w hr hn
  unfold rText
  cases hg : reqB q xs
  · rw [hg] at h1
    clear hr ht
    simp only [Bool.false_eq_true, if_false]
    go_enter Tryd.func22, Tryd.ntmps22
    go_wp2_with (go_at_call 53; refine h1.mono ?_; rintro e w1 ⟨rfl, hb⟩)
    go_ret2
    exact ⟨rfl, hb⟩
  · rw [hg] at h1
    have h2 := hide (fun w1 (hb : Below w.heap.size w w1) => requestsText_any A n c xs w1 (hr.below hb) hn (in64_of hg) (ht.below hb))
    clear hr ht
    simp only [if_true]
    go_enter Tryd.func22, Tryd.ntmps22
    go_wp2_with (first
      | (go_at_call 53; refine h1.mono ?_; rintro e w1 ⟨rfl, hb⟩)
      | (go_at_call 54; refine (h2.out _ hb).mono ?_; rintro e w2 ⟨rfl, hb2⟩))
    go_ret2
    exact ⟨rfl, hb.trans (hb2.mono hb.size)⟩

theorem walk (w : World) (ht : Tab w) (a0 : Int) (w0 : (Lit.int .i64 a0).wf = true) (a1 : Option Addr) (len1 cap1 : Nat) (z1 : List Int) (w1 : InI w a1 len1 cap1 z1) :
    Calls Tryd.prog 6 #[.int .i64 a0, .slice a1 len1 cap1] w fun e w' => e = .returned (.bool true) ∧ Below w.heap.size w w' := by
  by_cases c1 : (1048576 : Int) < len1
  · go_enter Tryd.func6, Tryd.ntmps6
    go_wp2
    go_ret
    exact ⟨rfl, Below.refl _ _⟩
  have n1 : len1 ≤ 1048576 := by omega
  obtain ⟨r1, _, _, _⟩ := w1
  have cs := fun A c w hr => sReq_any A len1 c z1 a0 w hr n1
  have ci := fun A c w hr ht => iReq_any A len1 c z1 a0 w hr n1 ht
  have ct := fun w hr => toIntS_any a1 len1 cap1 z1 w hr n1
  generalize rText a0 z1 = t at cs ci
  generalize reqB a0 z1 = g at cs ci
  replace r1 := hide r1
  replace ht := hide ht
  have hB := hide (Below.refl w.heap.size w)
  clear w0
  go_enter Tryd.func6, Tryd.ntmps6
  go_wp2_with fail
  refine (ct _ (r1.out.below hB.out)).mono ?_
  rintro e W1 ⟨Ap, cp, rfl, op, hb⟩
  replace hB := hide (hB.out.trans (hb.mono hB.out.size)); clear hb
  replace op := hide op
  go_wp2_with fail
  refine (cs _ _ _ op.out.rd).mono ?_
  rintro e W2 ⟨rfl, hb⟩
  replace hB := hide (hB.out.trans (hb.mono hB.out.size)); clear hb op
  go_wp2_with fail
  refine (ct _ (r1.out.below hB.out)).mono ?_
  rintro e W3 ⟨Ax, cx, rfl, ox, hb⟩
  replace hB := hide (hB.out.trans (hb.mono hB.out.size)); clear hb
  replace ox := hide ox
  go_wp2_with fail
  refine (ci _ _ _ ox.out.rd (ht.out.below hB.out)).mono ?_
  rintro e W4 ⟨rfl, hb⟩
  replace ox := hide (ox.out.below hb)
  replace hB := hide (hB.out.trans (hb.mono hB.out.size)); clear hb
  go_wp2_with fail
  refine (ct _ (r1.out.below hB.out)).mono ?_
  rintro e W5 ⟨Ay, cy, rfl, oy, hb⟩
  replace ox := hide (ox.out.below hb)
  replace hB := hide (hB.out.trans (hb.mono hB.out.size)); clear hb
  replace oy := hide oy
  go_wp2_with fail
  refine (eqIntS_same _ _ _ _ _ _ _ ox.out.rd oy.out.rd (by omega)).mono ?_
  rintro e W6 ⟨rfl, m6, rfl⟩
  replace hB := hide (below_drewN hB.out m6)
  go_wp2
  go_ret
  exact ⟨rfl, hB.out⟩

theorem door_met (os : Os) (args : Array Value) : laidMetH Tryd.prog Rows.fnExactRequestsTextRow.laid ((World.doorLaid Tryd.prog 72 os).forCall (fun _ _ => 0) ⟨#[], args, []⟩).memory :=
  laidMetH_of_parts3 (fuel := 8) (laidMet_of_run' 8 (by kernel_rfl) (by kernel_rfl)) (by kernel_rfl) (by kernel_rfl)
set_option maxRecDepth 100000 in
theorem lifted (os : Os) (started : os.Started) (H : Type) (enc : TypeId × Value → H) :
    ReturnsInHanded {} Tryd.checked os 6 .any (fun w args => (Rows.fnExactRequestsTextSpec.pre enc Tryd.prog Tryd.f6 Rows.fnExactRequestsTextRow.domain false w args ∧ laidMetH Tryd.prog Rows.fnExactRequestsTextRow.laid w) ∧ sizedMet enc Tryd.prog Tryd.f6 (OpenSpec.ofChange Rows.fnExactRequestsTextSpec) false w args) (Rows.fnExactRequestsTextSpec.post enc Tryd.prog Tryd.f6 false true false false) := by
  refine returnsInHanded_of_change_and (C := Tryd.checked) (X := fun w _ => laidMetH Tryd.prog Rows.fnExactRequestsTextRow.laid w) (fun _ _ _ hh h => h.of_heap hh) own started (by kernel_rfl) Tryd.func6
    (ChangeSpec.witness_shaped (enc := enc) (C := Tryd.checked) (os := os) (X := fun w _ => laidMetH Tryd.prog Rows.fnExactRequestsTextRow.laid w) false (World.doorLaid Tryd.prog 72 os) #[.int .i64 0, .slice none 0 0] 8 rfl (World.shaped_of_RefB (by kernel_rfl) (by kernel_rfl)) (by kernel_rfl) (by kernel_rfl) (by kernel_rfl) (door_met os _)) ?_
  intro W base args ds gs before hval0 hW hcnd _ hL _
  have hval : ∀ (j : Nat) t v, Tryd.f6.params[j]? = some t → args[j]? = some v → Value.okWide Tryd.prog W .any base t v := hval0
  have hW' := hW
  obtain ⟨p, q, hA0, hV, rfl, hfz, hnd⟩ := hW
  have hA : DataW.TrodAll enc Tryd.prog W 0 (fun _ => true) true Tryd.f6.params.toList args.toList ds p := hA0
  rw [Tryd.params6] at hA hval
  obtain ⟨v0, vs0, d0, ds0, p0, q0, hargs, rfl, rfl, h0, r0⟩ := trodAll_cons hA
  obtain ⟨v1, vs1, d1, ds1, p1, q1, rfl, rfl, rfl, h1, r1⟩ := trodAll_cons r0
  obtain ⟨rfl, rfl, rfl⟩ := trodAll_nil r1
  obtain rfl : args = #[v0, v1] := by cases args; simp_all
  obtain ⟨rfl, rfl⟩ := trodVars_none hV
  obtain ⟨a0, rfl, rfl, rfl, w0⟩ := open_int Tryd.underlying3 (hval 0 3 v0 rfl rfl) h0
  have k1 := h1
  have lt1 : ∀ x ∈ p1, x.block < W.heap.size := by obtain ⟨m, hm⟩ := k1; exact DataW.trod_lt m _ _ _ hm
  obtain ⟨a1, len1, cap1, rfl⟩ := okWide_slice Tryd.underlying33 (hval 1 33 v1 rfl rfl)
  obtain ⟨z1, w1⟩ := row_of_ints h1
  clear hA0 hval0
  refine (walk W (of_laid hL) a0 w0 a1 len1 cap1 z1 w1).mono fun e W' ⟨he, bel⟩ => ?_
  subst he
  exact ⟨_, rfl, _, _, _, [], _, [], hW', trodAll_mk1 (shut_bool Tryd.underlying4 _), (trodAll_cons_mk (shut_int Tryd.underlying3 w0) (trodAll_cons_mk (Below.trod laidOut (by kernel_rfl) (of_decide_eq_true (by kernel_rfl)) k1 bel lt1) trodAll_mk0)), rfl, bel.frame _, fun h => by cases h⟩

theorem over : Rows.fnExactRequestsTextRow.holds Tryd.pinned (OpenSpec.ofChange Rows.fnExactRequestsTextSpec) :=
  OpenClaim.holds_of_wide 6 Tryd.f6 rfl rfl rfl rfl rfl rfl rfl ⟨rfl, rfl, rfl, rfl, rfl⟩ rfl rfl rfl rfl rfl (by kernel_rfl) Tryd.func6 (by kernel_rfl)
    (of_decide_eq_true (by kernel_rfl)) (by unfold Func.isWrapper; first | (rw [if_pos (by decide +kernel)]; kernel_rfl) | (rw [if_neg (by decide +kernel)]; exact ⟨rfl, rfl⟩))
    (fun os started H enc _ => lifted os started H enc)

theorem proved : Rows.FnExactRequestsTextCardSaid :=
  Claim7.holds_tied_plain_at .later [] [.data, .data, .data] true (true, Rows.fnExactRequestsTextCard.stood.harness.2) true
    over (fun _ h => by cases h) (by kernel_rfl) (fun _ h => by cases h) fnExactRequestsText_row_tie rfl ⟨rfl, rfl⟩ (by kernel_rfl) rfl
    (fun f fn hf hfn => by
      obtain rfl : f = 6 := Option.some.inj ((show Tryd.prog.funcNamed Rows.fnExactRequestsTextRow.func = some 6 by kernel_rfl).symm.trans hf) |>.symm
      obtain rfl : fn = Tryd.f6 := (Option.some.inj (Tryd.func6.symm.trans hfn)).symm
      exact ⟨by kernel_rfl, fun j t ht => by
        rw [Tryd.params6] at ht
        have hm : t ∈ [3, 33] := by simpa using Array.mem_of_getElem? ht
        have hall : ([3, 33].all fun u => !Tryd.prog.wantsStandIn u) = true := by kernel_rfl
        exact (show Tryd.prog.wantsStandIn t = false by simpa using List.all_eq_true.1 hall t hm)⟩)
    (by kernel_rfl)
#print axioms proved
end Go.Proofs.YtlickpalbfhjoaaDoor.fnExactRequestsText
