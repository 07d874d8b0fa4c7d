/- For every row of texts and every separator FnExactJoinStrings returns true, and nothing that was in memory changes; no conditions beyond what the given row says. -/
import Derived.Test.YtlickpalbfhjoaaJoinW
import Derived.Test.YtlickpalbfhjoaaMarkS
namespace Go.Proofs.Ytlickpalbfhjoaa.fnExactJoinStrings
open Go.ChangeShapes Go.WideShapes Go.ChangeAt Go.RowKit
open Go.ChangeMaps (open_string shut_string)
set_option linter.unusedVariables false

set_option maxHeartbeats 1600000 in
theorem walk (w : World) (a0 : Option Addr) (n0 c0 : Nat) (z0 : List ByteArray) (w0 : InS w a0 n0 c0 z0) (a1 : ByteArray) (w1 : a1.size ≤ maxLen) :
    Calls Try.prog 4 #[.slice a0 n0 c0, .string a1] w fun e w' => e = .returned (.bool true) ∧ Below w.heap.size w w' := by
  by_cases c1 : (1048576 : Int) < a1.size
  · clear w0 w1
    go_enter Try.func4, Try.ntmps4
    go_wp2
    go_ret
    exact ⟨rfl, Below.refl _ _⟩
  obtain ⟨hr, hn, hc, hx⟩ := w0
  have hm := Nat.le_trans hn hc
  have s1 : a1.size ≤ 1048576 := by omega
  have hsz := fun w' (h : RdS w' a0 n0 z0) => szStringS_any a0 n0 c0 1048576 z0 w' h (Nat.le_refl _) hm hx
  have hB := hide (Below.refl w.heap.size w)
  have HR := hide hr
  clear hx w1 hn hc hm
  by_cases hz : n0 + sumLen z0 ≤ 1048576
  · have n1 : n0 ≤ 1048576 := by omega
    obtain ⟨L, hL⟩ : ∃ L : Nat, (L : Int) = (((1048576 : Nat) : Int) - n0 - sumLen z0) := ⟨1048576 - n0 - sumLen z0, by omega⟩
    simp only [szV_yes hz] at hsz
    rw [← hL] at hsz
    have h1 := fun A c w' (h : RdS w' A n0 z0) (hc : n0 ≤ c) => spec_JoinStrings A n0 c z0 a1 w' h hz s1
    have h2 := fun A c w' (h : RdS w' A n0 z0) (hc : n0 ≤ c) => impl_JoinStrings A n0 c z0 a1 w' h hc hz s1
    unfold RetJ at h1 h2
    generalize joinText z0 a1 = t at h1 h2
    generalize joinOk z0 a1 = g at h1 h2
    replace hsz := hide (hsz w hr)
    replace h1 := hide h1
    replace h2 := hide h2
    replace hL := hide hL
    clear hr hz
    go_enter Try.func4, Try.ntmps4
    go_wp2_with fail
    refine hsz.out.mono ?_
    rintro e W0 ⟨rfl, rfl⟩
    go_wp2_with fail
    refine (toStringS_any _ _ _ _ _ HR.out n1).mono ?_
    rintro e W1 ⟨Ax, cx, rfl, ox, hb⟩
    replace HR := hide (HR.out.below hb)
    replace hB := hide (hB.out.trans (hb.mono hB.out.size)); clear hb
    have hrm := ox.room
    replace ox := hide ox
    go_wp2_with fail
    refine (h1.out _ _ _ ox.out.rd hrm).mono ?_
    rintro e W2 ⟨rfl, hb⟩
    replace HR := hide (HR.out.below hb)
    replace hB := hide (hB.out.trans (hb.mono hB.out.size)); clear hb ox hrm
    go_wp2_with fail
    refine (toStringS_any _ _ _ _ _ HR.out n1).mono ?_
    rintro e W3 ⟨Ay, cy, rfl, oy, hb⟩
    replace HR := hide (HR.out.below hb)
    replace hB := hide (hB.out.trans (hb.mono hB.out.size)); clear hb
    replace oy := hide oy
    go_wp2_with fail
    refine (h2.out _ _ _ oy.out.rd oy.out.room).mono ?_
    rintro e W4 ⟨rfl, hb⟩
    replace oy := hide (oy.out.below hb)
    replace HR := hide (HR.out.below hb)
    replace hB := hide (hB.out.trans (hb.mono hB.out.size)); clear hb
    go_wp2_with fail
    refine (toStringS_any _ _ _ _ _ HR.out n1).mono ?_
    rintro e W5 ⟨Az, cz, rfl, oz, hb⟩
    replace oy := hide (oy.out.below hb)
    replace hB := hide (hB.out.trans (hb.mono hB.out.size)); clear hb
    replace oz := hide oz
    go_wp2_with fail
    refine (eqStringS_same _ _ _ _ _ _ _ oy.out.rd oz.out.rd (by omega)).mono ?_
    rintro e W6 ⟨rfl, m, rfl⟩
    replace hB := hide (below_drewN hB.out m)
    go_wp2_with fail
    go_ret
    exact ⟨rfl, hB.out⟩
  · simp only [szV_no hz] at hsz
    replace hsz := hide (hsz w hr)
    clear hr hz
    go_enter Try.func4, Try.ntmps4
    go_wp2_with fail
    refine hsz.out.mono ?_
    rintro e W0 ⟨rfl, rfl⟩
    go_wp2_with fail
    go_ret
    exact ⟨rfl, hB.out⟩

set_option maxRecDepth 100000 in
theorem lifted (os : Os) (started : os.Started) (H : Type) (enc : TypeId × Value → H) :
    ReturnsInHanded {} Try.checked os 4 .any (Rows.fnExactJoinStringsSpec.pre6 enc Try.prog Try.f4 Rows.fnExactJoinStringsRow.domain false) (Rows.fnExactJoinStringsSpec.post enc Try.prog Try.f4 false true false false) := by
  refine returnsInHanded_of_change (C := Try.checked) own started (by kernel_rfl) Try.func4
    (ChangeSpec.witness6 (enc := enc) (C := Try.checked) false ⟨#[], #[.slice none 0 0, .string ByteArray.empty], []⟩ 8 (by kernel_rfl) (by kernel_rfl) (by kernel_rfl) (by kernel_rfl)) ?_
  intro W base args ds gs before hval0 hW hcnd _
  have hval : ∀ (j : Nat) t v, Try.f4.params[j]? = some t → args[j]? = some v → Value.okWide Try.prog W .any base t v := hval0
  have hW' := hW
  obtain ⟨p, q, hA0, hV, rfl, hfz, hnd⟩ := hW
  have hA : DataW.TrodAll enc Try.prog W 0 (fun _ => true) true Try.f4.params.toList args.toList ds p := hA0
  rw [Try.params4] at hA hval
  obtain ⟨v0, vs0, d0, ds0, p0, q0, hargs, rfl, rfl, h0, r0⟩ := trodAll_cons hA
  obtain ⟨v1, vs1, d1, ds1, p1, q1, rfl, rfl, rfl, h1, r1⟩ := trodAll_cons r0
  obtain ⟨rfl, rfl, rfl⟩ := trodAll_nil r1
  obtain rfl : args = #[v0, v1] := by cases args; simp_all
  obtain ⟨rfl, rfl⟩ := trodVars_none hV
  have k0 := h0
  have lt0 : ∀ x ∈ p0, x.block < W.heap.size := by obtain ⟨m, hm⟩ := k0; exact DataW.trod_lt m _ _ _ hm
  obtain ⟨a0, len0, cap0, rfl⟩ := okWide_slice Try.underlying22 (hval 0 22 v0 rfl rfl)
  obtain ⟨z0, w0⟩ := row_of_strings h0
  have k1 := h1
  have lt1 : ∀ x ∈ p1, x.block < W.heap.size := by obtain ⟨m, hm⟩ := k1; exact DataW.trod_lt m _ _ _ hm
  obtain ⟨a1, rfl, rfl, rfl, w1⟩ := open_string Try.underlying9 (hval 1 9 v1 rfl rfl) h1
  clear hA0 hval0
  refine (walk W a0 len0 cap0 z0 w0 a1 w1).mono fun e W' ⟨he, bel⟩ => ?_
  subst he
  exact ⟨_, rfl, _, _, _, [], _, [], hW', trodAll_mk1 (shut_bool Try.underlying4 _), (trodAll_cons_mk (Below.trod laidOut (by kernel_rfl) (of_decide_eq_true (by kernel_rfl)) k0 bel lt0) (trodAll_cons_mk (Below.trod laidOut (by kernel_rfl) (of_decide_eq_true (by kernel_rfl)) k1 bel lt1) trodAll_mk0)), rfl, bel.frame _, fun h => by cases h⟩

theorem over : Rows.fnExactJoinStringsRow.holds Try.pinned (OpenSpec.ofChange Rows.fnExactJoinStringsSpec) :=
  OpenClaim.holds_of_wide 4 Try.f4 rfl rfl rfl rfl rfl rfl rfl ⟨rfl, rfl, rfl, rfl, rfl⟩ rfl rfl rfl rfl rfl (by kernel_rfl) Try.func4 (by kernel_rfl)
    (of_decide_eq_true (by kernel_rfl)) (by unfold Func.isWrapper; first | (rw [if_pos (by decide +kernel)]; kernel_rfl) | (rw [if_neg (by decide +kernel)]; exact ⟨rfl, rfl⟩))
    (fun os started H enc _ => lifted os started H enc)

theorem proved : Rows.FnExactJoinStringsSaid := over
#print axioms proved
end Go.Proofs.Ytlickpalbfhjoaa.fnExactJoinStrings
