/- ParseRequests by the program: the list read, and valid; for texts of at most 2^20 bytes; the premises: Go's table of powers of ten and strconv's two errors are laid. -/
import Derived.Test.YtlickpalbfhjoaaDoorReadL
import Derived.Test.YtlickpalbfhjoaaDoorReqs
namespace Go.Proofs.YtlickpalbfhjoaaDoor
open Go.RowKit

theorem isRequests_wide (A : Option Addr) (n c : Nat) (xs : List Int) (q : Int) (w : World) (hr : RdI w A n xs) (hn : n ≤ 4194304) :
    Calls Tryd.prog 53 #[.int .i64 q, .slice A n c] w fun e w' => e = .returned (.bool (reqB q xs)) ∧ Below w.heap.size w w' := by
  by_cases c2 : n ≤ 60
  · exact isRequests_any A n c xs q w hr (by omega)
  · have HF := hide (show reqB q xs = false by unfold reqB; rw [hr.1]; simp; omega)
    have hz : decide ((n : Int) ≤ 60) = false := by simp; omega
    clear hr
    by_cases c1 : 1 ≤ q ∧ q ≤ 8
    · obtain ⟨c11, c12⟩ := c1
      go_enter Tryd.func53, Tryd.ntmps53
      go_wp2_with (first | (go_at_call 41; refine (within_yes _ _ _ _ (by omega) (by omega)).mono ?_; rintro e w' ⟨rfl, rfl⟩) | (go_at_call 41; refine (within_no _ _ _ _ (by omega)).mono ?_; rintro e w' ⟨rfl, rfl⟩) | go_in)
      go_ret
      exact ⟨ret_bool HF.out.symm, Below.refl _ _⟩
    · go_enter Tryd.func53, Tryd.ntmps53
      go_wp2_with (first | (go_at_call 41; refine (within_yes _ _ _ _ (by omega) (by omega)).mono ?_; rintro e w' ⟨rfl, rfl⟩) | (go_at_call 41; refine (within_no _ _ _ _ (by omega)).mono ?_; rintro e w' ⟨rfl, rfl⟩) | go_in)
      go_ret
      exact ⟨ret_bool HF.out.symm, Below.refl _ _⟩

theorem none_list : (⟨#[110, 111, 110, 101]⟩ : ByteArray).toList = [110, 111, 110, 101] := by rw [ByteArray.toList_eq]
theorem listImpl_none {n : Int} {s : ByteArray} (h : readTo implRead (splitL s 32) (splitL s 32).length = none) : listImpl n s = ([], false) := by unfold listImpl; rw [h]
theorem listImpl_some {n : Int} {s : ByteArray} {l : List Int} (h : readTo implRead (splitL s 32) (splitL s 32).length = some l) : listImpl n s = if reqB n l = true then (l, true) else ([], false) := by unfold listImpl; rw [h]

set_option maxRecDepth 100000 in
set_option maxHeartbeats 1600000 in
theorem impl_ParseRequests (q : Int) (s : ByteArray) (w : World) (hs : s.size ≤ 1048576) (ht : Tab w) (he : Errs w) : Calls Tryd.prog 32 #[.int .i64 q, .string s] w (RetI w (parseRequestsV q s)) := by
  by_cases hn : s = noneT
  · subst hn
    unfold noneT
    by_cases c1 : 1 ≤ q ∧ q ≤ 8
    · have HV := hide (show parseRequestsV q ⟨#[110, 111, 110, 101]⟩ = ([], true) by unfold parseRequestsV; rw [if_pos (by rfl), decide_eq_true c1])
      obtain ⟨c11, c12⟩ := c1
      clear ht he hs
      go_enter Tryd.func32, Tryd.ntmps32
      go_wp2_with (first | (go_at_call 41; refine (within_yes _ _ _ _ (by omega) (by omega)).mono ?_; rintro e w' ⟨rfl, rfl⟩) | (go_at_call 41; refine (within_no _ _ _ _ (by omega)).mono ?_; rintro e w' ⟨rfl, rfl⟩) | go_in)
      go_ret2
      exact RetI.of (OwnI.nil _ _) (Below.refl _ _) HV.out
    · have HV := hide (show parseRequestsV q ⟨#[110, 111, 110, 101]⟩ = ([], false) by unfold parseRequestsV; rw [if_pos (by rfl), decide_eq_false c1])
      clear ht he hs
      go_enter Tryd.func32, Tryd.ntmps32
      go_wp2_with (first | (go_at_call 41; refine (within_yes _ _ _ _ (by omega) (by omega)).mono ?_; rintro e w' ⟨rfl, rfl⟩) | (go_at_call 41; refine (within_no _ _ _ _ (by omega)).mono ?_; rintro e w' ⟨rfl, rfl⟩) | go_in)
      go_ret2
      exact RetI.of (OwnI.nil _ _) (Below.refl _ _) HV.out
  · have hne := bytes_ne' hn
    have HV : Hid (parseRequestsV q s = listImpl q s) := by unfold Hid parseRequestsV; rw [if_neg hn]
    have h1 := readList_any s w hs ht he
    have hlen := splitL_len s 32
    unfold noneT at hne
    rw [none_list] at hne
    clear hn
    cases hi : readTo implRead (splitL s 32) (splitL s 32).length with
    | none =>
      have HV2 := hide (HV.out.trans (listImpl_none hi))
      rw [rlV_none hi] at h1
      unfold RetI at h1
      clear ht he hs hi HV hlen
      replace h1 := hide h1
      go_enter Tryd.func32, Tryd.ntmps32
      go_wp2_with (go_at_call 62; refine h1.out.mono ?_; rintro e w1 ⟨A, c, rfl, ho, hb⟩; replace hb := hide hb; clear ho)
      go_ret2
      exact RetI.of (OwnI.nil _ _) hb.out HV2.out
    | some l =>
      have HV2 := hide (HV.out.trans (listImpl_some hi))
      have hll := (readTo_form _ _ hi).1
      rw [rlV_some hi] at h1
      unfold RetI at h1
      simp only at h1
      have hl4 : l.length ≤ 4194304 := by omega
      have h2 := fun A c w' (h : RdI w' A l.length l) => isRequests_wide A l.length c l q w' h hl4
      clear ht he hs hi HV hlen hll
      replace h1 := hide h1
      cases hg : reqB q l
      · rw [hg] at h2 HV2
        simp only [Bool.false_eq_true, if_false] at HV2
        clear hg
        replace h2 := hide h2
        go_enter Tryd.func32, Tryd.ntmps32
        go_wp2_with (first
          | (go_at_call 62; refine h1.out.mono ?_; rintro e w1 ⟨A, c, rfl, ho, hb⟩; replace hb := hide hb; replace ho := hide ho)
          | (go_at_call 53; refine (h2.out _ _ _ ho.out.rd).mono ?_; rintro e w2 ⟨rfl, hb2⟩; replace hb := hide (hb.out.trans (hb2.mono hb.out.size)); clear hb2))
        go_ret2
        exact RetI.of (OwnI.nil _ _) hb.out HV2.out
      · rw [hg] at h2 HV2
        simp only [if_true] at HV2
        clear hg
        replace h2 := hide h2
        go_enter Tryd.func32, Tryd.ntmps32
        go_wp2_with (first
          | (go_at_call 62; refine h1.out.mono ?_; rintro e w1 ⟨A, c, rfl, ho, hb⟩; replace hb := hide hb; replace ho := hide ho)
          | (go_at_call 53; refine (h2.out _ _ _ ho.out.rd).mono ?_; rintro e w2 ⟨rfl, hb2⟩; replace ho := hide (ho.out.below hb2); replace hb := hide (hb.out.trans (hb2.mono hb.out.size)); clear hb2))
        go_ret2
        exact RetI.of ho.out hb.out HV2.out
end Go.Proofs.YtlickpalbfhjoaaDoor
