/- ParseRequests by the reference; for texts of at most 2^20 bytes. -/
import Derived.Test.YtlickpalbfhjoaaDoorReadL
import Derived.Test.YtlickpalbfhjoaaDoorReadS
namespace Go.Proofs.YtlickpalbfhjoaaDoor
open Go.RowKit

theorem none_listQ : (⟨#[110, 111, 110, 101]⟩ : ByteArray).toList = [110, 111, 110, 101] := by rw [ByteArray.toList_eq]
theorem pr_no {n : Int} {s : ByteArray} (h : ¬ ((1 ≤ n ∧ n ≤ 8) ∧ s.size ≤ 120)) : prSpec n s = ([], false) := by unfold prSpec; rw [if_neg h]
theorem pr_list {n : Int} {s : ByteArray} (h : (1 ≤ n ∧ n ≤ 8) ∧ s.size ≤ 120) (hn : ¬ s = noneT) : prSpec n s = listSpec n s := by unfold prSpec; rw [if_pos h, if_neg hn]
theorem ls_none {n : Int} {s : ByteArray} (h : readTo (specIn n) (splitL s 32) (splitL s 32).length = none) : listSpec n s = ([], false) := by unfold listSpec; rw [h]
theorem ls_yes {n : Int} {s : ByteArray} {l : List Int} (h : readTo (specIn n) (splitL s 32) (splitL s 32).length = some l) (h1 : l.length ≤ 60) (h2 : reqText l = s) : listSpec n s = (l, true) := by unfold listSpec; rw [h]; simp only; rw [if_pos ⟨h1, h2⟩]
theorem ls_no {n : Int} {s : ByteArray} {l : List Int} (h : readTo (specIn n) (splitL s 32) (splitL s 32).length = some l) (h1 : ¬ (l.length ≤ 60 ∧ reqText l = s)) : listSpec n s = ([], false) := by unfold listSpec; rw [h]; simp only; rw [if_neg h1]
theorem specN_off {n : Int} {s : ByteArray} (h : specRead s.data.toList = none) : specIn n s.data.toList = none := by unfold specIn; rw [h]
theorem specN_in {n v : Int} {s : ByteArray} (h : specRead s.data.toList = some v) (hv : 0 ≤ v ∧ v ≤ n - 1) : specIn n s.data.toList = some v := by unfold specIn; rw [h]; simp only; rw [if_pos hv]
theorem specN_out {n v : Int} {s : ByteArray} (h : specRead s.data.toList = some v) (hv : ¬ (0 ≤ v ∧ v ≤ n - 1)) : specIn n s.data.toList = none := by unfold specIn; rw [h]; simp only; rw [if_neg hv]
theorem spec_bd {v : Int} {l : List UInt8} (h : specRead l = some v) : -999999 ≤ v ∧ v ≤ 999999 := (specRead_form h).2
theorem in64_readTo {n : Int} {ws : List ByteArray} {k : Nat} {l : List Int} (hn : n ≤ 8) (h : readTo (specIn n) ws k = some l) : In64 l := by
  intro j hj
  obtain ⟨h1, h2⟩ := readTo_form _ _ h
  have := (specIn_form (h2 j (by omega))).2
  omega

set_option maxRecDepth 100000 in
set_option maxHeartbeats 3200000 in
theorem spec_ParseRequests (q : Int) (s : ByteArray) (w : World) (hs : s.size ≤ 1048576) : Calls Tryd.prog 31 #[.int .i64 q, .string s] w (RetI w (parseRequestsV q s)) := by
  rw [← prSpec_eq]
  by_cases c1 : 1 ≤ q ∧ q ≤ 8
  · by_cases c2 : s.size ≤ 120
    · by_cases hn : s = noneT
      · subst hn
        have HV := hide (show prSpec q noneT = ([], true) by unfold prSpec; rw [if_pos ⟨c1, c2⟩, if_pos rfl])
        unfold noneT at HV ⊢
        obtain ⟨c11, c12⟩ := c1
        clear c2 hs
        go_enter Tryd.func31, Tryd.ntmps31
        go_wp2_with (first | (go_at_call 39; refine (l1In_yes _ _ _ _ (by omega) (by omega)).mono ?_; rintro e w' ⟨rfl, rfl⟩) | (go_at_call 39; refine (l1In_no _ _ _ _ (by omega)).mono ?_; rintro e w' ⟨rfl, rfl⟩) | go_in)
        go_ret2
        exact RetI.of (own_empty _ _ (Nat.le_refl _) _ rfl) (by repeat (first | exact Below.refl _ _ | (refine below_drewN ?_ _) | (refine Below.drew ?_) | (refine Below.alloc ?_ (by first | exact Nat.le_refl _ | (simp; done) | (simp; omega) | omega) _) | (refine Below.setCell ?_ (by first | exact Nat.le_refl _ | (simp; done) | (simp; omega) | omega) _) | (refine Below.trans ?_ (Below.mono (by assumption) (by first | exact Nat.le_refl _ | (simp; done) | (simp; omega) | omega))))) HV.out
      · have hne := bytes_ne' hn
        have HP : Hid (prSpec q s = listSpec q s) := pr_list ⟨c1, c2⟩ hn
        have h1 := fun w => l1Split_any s 32 w hs
        change ∀ w, Calls _ _ #[_, .int .u8 32] w _ at h1
        have hlen := splitL_len s 32
        have hV0 : readTo (specIn q) (splitL s 32) (splitL s 32).length = none → prSpec q s = ([], false) := fun h => HP.out.trans (ls_none h)
        have hV1 : ∀ l, readTo (specIn q) (splitL s 32) (splitL s 32).length = some l → l.length ≤ 60 → reqText l = s → prSpec q s = (l, true) := fun l h h1 h2 => HP.out.trans (ls_yes h h1 h2)
        have hV2 : ∀ l, readTo (specIn q) (splitL s 32) (splitL s 32).length = some l → ¬ (l.length ≤ 60 ∧ reqText l = s) → prSpec q s = ([], false) := fun l h h1 => HP.out.trans (ls_no h h1)
        have hsz := fun k => Nat.le_trans (part_size s 32 k) hs
        unfold noneT at hne
        rw [none_listQ] at hne
        obtain ⟨N, HN⟩ : ∃ N, N = (splitL s 32).length := ⟨_, rfl⟩
        generalize hws : splitL s 32 = ws at h1 hlen hV0 hV1 hV2 HN hsz
        unfold RetS at h1
        rw [← HN] at h1 hlen hV0 hV1 hV2
        replace h1 := hide h1
        replace hV0 := hide hV0
        replace hV1 := hide hV1
        replace hV2 := hide hV2
        replace hsz := hide hsz
        replace HN := hide HN
        have h0 := own_empty w w.heap.size (Nat.le_refl _) #[] rfl
        have hb0 : Below w.heap.size w (w.alloc (.cells #[] 3)) := (by repeat (first | exact Below.refl _ _ | (refine below_drewN ?_ _) | (refine Below.drew ?_) | (refine Below.alloc ?_ (by first | exact Nat.le_refl _ | (simp; done) | (simp; omega) | omega) _) | (refine Below.setCell ?_ (by first | exact Nat.le_refl _ | (simp; done) | (simp; omega) | omega) _) | (refine Below.trans ?_ (Below.mono (by assumption) (by first | exact Nat.le_refl _ | (simp; done) | (simp; omega) | omega)))))
        replace h0 := hide h0
        replace hb0 := hide hb0
        obtain ⟨c11, c12⟩ := c1
        clear hws hn HP
        go_enter Tryd.func31, Tryd.ntmps31
        go_wp2_with (first
          | (go_at_call 55; refine (h1.out _).mono ?_; rintro e w1 ⟨As, cs, rfl, os, hb⟩; replace os := hide (os.more hb0.out.size); replace h0 := hide (h0.out.below hb); replace hb0 := hide (hb0.out.trans (hb.mono hb0.out.size)); clear hb)
          | (go_at_call 39; refine (l1In_yes _ _ _ _ (by omega) (by omega)).mono ?_; rintro e w' ⟨rfl, rfl⟩) | (go_at_call 39; refine (l1In_no _ _ _ _ (by omega)).mono ?_; rintro e w' ⟨rfl, rfl⟩) | go_in)
        go_loopw [6, 8] (fun o i wr => ∃ (k cc : Nat) (A : Option Addr) (l : List Int), k ≤ N ∧ i = .int .i64 k ∧ o = .slice A k cc ∧ Hid (readTo (specIn q) ws k = some l) ∧ Hid (OwnI wr w.heap.size A k cc l) ∧ Hid (OwnS wr w.heap.size As N cs ws) ∧ Hid (Below w.heap.size w wr)) (fun _ i _ => N - (intOf i).toNat)
        case atStart => exact ⟨0, 0, _, [], Nat.zero_le _, rfl, rfl, rfl, h0, os, hb0⟩
        case round =>
          obtain ⟨k, cc, A, l, hk, rfl, rfl, HT, HO, HS, HB⟩ := hrel
          clear h0 os hb0
          by_cases hlt : k < N
          · obtain ⟨b, off, rfl, hbk, hc⟩ := HS.out.rd.at_ hlt
            have hlt' : (k : Int) < (N : Int) := by omega
            have hxs := hsz.out k
            have h4 := l1Read_any (ws.getD k ByteArray.empty) wr hxs
            unfold RetN at h4
            cases hr : specRead (ws.getD k ByteArray.empty).data.toList with
            | none =>
              obtain ⟨e1, e2⟩ := specN_none hr
              rw [e1, e2] at h4
              have HV := hide (hV0.out (readTo_none (specN_off hr) hlt))
              replace h4 := hide h4
              generalize ws.getD k ByteArray.empty = x at hc h4
              clear hr e1 e2 hxs
              go_wp2_with (go_at_call 57; refine h4.out.mono ?_; rintro e w1 ⟨rfl, hb⟩; have HB1 := hide (HB.out.trans (hb.mono HB.out.size)); clear hb)
              go_ret2
              exact RetI.of (own_empty _ _ HB1.out.size _ rfl) (HB1.out.alloc HB1.out.size _) HV.out
            | some v =>
              obtain ⟨e1, e2⟩ := specN_some hr
              rw [e1, e2] at h4
              have hvb := spec_bd hr
              by_cases hv : 0 ≤ v ∧ v ≤ q - 1
              · have HT2 := hide (readTo_snoc HT.out (specN_in hr hv))
                obtain ⟨hv1, hv2⟩ := hv
                replace h4 := hide h4
                generalize ws.getD k ByteArray.empty = x at hc h4
                clear hr e1 e2 hxs
                go_wp2_with (first
                  | (go_at_call 57; refine h4.out.mono ?_; rintro e w1 ⟨rfl, hb⟩; have HO1 := hide (HO.out.below hb); have HS1 := hide (HS.out.below hb); have HB1 := hide (HB.out.trans (hb.mono HB.out.size)); clear hb)
                  | (go_at_call 39; refine (l1In_yes _ _ _ _ (by omega) (by omega)).mono ?_; rintro e w' ⟨rfl, rfl⟩) | (go_at_call 39; refine (l1In_no _ _ _ _ (by omega)).mono ?_; rintro e w' ⟨rfl, rfl⟩)
                  | (at_builtin; refine append_int rfl _ _ rfl w.heap.size A k cc l v _ rfl rfl HO1.out (by omega) HB1.out.size ?_; intro A2 c2' w2 ho2 hb2 hg2; have HS2 := hide (HS1.out.grown hg2 (own_apartS HO1.out HS1.out)); replace ho2 := hide ho2; replace hb2 := hide hb2; clear hg2))
                go_roundw
                case rel => first | exact ⟨k + 1, c2', A2, l ++ [v], by omega, by go_num, rfl, HT2, ho2, HS2, HB1.out.trans hb2.out⟩ | ((repeat apply Exists.intro); refine ⟨?_, rfl⟩; exact ⟨k + 1, c2', A2, l ++ [v], by omega, by go_num, rfl, HT2, ho2, HS2, HB1.out.trans hb2.out⟩)
                case measure => first | (simp [intOf]; done) | (simp [intOf]; omega)
              · have HV := hide (hV0.out (readTo_none (specN_out hr hv) hlt))
                replace h4 := hide h4
                generalize ws.getD k ByteArray.empty = x at hc h4
                clear hr e1 e2 hxs
                go_wp2_with (first
                  | (go_at_call 57; refine h4.out.mono ?_; rintro e w1 ⟨rfl, hb⟩; have HB1 := hide (HB.out.trans (hb.mono HB.out.size)); clear hb)
                  | (go_at_call 39; refine (l1In_yes _ _ _ _ (by omega) (by omega)).mono ?_; rintro e w' ⟨rfl, rfl⟩) | (go_at_call 39; refine (l1In_no _ _ _ _ (by omega)).mono ?_; rintro e w' ⟨rfl, rfl⟩))
                go_ret2
                exact RetI.of (own_empty _ _ HB1.out.size _ rfl) (HB1.out.alloc HB1.out.size _) HV.out
          · obtain rfl : k = N := by omega
            have hll := (readTo_form _ _ HT.out).1
            by_cases h60 : k ≤ 60
            · have h3 := l3Text_any A k cc l wr HO.out.rd (by omega) (in64_readTo c12 HT.out)
              by_cases ht : reqText l = s
              · have HV := hide (hV1.out l HT.out (by omega) ht)
                rw [ht] at h3
                replace h3 := hide h3
                clear ht hll
                go_wp2_with (go_at_call 52; refine h3.out.mono ?_; rintro e w1 ⟨rfl, hb⟩; have HO1 := hide (HO.out.below hb); have HB1 := hide (HB.out.trans (hb.mono HB.out.size)); clear hb)
                go_ret2
                exact RetI.of HO1.out HB1.out HV.out
              · have HV := hide (hV2.out l HT.out (fun h => ht h.2))
                have hne2 := bytes_ne' ht
                generalize reqText l = u at h3 hne2
                replace h3 := hide h3
                clear ht hll
                go_wp2_with (go_at_call 52; refine h3.out.mono ?_; rintro e w1 ⟨rfl, hb⟩; have HB1 := hide (HB.out.trans (hb.mono HB.out.size)); clear hb)
                go_ret2
                exact RetI.of (own_empty _ _ HB1.out.size _ rfl) (HB1.out.alloc HB1.out.size _) HV.out
            · have HV := hide (hV2.out l HT.out (fun h => h60 (by omega)))
              clear hll
              go_wp2
              go_ret2
              exact RetI.of (own_empty _ _ HB.out.size _ rfl) (HB.out.alloc HB.out.size _) HV.out
    · have HV := hide (pr_no (n := q) (s := s) (fun h => c2 h.2))
      obtain ⟨c11, c12⟩ := c1
      go_enter Tryd.func31, Tryd.ntmps31
      go_wp2_with (first | (go_at_call 39; refine (l1In_yes _ _ _ _ (by omega) (by omega)).mono ?_; rintro e w' ⟨rfl, rfl⟩) | (go_at_call 39; refine (l1In_no _ _ _ _ (by omega)).mono ?_; rintro e w' ⟨rfl, rfl⟩) | go_in)
      go_ret2
      exact RetI.of (own_empty _ _ (Nat.le_refl _) _ rfl) (by repeat (first | exact Below.refl _ _ | (refine below_drewN ?_ _) | (refine Below.drew ?_) | (refine Below.alloc ?_ (by first | exact Nat.le_refl _ | (simp; done) | (simp; omega) | omega) _) | (refine Below.setCell ?_ (by first | exact Nat.le_refl _ | (simp; done) | (simp; omega) | omega) _) | (refine Below.trans ?_ (Below.mono (by assumption) (by first | exact Nat.le_refl _ | (simp; done) | (simp; omega) | omega))))) HV.out
  · have HV := hide (pr_no (n := q) (s := s) (fun h => c1 h.1))
    go_enter Tryd.func31, Tryd.ntmps31
    go_wp2_with (first | (go_at_call 39; refine (l1In_yes _ _ _ _ (by omega) (by omega)).mono ?_; rintro e w' ⟨rfl, rfl⟩) | (go_at_call 39; refine (l1In_no _ _ _ _ (by omega)).mono ?_; rintro e w' ⟨rfl, rfl⟩) | go_in)
    go_ret2
    exact RetI.of (own_empty _ _ (Nat.le_refl _) _ rfl) (by repeat (first | exact Below.refl _ _ | (refine below_drewN ?_ _) | (refine Below.drew ?_) | (refine Below.alloc ?_ (by first | exact Nat.le_refl _ | (simp; done) | (simp; omega) | omega) _) | (refine Below.setCell ?_ (by first | exact Nat.le_refl _ | (simp; done) | (simp; omega) | omega) _) | (refine Below.trans ?_ (Below.mono (by assumption) (by first | exact Nat.le_refl _ | (simp; done) | (simp; omega) | omega))))) HV.out
end Go.Proofs.YtlickpalbfhjoaaDoor
