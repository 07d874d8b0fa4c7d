/- The head of a cache's text by the reference (l4New, l4Head); for texts of at most 2^20 bytes. -/
import Derived.Test.YtkimbgehnhcmaaaGreatDoorPcB
import Derived.Test.YtkimbgehnhcmaaaGreatDoorPcC
import Derived.Test.YtkimbgehnhcmaaaGreatDoorReadS
import Derived.Test.YtkimbgehnhcmaaaGreatDoorPolicyOfS
import Derived.Test.YtkimbgehnhcmaaaGreatDoorCacheB
import Derived.RegionTactic
import Derived.BigRegion
namespace Go.Proofs.YtkimbgehnhcmaaaGreatDoor
open Go.RowKit

theorem own_two (w : World) (v0 v1 v2 v3 v4 : Value) : OwnI (((w.alloc (.cells #[v0, v1, v2, v3, v4] 24)).alloc (.cells #[] 3)).alloc (.cells #[] 3)) w.heap.size (some ⟨w.heap.size + 1, 0, none⟩) 0 0 [] ∧ OwnI (((w.alloc (.cells #[v0, v1, v2, v3, v4] 24)).alloc (.cells #[] 3)).alloc (.cells #[] 3)) w.heap.size (some ⟨w.heap.size + 1 + 1, 0, none⟩) 0 0 [] := by
  have h1 := own_empty (w.alloc (.cells #[v0, v1, v2, v3, v4] 24)) w.heap.size (by simp) #[] rfl
  have h2 := own_empty ((w.alloc (.cells #[v0, v1, v2, v3, v4] 24)).alloc (.cells #[] 3)) w.heap.size (by simp; omega) #[] rfl
  have e1 : (w.alloc (.cells #[v0, v1, v2, v3, v4] 24)).heap.size = w.heap.size + 1 := by simp
  have e2 : ((w.alloc (.cells #[v0, v1, v2, v3, v4] 24)).alloc (.cells #[] 3)).heap.size = w.heap.size + 1 + 1 := by simp
  rw [e1] at h1
  rw [e2] at h2
  exact ⟨h1.below ((Below.refl _ _).alloc (Nat.le_refl _) _), h2⟩
theorem l4New_any (p s : Int) (w : World) : Calls Tryz.prog 26 #[.int .i64 p, .int .i64 s] w fun e w' => ∃ A1 A2, e = .returned (.agg #[.int .i64 p, .int .i64 s, .slice A1 0 0, .slice A2 0 0, .int .i64 0]) ∧ OwnI w' w.heap.size A1 0 0 [] ∧ OwnI w' w.heap.size A2 0 0 [] ∧ Sep A1 A2 ∧ Below w.heap.size w w' := by
  obtain ⟨o1, o2⟩ := own_two w (.int .i64 p) (.int .i64 s) (.slice (some ⟨w.heap.size + 1, 0, none⟩) 0 0) (.slice (some ⟨w.heap.size + 1 + 1, 0, none⟩) 0 0) (.int .i64 0)
  replace o1 := hide o1
  replace o2 := hide o2
  go_enter Tryz.func26, Tryz.ntmps26
  go_wp2_with fail
  refine bodyPost_ret (v := .agg #[.int .i64 p, .int .i64 s, .slice (some ⟨w.heap.size + 1, 0, none⟩) 0 0, .slice (some ⟨w.heap.size + 1 + 1, 0, none⟩) 0 0, .int .i64 0]) (by simp [results, Tryz.results26, go_sem]) rfl ⟨_, _, rfl, ?_, ?_, ?_, (by repeat (first | exact Below.refl _ _ | (refine below_drewN ?_ _) | (refine Below.drew ?_) | (refine Below.alloc ?_ (by first | exact Nat.le_refl _ | (simp; done) | (simp; omega) | omega) _) | (refine Below.setCell ?_ (by first | exact Nat.le_refl _ | (simp; done) | (simp; omega) | omega) _) | (refine Below.trans ?_ (Below.mono (by assumption) (by first | exact Nat.le_refl _ | (simp; done) | (simp; omega) | omega)))))⟩
  · exact o1.out
  · exact o2.out
  · rintro a a' ⟨⟩ ⟨⟩
    simp

/-- What l4Head hands back. -/
def RetHead (l : List UInt8) (w : World) (e : Ending) (w' : World) : Prop :=
  ∃ A1 A2, e = .returned (.tuple #[.agg #[.int .i64 (polH l), .int .i64 (specZ (cutA 64 (cutB 47 l))), .slice A1 0 0, .slice A2 0 0, .int .i64 (handS l)], .bool (okS l)]) ∧ OwnI w' w.heap.size A1 0 0 [] ∧ OwnI w' w.heap.size A2 0 0 [] ∧ Sep A1 A2 ∧ Below w.heap.size w w'
theorem handS_no {l : List UInt8} (h : cutF 64 (cutB 47 l) = false) : handS l = 0 := by unfold handS; rw [h]; rfl
theorem handS_yes {l : List UInt8} (h : cutF 64 (cutB 47 l) = true) : handS l = specZ (cutB 64 (cutB 47 l)) := by unfold handS; rw [if_pos h]
theorem okS_one {l : List UInt8} (h : (specRead (cutA 64 (cutB 47 l))).isSome = false) : okS l = false := by unfold okS; rw [h]; rfl
theorem okS_two {l : List UInt8} (h : cutF 64 (cutB 47 l) = true) (h2 : (specRead (cutB 64 (cutB 47 l))).isSome = false) : okS l = false := by unfold okS; rw [h, h2]; simp
theorem okS_yes {l : List UInt8} (h1 : (specRead (cutA 64 (cutB 47 l))).isSome = true) (h : cutF 64 (cutB 47 l) = true) (h2 : (specRead (cutB 64 (cutB 47 l))).isSome = true) : okS l = decide (polH l = 6) := by unfold okS; rw [h1, h, h2]; simp
theorem okS_no {l : List UInt8} (h1 : (specRead (cutA 64 (cutB 47 l))).isSome = true) (h : cutF 64 (cutB 47 l) = false) : okS l = !decide (polH l = 6) := by unfold okS; rw [h1, h]; simp

set_option maxRecDepth 100000 in
set_option maxHeartbeats 3200000 in
theorem l4Head_any (s : ByteArray) (w : World) (hs : s.size ≤ 1048576) : Calls Tryz.prog 10 #[.string s] w (RetHead s.data.toList w) := by
  have k1 := fun w => l4Cut_any s 47 w hs
  have k2 := fun w => l4Policy_any (cutAB 47 s) w
  have k3 := fun w => l4New_any (polIdx (cutAB 47 s)) 0 w
  have k4 := fun w => l4Cut_any (cutBB 47 s) 64 w (Nat.le_trans (cutBB_size 47 s) hs)
  have k5 := fun w => l1Read_any (cutAB 64 (cutBB 47 s)) w (Nat.le_trans (cutAB_size 64 _) (Nat.le_trans (cutBB_size 47 s) hs))
  have k6 := fun w => l1Read_any (cutBB 64 (cutBB 47 s)) w (Nat.le_trans (cutBB_size 64 _) (Nat.le_trans (cutBB_size 47 s) hs))
  change ∀ w, Calls _ _ #[_, .int .u8 47] w _ at k1
  change ∀ w, Calls _ _ #[_, .int .u8 64] w _ at k4
  unfold RetCut at k1 k4
  unfold RetN specN specOk at k5 k6
  rw [cutAB_bytes, cutBB_bytes] at k5
  rw [cutBB_bytes, cutBB_bytes] at k6
  rw [cutBB_bytes] at k4
  have hP : polH s.data.toList = polIdx (cutAB 47 s) := rfl
  have hV : ∀ (A1 A2 : Option Addr) (h : Int) (ok : Bool) (w' : World), handS s.data.toList = h → okS s.data.toList = ok → OwnI w' w.heap.size A1 0 0 [] → OwnI w' w.heap.size A2 0 0 [] → Sep A1 A2 → Below w.heap.size w w' → RetHead s.data.toList w (.returned (.tuple #[.agg #[.int .i64 (polIdx (cutAB 47 s)), .int .i64 (specZ (cutA 64 (cutB 47 s.data.toList))), .slice A1 0 0, .slice A2 0 0, .int .i64 h], .bool ok])) w' := by
    rintro A1 A2 h ok w' rfl rfl h1 h2 h3 h4
    exact ⟨A1, A2, rfl, h1, h2, h3, h4⟩
  have q1 := okS_one (l := s.data.toList)
  have q2 := okS_two (l := s.data.toList)
  have q3 := okS_yes (l := s.data.toList)
  have q4 := okS_no (l := s.data.toList)
  have q5 := handS_no (l := s.data.toList)
  have q6 := handS_yes (l := s.data.toList)
  unfold specZ at hV q6
  rw [hP] at q3 q4
  generalize (specRead (cutA 64 (cutB 47 s.data.toList))).getD 0 = Z at k5 hV
  generalize (specRead (cutB 64 (cutB 47 s.data.toList))).getD 0 = H at k6 q6
  generalize (specRead (cutA 64 (cutB 47 s.data.toList))).isSome = b1 at k5 q1 q3 q4
  generalize (specRead (cutB 64 (cutB 47 s.data.toList))).isSome = b2 at k6 q2 q3
  generalize cutF 64 (cutB 47 s.data.toList) = F at k4 q2 q3 q4 q5 q6
  generalize cutF 47 s.data.toList = F0 at k1
  generalize cutAB 64 (cutBB 47 s) = many at k4 k5
  generalize cutBB 64 (cutBB 47 s) = hand at k4 k6
  generalize polIdx (cutAB 47 s) = P at k2 k3 q3 q4 hV
  generalize cutAB 47 s = name at k1 k2
  generalize cutBB 47 s = rest at k1 k4
  clear hP hs
  replace hV := hide hV
  have HR := hide (Blk.new w (.int .i64 0) (.int .i64 0) (.slice none 0 0) (.slice none 0 0) (.int .i64 0))
  have HB := hide ((Below.refl w.heap.size w).alloc (Nat.le_refl _) (.cells #[.int .i64 0, .int .i64 0, .slice none 0 0, .slice none 0 0, .int .i64 0] 24))
  replace k1 := hide k1
  replace k2 := hide k2
  replace k3 := hide k3
  replace k4 := hide k4
  replace k5 := hide k5
  replace k6 := hide k6
  replace q1 := hide q1
  replace q2 := hide q2
  replace q3 := hide q3
  replace q4 := hide q4
  replace q5 := hide q5
  replace q6 := hide q6
  go_enter Tryz.func10, Tryz.ntmps10
  go_wp2_with fail
  refine (k1.out _).mono ?_
  rintro e W1 ⟨rfl, m1, rfl⟩
  replace HR : Hid (Blk _ _ _ _ _ _ _) := HR.out.on (below_drewN (Below.refl _ _) m1)
  replace HB := hide (below_drewN HB.out m1)
  go_wp2_with fail
  refine (k2.out _).mono ?_
  rintro e W2 ⟨rfl, hb⟩
  replace HR := hide (HR.out.on hb)
  replace HB := hide (HB.out.trans (hb.mono HB.out.size))
  clear hb
  go_wp2_with fail
  refine (k3.out _).mono ?_
  rintro e W3 ⟨A1, A2, rfl, o1, o2, hsep, hb⟩
  have hX : w.heap.size < W3.heap.size := Nat.lt_of_lt_of_le HR.out.lt hb.size
  replace HR := hide (HR.out.on hb)
  replace o1 := hide (o1.more HB.out.size)
  replace o2 := hide (o2.more HB.out.size)
  replace hsep := hide hsep
  replace HB := hide (HB.out.trans (hb.mono HB.out.size))
  clear hb
  have hb := (Below.refl W3.heap.size W3).alloc (Nat.le_refl _) (.cells #[.int .i64 P, .int .i64 0, .slice A1 0 0, .slice A2 0 0, .int .i64 0] 24)
  have HX := hide (Blk.new W3 (.int .i64 P) (.int .i64 0) (.slice A1 0 0) (.slice A2 0 0) (.int .i64 0))
  replace HR := hide (HR.out.on hb)
  replace o1 := hide (o1.out.below hb)
  replace o2 := hide (o2.out.below hb)
  replace HB := hide (HB.out.trans (hb.mono HB.out.size))
  clear hb
  go_wp2_with fail
  refine (k4.out _).mono ?_
  rintro e W4 ⟨rfl, m4, rfl⟩
  have hb := below_drewN (Below.refl (W3.alloc (.cells #[.int .i64 P, .int .i64 0, .slice A1 0 0, .slice A2 0 0, .int .i64 0] 24)).heap.size (W3.alloc (.cells #[.int .i64 P, .int .i64 0, .slice A1 0 0, .slice A2 0 0, .int .i64 0] 24))) m4
  replace HR := hide (HR.out.on hb)
  replace HX := hide (HX.out.on hb)
  replace o1 := hide (o1.out.below hb)
  replace o2 := hide (o2.out.below hb)
  replace HB := hide (HB.out.trans (hb.mono HB.out.size))
  clear hb
  go_wp2_with fail
  refine (k5.out _).mono ?_
  rintro e W5 ⟨rfl, hb⟩
  replace HR := hide (HR.out.on hb)
  replace HX := hide (HX.out.on hb)
  replace o1 := hide (o1.out.below hb)
  replace o2 := hide (o2.out.below hb)
  replace HB := hide (HB.out.trans (hb.mono HB.out.size))
  clear hb
  generalize W3.heap.size = X at hX HX ⊢
  have hne : ∀ a, A1 = some a → a.block ≠ X := HX.out.apart o1.out
  have hne2 : ∀ a, A2 = some a → a.block ≠ X := HX.out.apart o2.out
  replace hne := hide hne
  replace hne2 := hide hne2
  have HX1 := hide (HX.out.set1 (.int .i64 Z))
  have HR1 := hide (HR.out.setx (b' := X) (j := 1) (.int .i64 Z) (by omega))
  replace o1 := hide (o1.out.setx (b := X) (j := 1) (.int .i64 Z) hne.out)
  replace o2 := hide (o2.out.setx (b := X) (j := 1) (.int .i64 Z) hne2.out)
  replace HB := hide (HB.out.setCell (p := ⟨X, 1, none⟩) (Nat.le_of_lt hX) (.int .i64 Z))
  obtain ⟨z0, x0, x1, x2, x3, x4⟩ := HX.out.five
  have xz := HX.out.frz 1
  clear HX HR
  have fin : ∀ (V : World) (h : Int) (ok : Bool), Blk V X (.int .i64 P) (.int .i64 Z) (.slice A1 0 0) (.slice A2 0 0) (.int .i64 h) → Blk V w.heap.size (.int .i64 0) (.int .i64 0) (.slice none 0 0) (.slice none 0 0) (.int .i64 0) → OwnI V w.heap.size A1 0 0 [] → OwnI V w.heap.size A2 0 0 [] → Below w.heap.size w V → handS s.data.toList = h → okS s.data.toList = ok →
      RetHead s.data.toList w (.returned (.tuple #[.agg #[.int .i64 P, .int .i64 Z, .slice A1 0 0, .slice A2 0 0, .int .i64 h], .bool ok])) (set5 V w.heap.size (.int .i64 P) (.int .i64 Z) (.slice A1 0 0) (.slice A2 0 0) (.int .i64 h)).drew := by
    intro V h ok _ hr h1 h2 hb hh hok
    exact hV.out A1 A2 h ok _ hh hok (h1.set5 _ _ _ _ _ (hr.apart h1)) (h2.set5 _ _ _ _ _ (hr.apart h2)) hsep.out (below_set5 hb (Nat.le_refl _) _ _ _ _ _).drew
  replace fin := hide fin
  clear hV hsep
  cases F with
  | false =>
    have hh := hide (q5.out (by first | rfl | trivial))
    go_wp2_with fail
    generalize W5.setCell ⟨X, 1, none⟩ (.int .i64 Z) = V at HX1 HR1 o1 o2 HB ⊢
    clear z0 x0 x1 x2 x3 x4 xz
    obtain ⟨z0, x0, x1, x2, x3, x4⟩ := HX1.out.five
    obtain ⟨y0, r0, r1, r2, r3, r4⟩ := HR1.out.five
    have rz := HR1.out.frz
    obtain ⟨c0, c1, c2, c3, c4⟩ := five_cells r0 r1 r2 r3 r4
    cases b1 with
    | false =>
      have hok := hide (q1.out (by first | rfl | trivial))
      clear q1 q2 q3 q4 q5 q6 k1 k2 k3 k4 k5 k6
      go_region
      all_goals go_wp2_with fail
      refine bodyPost_ret (v := .tuple #[.agg #[.int .i64 P, .int .i64 Z, .slice A1 0 0, .slice A2 0 0, .int .i64 0], .bool false]) (by simp [results, Tryz.results10, go_sem, c0, c1, c2, c3, c4]) rfl (fin.out V 0 false HX1.out HR1.out o1.out o2.out HB.out hh.out hok.out)
    | true =>
      have hok := hide (q4.out (by first | rfl | trivial) (by first | rfl | trivial))
      clear q1 q2 q3 q4 q5 q6 k1 k2 k3 k4 k5 k6
      go_region
      all_goals go_wp2_with fail
      refine bodyPost_ret (v := .tuple #[.agg #[.int .i64 P, .int .i64 Z, .slice A1 0 0, .slice A2 0 0, .int .i64 0], .bool (!(P == 6))]) (by simp [results, Tryz.results10, go_sem, c0, c1, c2, c3, c4]) rfl (fin.out V 0 (!(P == 6)) HX1.out HR1.out o1.out o2.out HB.out hh.out (hok.out.trans (by rfl)))
  | true =>
    have hh := hide (q6.out (by first | rfl | trivial))
    go_wp2_with fail
    generalize W5.setCell ⟨X, 1, none⟩ (.int .i64 Z) = V5 at HX1 HR1 o1 o2 HB ⊢
    clear z0 x0 x1 x2 x3 x4 xz
    refine (k6.out _).mono ?_
    rintro e W6 ⟨rfl, hb⟩
    replace HR1 := hide (HR1.out.on hb)
    replace HX1 := hide (HX1.out.on hb)
    replace o1 := hide (o1.out.below hb)
    replace o2 := hide (o2.out.below hb)
    replace HB := hide (HB.out.trans (hb.mono HB.out.size))
    clear hb
    have HX2 := hide (HX1.out.set4 (.int .i64 H))
    have HR2 := hide (HR1.out.setx (b' := X) (j := 4) (.int .i64 H) (by omega))
    replace o1 := hide (o1.out.setx (b := X) (j := 4) (.int .i64 H) hne.out)
    replace o2 := hide (o2.out.setx (b := X) (j := 4) (.int .i64 H) hne2.out)
    replace HB := hide (HB.out.setCell (p := ⟨X, 4, none⟩) (Nat.le_of_lt hX) (.int .i64 H))
    obtain ⟨z0, x0, x1, x2, x3, x4⟩ := HX1.out.five
    have xz := HX1.out.frz 4
    clear HX1 HR1
    cases b1 with
    | false =>
      have hok := hide (q1.out (by first | rfl | trivial))
      clear q1 q2 q3 q4 q5 q6 k1 k2 k3 k4 k5 k6
      go_wp2_with fail
      generalize W6.setCell ⟨X, 4, none⟩ (.int .i64 H) = V at HX2 HR2 o1 o2 HB ⊢
      clear z0 x0 x1 x2 x3 x4 xz
      obtain ⟨z0, x0, x1, x2, x3, x4⟩ := HX2.out.five
      obtain ⟨y0, r0, r1, r2, r3, r4⟩ := HR2.out.five
      have rz := HR2.out.frz
      obtain ⟨c0, c1, c2, c3, c4⟩ := five_cells r0 r1 r2 r3 r4
      go_region
      all_goals go_wp2_with fail
      refine bodyPost_ret (v := .tuple #[.agg #[.int .i64 P, .int .i64 Z, .slice A1 0 0, .slice A2 0 0, .int .i64 H], .bool false]) (by simp [results, Tryz.results10, go_sem, c0, c1, c2, c3, c4]) rfl (fin.out V H false HX2.out HR2.out o1.out o2.out HB.out hh.out hok.out)
    | true =>
      cases b2 with
      | false =>
        have hok := hide (q2.out (by first | rfl | trivial) (by first | rfl | trivial))
        clear q1 q2 q3 q4 q5 q6 k1 k2 k3 k4 k5 k6
        go_wp2_with fail
        generalize W6.setCell ⟨X, 4, none⟩ (.int .i64 H) = V at HX2 HR2 o1 o2 HB ⊢
        clear z0 x0 x1 x2 x3 x4 xz
        obtain ⟨z0, x0, x1, x2, x3, x4⟩ := HX2.out.five
        obtain ⟨y0, r0, r1, r2, r3, r4⟩ := HR2.out.five
        have rz := HR2.out.frz
        obtain ⟨c0, c1, c2, c3, c4⟩ := five_cells r0 r1 r2 r3 r4
        go_region
        all_goals go_wp2_with fail
        refine bodyPost_ret (v := .tuple #[.agg #[.int .i64 P, .int .i64 Z, .slice A1 0 0, .slice A2 0 0, .int .i64 H], .bool false]) (by simp [results, Tryz.results10, go_sem, c0, c1, c2, c3, c4]) rfl (fin.out V H false HX2.out HR2.out o1.out o2.out HB.out hh.out hok.out)
      | true =>
        have hok := hide (q3.out (by first | rfl | trivial) (by first | rfl | trivial) (by first | rfl | trivial))
        clear q1 q2 q3 q4 q5 q6 k1 k2 k3 k4 k5 k6
        go_wp2_with fail
        generalize W6.setCell ⟨X, 4, none⟩ (.int .i64 H) = V at HX2 HR2 o1 o2 HB ⊢
        clear z0 x0 x1 x2 x3 x4 xz
        obtain ⟨z0, x0, x1, x2, x3, x4⟩ := HX2.out.five
        obtain ⟨y0, r0, r1, r2, r3, r4⟩ := HR2.out.five
        have rz := HR2.out.frz
        obtain ⟨c0, c1, c2, c3, c4⟩ := five_cells r0 r1 r2 r3 r4
        go_region
        all_goals go_wp2_with fail
        refine bodyPost_ret (v := .tuple #[.agg #[.int .i64 P, .int .i64 Z, .slice A1 0 0, .slice A2 0 0, .int .i64 H], .bool (P == 6)]) (by simp [results, Tryz.results10, go_sem, c0, c1, c2, c3, c4]) rfl (fin.out V H (P == 6) HX2.out HR2.out o1.out o2.out HB.out hh.out (hok.out.trans (by rfl)))
end Go.Proofs.YtkimbgehnhcmaaaGreatDoor
