/- The text of a cache, by the reference (l4Text); for valid caches. -/
import Derived.Test.YtkimbgehnhcmaaaGreatDoorCacheTP
import Derived.Test.YtkimbgehnhcmaaaGreatDoorCacheA
import Derived.Test.YtkimbgehnhcmaaaGreatDoorCacheS
import Derived.Deep.Cut
import Derived.Deep.CutRange
import Derived.Deep.RegionHeld3
namespace Go.Proofs.YtkimbgehnhcmaaaGreatDoor
open Go.RowKit

def polAllC : List ByteArray := ByteArray.empty :: polNames
theorem polAllC_cells (w : World) (T : TypeId) : ∀ j, j < 8 → (w.alloc (.cells (polAllC.map Value.string).toArray T)).cell? ⟨w.heap.size, j, none⟩ = some (.string (polAllC.getD j ByteArray.empty)) := by
  intro j hj
  have hc : j = 0 ∨ j = 1 ∨ j = 2 ∨ j = 3 ∨ j = 4 ∨ j = 5 ∨ j = 6 ∨ j = 7 := by omega
  rcases hc with rfl | rfl | rfl | rfl | rfl | rfl | rfl | rfl <;> simp [polAllC, polNames]
theorem polText_all (p : Nat) (h : 1 ≤ p ∧ p ≤ 7) : polText (p : Int) = polAllC.getD p ByteArray.empty := by
  have hc : p = 1 ∨ p = 2 ∨ p = 3 ∨ p = 4 ∨ p = 5 ∨ p = 6 ∨ p = 7 := by omega
  rcases hc with rfl | rfl | rfl | rfl | rfl | rfl | rfl <;> rfl
/-- l4Names at a policy: the table from there on. -/
theorem l4Names_any (p : Nat) (hp : 1 ≤ p ∧ p ≤ 7) (w : World) :
    Calls Tryz.prog 35 #[.int .i64 (p : Int)] w fun e w' => (∃ m c, e = .returned (.slice (some ⟨w.heap.size, p, none⟩) (m + 1) c)) ∧ w'.cell? ⟨w.heap.size, p, none⟩ = some (.string (polText (p : Int))) ∧ Below w.heap.size w w' := by
  have hc := polAllC_cells w 9 p (by omega)
  rw [← polText_all p hp] at hc
  have hB : Below w.heap.size w (w.alloc (.cells (polAllC.map Value.string).toArray 9)) := (by repeat (first | exact Below.refl _ _ | (refine below_drewN ?_ _) | (refine Below.drew ?_) | (refine Below.alloc ?_ (by first | exact Nat.le_refl _ | (simp; done) | (simp; omega) | omega) _) | (refine Below.setCell ?_ (by first | exact Nat.le_refl _ | (simp; done) | (simp; omega) | omega) _) | (refine Below.trans ?_ (Below.mono (by assumption) (by first | exact Nat.le_refl _ | (simp; done) | (simp; omega) | omega)))))
  obtain ⟨h1, h2⟩ := hp
  have h8 : ¬ 8 = p := by omega
  obtain ⟨m, hm⟩ : ∃ m, 8 - p = m + 1 := ⟨7 - p, by omega⟩
  replace hc := hide hc
  replace hB := hide hB
  go_enter Tryz.func35, Tryz.ntmps35
  go_wp2
  go_ret
  exact ⟨⟨m, _, rfl⟩, hc.out, hB.out⟩

set_option maxRecDepth 100000 in
set_option maxHeartbeats 800000 in
theorem l4Text_any (p s h : Int) (A1 : Option Addr) (n1 c1 : Nat) (A2 : Option Addr) (n2 c2 : Nat) (xs ys : List Int) (w : World) (a1 : RdI w A1 n1 xs) (a2 : RdI w A2 n2 ys) (f : Fine p s xs ys h) :
    Calls Tryz.prog 15 #[.agg #[.int .i64 p, .int .i64 s, .slice A1 n1 c1, .slice A2 n2 c2, .int .i64 h]] w fun e w' => e = .returned (.string (ctTo p s h xs ys n1)) ∧ Below w.heap.size w w' := by
  have hl1 := hide a1.1
  have hl2 := hide a2.1
  obtain ⟨p0, rfl⟩ : ∃ p0 : Nat, p = (p0 : Int) := ⟨p.toNat, by have := f.pp; omega⟩
  have kN := fun w => l4Names_any p0 (by have := f.pp; omega) w
  have ks : ∀ w, Calls Tryz.prog 29 #[.int .i64 s] w fun e w' => e = .returned (.string (numC s)) ∧ ∃ m, w' = w.drewN m := fun w => l1Num_any s (by have := f.ss; omega) (by have := f.ss; omega) w
  have kh : ∀ w, Calls Tryz.prog 29 #[.int .i64 h] w fun e w' => e = .returned (.string (numC h)) ∧ ∃ m, w' = w.drewN m := fun w => l1Num_any h (by have := f.hand; omega) (by have := f.hand; omega) w
  have sT := polText_size (p0 : Int) f.pp
  have sS := numC_size s (by have := f.ss; omega)
  have sH := numC_size h (by have := f.hand; omega)
  have hBase : Hid (ctBase (p0 : Int) s = polText (p0 : Int) ++ ⟨#[47]⟩ ++ numC s) := rfl
  have hbz := ctBase_size f.pp f.ss
  have HF0 := hide (Five.new w 24 (.int .i64 (p0 : Int)) (.int .i64 s) (.slice A1 n1 c1) (.slice A2 n2 c2) (.int .i64 h))
  have hB0 := hide ((Below.refl w.heap.size w).alloc (Nat.le_refl _) (.cells #[.int .i64 (p0 : Int), .int .i64 s, .slice A1 n1 c1, .slice A2 n2 c2, .int .i64 h] 24))
  replace a1 := hide a1
  replace a2 := hide a2
  go_enter Tryz.func15, Tryz.ntmps15
  go_upto_region 1 with (fail)
  generalize w.alloc (.cells #[.int .i64 (p0 : Int), .int .i64 s, .slice A1 n1 c1, .slice A2 n2 c2, .int .i64 h] 24) = W0 at HF0 hB0 ⊢
  obtain ⟨f0, f1, f2, f3, f4, f5⟩ := HF0.out
  go_cut [3] from 5 to 14 (fun s3 wc => s3 = .string (ctBase (p0 : Int) s) ∧ Hid (Below W0.heap.size W0 wc))
  case first =>
    have hBo := hBase.out
    clear hBase
    generalize polText (p0 : Int) = tp at kN sT hBo
    generalize numC s = ts at ks sS hBo
    have c1 : ¬ (9223372036854775807 < tp.size + 1) := by omega
    have c2 : ¬ (9223372036854775807 < tp.size + 1 + ts.size) := by omega
    have c3 : (⟨#[47]⟩ : ByteArray).size = 1 := rfl
    replace hBo := hide hBo
    have HK := Kept.start (Nat.le_refl W0.heap.size)
    go_region_law (first
      | (go_simp; go_at_call 35; refine (kN _).mono ?_; rintro e w1 ⟨⟨m, c, rfl⟩, hcell, hb⟩; have hcl : w1.cell? ⟨W0.heap.size, p0, none⟩ = some (.string tp) := hcell; clear hcell; obtain ⟨hc, hf⟩ := bcell hb; have g1 : w1.cell? ⟨w.heap.size, 1, none⟩ = some (.int .i64 s) := (hc w.heap.size 1 f0).trans f2; go_must (have HK := Kept.step (by first | exact HK | exact HK.drew) hb))
      | (go_simp; go_at_call 29; refine (ks _).mono ?_; rintro e w2 ⟨rfl, mm, rfl⟩))
    all_goals (go_wp2_with fail; go_meet)
    all_goals exact ⟨congrArg Value.string hBo.out.symm, hide (below_drewN HK.1 _)⟩
  case rest =>
    obtain ⟨hs, hB1⟩ := hcut
    subst hs
    have HF1 := hide (Five.on HF0.out hB1.out)
    have hB2 := hide (hB0.out.trans (hB1.out.mono (Nat.le_of_lt f0)))
    clear f0 f1 f2 f3 f4 f5 HF0 hB0 hB1 kN ks
    obtain ⟨f0, f1, f2, f3, f4, f5⟩ := HF1.out
    clear hBase
    generalize hBase' : ctBase (p0 : Int) s = tb at hbz ⊢
    go_upto_if 17 with (fail)
    go_cut [3] from 18 to 24 (fun s3 wd => s3 = .string (ctHead (p0 : Int) s h) ∧ Hid (Below wc.heap.size wc wd))
    case first =>
      generalize hnh : numC h = th at kh sH
      have d1 : ¬ (9223372036854775807 < tb.size + 1) := by omega
      have d2 : ¬ (9223372036854775807 < tb.size + 1 + th.size) := by omega
      have d3 : (⟨#[64]⟩ : ByteArray).size = 1 := rfl
      have hHead : Hid (ctHead (p0 : Int) s h = if (p0 : Int) = 6 then tb ++ ⟨#[64]⟩ ++ th else tb) := hide (by rw [← hnh, ← hBase']; rfl)
      clear hnh hBase'
      by_cases h6 : p0 = 6
      · subst h6
        go_wp2_with (go_at_call 29; refine (kh _).mono ?_; rintro e w2 ⟨rfl, mm, rfl⟩)
        go_meet
        exact ⟨congrArg Value.string hHead.out.symm, hide (below_drewN (Below.refl _ _) _)⟩
      · have e6 : ((p0 : Int) == 6) = false := by simp; omega
        have h6' : ¬ (p0 : Int) = 6 := by omega
        have hH2 := hide (hHead.out.trans (if_neg h6'))
        clear hHead
        go_wp2_with fail
        go_meet
        exact ⟨congrArg Value.string hH2.out.symm, hide (Below.refl _ _)⟩
    case rest =>
      obtain ⟨rfl, HB3⟩ := hcut
      have HF2 := hide (Five.on HF1.out HB3.out)
      have hB4 := hide (hB2.out.trans (HB3.out.mono (Nat.le_of_lt f0)))
      have b1 := hide (a1.out.below hB4.out)
      have b2 := hide (a2.out.below hB4.out)
      clear f0 f1 f2 f3 f4 f5 HF1 HB3 hB2 kh hBase'
      obtain ⟨f0, f1, f2, f3, f4, f5⟩ := HF2.out
      have hn6 : n1 ≤ 6 := by have := f.len; have := hl1.out; omega
      have ff := hide f
      rw [show ctHead (p0 : Int) s h = ctTo (p0 : Int) s h xs ys 0 from rfl]
      clear f
      go_wp2
      go_loopw [3, 4] (fun u i wr => ∃ k : Nat, k ≤ n1 ∧ i = .int .i64 k ∧ u = .string (ctTo (p0 : Int) s h xs ys k) ∧ ∃ m, Hid (wr = wc.drewN m)) (fun _ i _ => n1 - (intOf i).toNat)
      case atStart => exact ⟨0, Nat.zero_le _, rfl, rfl, 0, rfl⟩
      case round =>
        obtain ⟨k, hk, rfl, rfl, m, HW⟩ := hrel
        obtain rfl := HW.out
        by_cases hlt : k < n1
        · have hx := ff.out.pages k (by have := hl1.out; omega)
          have kx : ∀ w, Calls Tryz.prog 29 #[.int .i64 (xs.getD k 0)] w fun e w' => e = .returned (.string (numC (xs.getD k 0))) ∧ ∃ m, w' = w.drewN m := fun w => l1Num_any _ (by omega) (by omega) w
          have sx := numC_size (xs.getD k 0) (by omega)
          have st := ctTo_size ff.out k (by have := hl1.out; omega)
          have d3 : (⟨#[32]⟩ : ByteArray).size = 1 := rfl
          have d4 : (⟨#[58]⟩ : ByteArray).size = 1 := rfl
          have hlt' : (k : Int) < (n1 : Int) := by omega
          obtain ⟨b, off, rfl, _, hc1⟩ := (b1.out).at_ hlt
          by_cases hp : p0 = 5 ∨ p0 = 6
          · have hm := ff.out.marked (by omega)
            have hn2 : n2 = n1 := by have := hl1.out; have := hl2.out; have := hm.1; omega
            subst hn2
            have hy := hm.2 k (by have := hl2.out; omega)
            have ky : ∀ w, Calls Tryz.prog 29 #[.int .i64 (ys.getD k 0)] w fun e w' => e = .returned (.string (numC (ys.getD k 0))) ∧ ∃ m, w' = w.drewN m := fun w => l1Num_any _ (by omega) (by omega) w
            have sy := numC_size (ys.getD k 0) (by omega)
            obtain ⟨b', off', rfl, _, hc2⟩ := (b2.out).at_ hlt
            have kM : ∀ w, Calls Tryz.prog 13 #[.int .i64 (p0 : Int)] w fun e w' => e = .returned (.bool true) ∧ w = w' := fun w => by
              rcases hp with rfl | rfl
              · exact l4Marked_five w
              · exact l4Marked_six w
            have hT : Hid (ctTo (p0 : Int) s h xs ys (k + 1) = ctTo (p0 : Int) s h xs ys k ++ ⟨#[32]⟩ ++ numC (xs.getD k 0) ++ ⟨#[58]⟩ ++ numC (ys.getD k 0)) := hide (if_pos (by omega))
            generalize ctTo (p0 : Int) s h xs ys k = tk at st hT ⊢
            generalize numC (xs.getD k 0) = tx at kx sx hT
            generalize numC (ys.getD k 0) = ty at ky sy hT
            generalize hxe : xs.getD k 0 = x at kx hc1 hx
            generalize hye : ys.getD k 0 = y at ky hc2 hy
            replace hxe := hide hxe
            replace hye := hide hye
            replace hm := trivial
            have d1 : ¬ (9223372036854775807 < tk.size + 1) := by omega
            have d2 : ¬ (9223372036854775807 < tk.size + 1 + tx.size) := by omega
            have d5 : ¬ (9223372036854775807 < tk.size + 1 + tx.size + 1) := by omega
            have d6 : ¬ (9223372036854775807 < tk.size + 1 + tx.size + 1 + ty.size) := by omega
            go_wp2_with (first
              | (go_at_call 29; refine (kx _).mono ?_; rintro e w2 ⟨rfl, mm, rfl⟩; clear kx hx)
              | (go_at_call 29; refine (ky _).mono ?_; rintro e w2 ⟨rfl, mm, rfl⟩; clear ky hy)
              | (go_at_call 13; refine (kM _).mono ?_; rintro e w2 ⟨rfl, rfl⟩))
            go_roundw
            case rel => exact ⟨k + 1, by omega, by go_num, congrArg Value.string hT.out.symm, m + _ + _, rfl⟩
            case measure => simp [intOf]; omega
          · have kM := fun w => l4Marked_no (p0 : Int) (by omega) (by omega) w
            have hT : Hid (ctTo (p0 : Int) s h xs ys (k + 1) = ctTo (p0 : Int) s h xs ys k ++ ⟨#[32]⟩ ++ numC (xs.getD k 0)) := hide (if_neg (by omega))
            generalize ctTo (p0 : Int) s h xs ys k = tk at st hT ⊢
            generalize numC (xs.getD k 0) = tx at kx sx hT
            generalize xs.getD k 0 = x at kx hc1 hx
            have d1 : ¬ (9223372036854775807 < tk.size + 1) := by omega
            have d2 : ¬ (9223372036854775807 < tk.size + 1 + tx.size) := by omega
            go_wp2_with (first
              | (go_at_call 29; refine (kx _).mono ?_; rintro e w2 ⟨rfl, mm, rfl⟩)
              | (go_at_call 13; refine (kM _).mono ?_; rintro e w2 ⟨rfl, rfl⟩))
            go_roundw
            case rel => exact ⟨k + 1, by omega, by go_num, congrArg Value.string hT.out.symm, m + _, rfl⟩
            case measure => simp [intOf]; omega
        · obtain rfl : k = n1 := by omega
          go_wp2
          go_ret
          exact ⟨rfl, below_drewN hB4.out _⟩
end Go.Proofs.YtkimbgehnhcmaaaGreatDoor
