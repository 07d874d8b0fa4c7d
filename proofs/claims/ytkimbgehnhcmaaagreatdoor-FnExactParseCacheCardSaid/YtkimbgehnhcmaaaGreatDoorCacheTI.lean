/- The text of a cache, by the program (cacheText); for valid caches. -/
import Derived.Test.YtkimbgehnhcmaaaGreatDoorCacheTP
import Derived.Test.YtkimbgehnhcmaaaGreatDoorCacheI
import Derived.Test.YtkimbgehnhcmaaaGreatDoorCacheA
import Derived.Test.YtkimbgehnhcmaaaGreatDoorDec
import Derived.Deep.Cut
import Derived.Deep.CutRange
namespace Go.Proofs.YtkimbgehnhcmaaaGreatDoor
open Go.RowKit

/-- What a number's text asks for: Go's own tables. -/
def Tabs (m : Int) (w : World) : Prop := Tab w ∧ w.cell? ⟨0, 0, none⟩ = some (.int .i64 m)
theorem cell_lt {w : World} {b o : Nat} {v : Value} (h : w.cell? ⟨b, o, none⟩ = some v) : b < w.heap.size := by
  by_cases hb : b < w.heap.size
  · exact hb
  · exfalso
    have h0 : w.heap[b]? = none := by rw [Array.getElem?_eq_none]; omega
    simp [World.cell?, h0] at h
theorem Tabs.below {m : Int} {w w' : World} (h : Tabs m w) (hb : Below w.heap.size w w') : Tabs m w' :=
  ⟨h.1.below hb, (hb.cell (p := ⟨0, 0, none⟩) (cell_lt h.2)).trans h.2⟩
theorem polRow_any (m : Int) (k : Nat) (hk : k < 7) (w : World) (hm : Tabs m w) :
    Calls Tryz.prog 38 #[] w fun e w' => e = .returned (.slice (some ⟨w.heap.size, 0, none⟩) 7 7) ∧ w'.cell? ⟨w.heap.size, k, none⟩ = some (.string (polText ((k : Int) + 1))) ∧ Below w.heap.size w w' := by
  refine (policyNames_any m w hm.2).mono ?_
  rintro e w' ⟨rfl, rfl⟩
  refine ⟨rfl, ?_, (by repeat (first | exact Below.refl _ _ | (refine below_drewN ?_ _) | (refine Below.drew ?_) | (refine Below.alloc ?_ (by first | exact Nat.le_refl _ | (simp; done) | (simp; omega) | omega) _) | (refine Below.setCell ?_ (by first | exact Nat.le_refl _ | (simp; done) | (simp; omega) | omega) _) | (refine Below.trans ?_ (Below.mono (by assumption) (by first | exact Nat.le_refl _ | (simp; done) | (simp; omega) | omega)))))⟩
  have h1 := polRow_cells w k hk
  have h2 : polText ((k : Int) + 1) = polNames.getD k ByteArray.empty := by
    unfold polText
    rw [if_pos (by omega), show ((k : Int) + 1 - 1).toNat = k from by omega]
  rw [h2]
  exact h1

set_option maxRecDepth 100000 in
set_option maxHeartbeats 800000 in
theorem iText_any (m p s h : Int) (A1 : Option Addr) (n1 c1 : Nat) (A2 : Option Addr) (n2 c2 : Nat) (xs ys : List Int) (w : World) (a1 : RdI w A1 n1 xs) (a2 : RdI w A2 n2 ys) (f : Fine p s xs ys h) (ht : Tabs m w) :
    Calls Tryz.prog 22 #[.agg #[.int .i64 p, .int .i64 s, .slice A1 n1 c1, .slice A2 n2 c2, .int .i64 h]] w fun e w' => e = .returned (.string (ctTo p s h xs ys n1)) ∧ Below w.heap.size w w' := by
  have hl1 := hide a1.1
  have hl2 := hide a2.1
  obtain ⟨q, rfl⟩ : ∃ q : Nat, p = (q : Int) + 1 := ⟨(p - 1).toNat, by have := f.pp; omega⟩
  have hq : q < 7 := by have := f.pp; omega
  have kN := fun w hm => polRow_any m q hq w hm
  have ks := fun w (hm : Tabs m w) => dec_any s (by have := f.ss; omega) (by have := f.ss; omega) w hm.1
  have kh := fun w (hm : Tabs m w) => dec_any h (by have := f.hand; omega) (by have := f.hand; omega) w hm.1
  have sT := polText_size ((q : Int) + 1) f.pp
  have sS := numC_size s (by have := f.ss; omega)
  have sH := numC_size h (by have := f.hand; omega)
  have hBase : Hid (ctBase ((q : Int) + 1) s = polText ((q : Int) + 1) ++ ⟨#[47]⟩ ++ numC s) := rfl
  have hbz := ctBase_size f.pp f.ss
  have HF0 := hide (Five.new w 24 (.int .i64 ((q : Int) + 1)) (.int .i64 s) (.slice A1 n1 c1) (.slice A2 n2 c2) (.int .i64 h))
  have hB0 := hide ((Below.refl w.heap.size w).alloc (Nat.le_refl _) (.cells #[.int .i64 ((q : Int) + 1), .int .i64 s, .slice A1 n1 c1, .slice A2 n2 c2, .int .i64 h] 24))
  have hT0 := hide (ht.below hB0.out)
  replace a1 := hide a1
  replace a2 := hide a2
  clear ht
  go_enter Tryz.func22, Tryz.ntmps22
  go_upto_region 1 with (fail)
  generalize w.alloc (.cells #[.int .i64 ((q : Int) + 1), .int .i64 s, .slice A1 n1 c1, .slice A2 n2 c2, .int .i64 h] 24) = W0 at HF0 hB0 hT0 ⊢
  obtain ⟨f0, f1, f2, f3, f4, f5⟩ := HF0.out
  go_cut [3] from 6 to 16 (fun s3 wc => s3 = .string (ctBase ((q : Int) + 1) s) ∧ Hid (Below W0.heap.size W0 wc))
  case first =>
    have hBo := hBase.out
    clear hBase
    generalize polText ((q : Int) + 1) = tp at kN sT hBo
    change ∀ w, Tabs m w → Calls Tryz.prog 40 #[.int .i64 s] w fun e w' => e = .returned (.string (numC s)) ∧ Below w.heap.size w w' at ks
    generalize numC s = ts at ks sS hBo
    have c1 : ¬ (9223372036854775807 < tp.size + 1) := by omega
    have c2 : ¬ (9223372036854775807 < tp.size + 1 + ts.size) := by omega
    have c3 : (⟨#[47]⟩ : ByteArray).size = 1 := rfl
    have q0 : (0 : Int) ≤ (q : Int) := by omega
    have qw : IntKind.i64.wrap (q : Int) = (q : Int) := IntWalk.i64_in _ (by omega)
    have q7 : (q : Int) < 7 := by omega
    replace hBo := hide hBo
    have HK := Kept.start (Nat.le_refl W0.heap.size)
    go_region_law (first
      | (go_simp; go_at_call 38; refine (kN _ (hT0.out.below (by first | exact HK.drew.1 | exact HK.1))).mono ?_; rintro e w1 ⟨rfl, hcell, hb⟩; have hcl : w1.cell? ⟨W0.heap.size, q, none⟩ = some (.string tp) := hcell; clear hcell; obtain ⟨hc, hf⟩ := bcell hb; have g0 : w1.cell? ⟨w.heap.size, 0, none⟩ = some (.int .i64 ((q : Int) + 1)) := (hc w.heap.size 0 f0).trans f1; have g1 : w1.cell? ⟨w.heap.size, 1, none⟩ = some (.int .i64 s) := (hc w.heap.size 1 f0).trans f2; go_must (have HK := Kept.step (by first | exact HK | exact HK.drew) hb); clear hc hf hb kN)
      | (go_simp; go_at_call 40; refine (ks _ (hT0.out.below HK.1)).mono ?_; rintro e w2 ⟨rfl, hb⟩; have hcl2 := (hb.cell (p := ⟨W0.heap.size, q, none⟩) (cell_lt hcl)).trans hcl; have h0 := (hb.cell (p := ⟨w.heap.size, 0, none⟩) (cell_lt g0)).trans g0; have h1 := (hb.cell (p := ⟨w.heap.size, 1, none⟩) (cell_lt g1)).trans g1; go_must (have HK := Kept.step (by first | exact HK | exact HK.drew) hb); clear hb ks))
    all_goals (go_wp2_with fail; go_meet)
    all_goals exact ⟨congrArg Value.string hBo.out.symm, hide HK.1⟩
  case rest =>
    obtain ⟨hs, hB1⟩ := hcut
    subst hs
    obtain ⟨wa, rfl⟩ : ∃ wa : World, wa = wc := ⟨_, rfl⟩
    have HF1 := hide (Five.on HF0.out hB1.out)
    have hB2 := hide (hB0.out.trans (hB1.out.mono (Nat.le_of_lt f0)))
    have hT1 := hide (hT0.out.below hB1.out)
    clear f0 f1 f2 f3 f4 f5 HF0 hB0 hB1 kN ks hT0
    obtain ⟨f0, f1, f2, f3, f4, f5⟩ := HF1.out
    clear hBase
    generalize hBase' : ctBase ((q : Int) + 1) s = tb at hbz ⊢
    go_upto_if 19 with (fail)
    go_cut [3] from 20 to 25 (fun s3 wd => s3 = .string (ctHead ((q : Int) + 1) s h) ∧ Hid (Below wa.heap.size wa wd))
    case first =>
      change ∀ w, Tabs m w → Calls Tryz.prog 40 #[.int .i64 h] w fun e w' => e = .returned (.string (numC h)) ∧ Below w.heap.size w w' at kh
      generalize hnh : numC h = th at kh sH
      have d1 : ¬ (9223372036854775807 < 1 + th.size) := by omega
      have d2 : ¬ (9223372036854775807 < tb.size + (1 + th.size)) := by omega
      have d3 : (⟨#[64]⟩ : ByteArray).size = 1 := rfl
      have hHead : Hid (ctHead ((q : Int) + 1) s h = if (q : Int) + 1 = 6 then tb ++ ⟨#[64]⟩ ++ th else tb) := hide (by rw [← hnh, ← hBase']; rfl)
      clear hnh hBase'
      by_cases h6 : q = 5
      · subst h6
        have hH2 := hide (hHead.out.trans (if_pos rfl))
        clear hHead
        go_wp2_with (go_at_call 40; refine (kh _ hT1.out).mono ?_; rintro e w2 ⟨rfl, hb⟩; have HB3 := hide hb; clear hb)
        go_meet
        exact ⟨congrArg Value.string (ByteArray.append_assoc.symm.trans hH2.out.symm), HB3⟩
      · have e6 : ((q : Int) + 1 == 6) = false := by simp; omega
        have h6' : ¬ (q : Int) + 1 = 6 := by omega
        have hH2 := hide (hHead.out.trans (if_neg h6'))
        clear hHead
        go_wp2_with fail
        go_meet
        exact ⟨congrArg Value.string hH2.out.symm, hide (Below.refl _ _)⟩
    case rest =>
      obtain ⟨rfl, HB3⟩ := hcut
      obtain ⟨wb, rfl⟩ : ∃ wb : World, wb = wc := ⟨_, rfl⟩
      have HF2 := hide (Five.on HF1.out HB3.out)
      have hB4 := hide (hB2.out.trans (HB3.out.mono (Nat.le_of_lt f0)))
      have hT2 := hide (hT1.out.below HB3.out)
      have b1 := hide (a1.out.below hB4.out)
      have b2 := hide (a2.out.below hB4.out)
      clear f0 f1 f2 f3 f4 f5 HF1 HB3 hB2 kh hBase' hT1
      obtain ⟨f0, f1, f2, f3, f4, f5⟩ := HF2.out
      have hn6 : n1 ≤ 6 := by have := f.len; have := hl1.out; omega
      have ff := hide f
      rw [show ctHead ((q : Int) + 1) s h = ctTo ((q : Int) + 1) s h xs ys 0 from rfl]
      clear f
      go_wp2
      go_loopw [3, 29] (fun u i wr => ∃ k : Nat, k ≤ n1 ∧ i = .int .i64 k ∧ u = .string (ctTo ((q : Int) + 1) s h xs ys k) ∧ Hid (Below wb.heap.size wb wr)) (fun _ i _ => n1 - (intOf i).toNat)
      case atStart => exact ⟨0, Nat.zero_le _, rfl, rfl, Below.refl _ _⟩
      case round =>
        obtain ⟨k, hk, rfl, rfl, HW⟩ := hrel
        have HT := hide (hT2.out.below HW.out)
        clear f0 f1 f2 f3 f4 f5
        by_cases hlt : k < n1
        · have hx := ff.out.pages k (by have := hl1.out; omega)
          have kx : ∀ w, Tabs m w → Calls Tryz.prog 40 #[.int .i64 (xs.getD k 0)] w fun e w' => e = .returned (.string (numC (xs.getD k 0))) ∧ Below w.heap.size w w' := fun w hm => dec_any _ (by omega) (by omega) w hm.1
          have sx := numC_size (xs.getD k 0) (by omega)
          have st := ctTo_size ff.out k (by have := hl1.out; omega)
          have d3 : (⟨#[32]⟩ : ByteArray).size = 1 := rfl
          have d4 : (⟨#[58]⟩ : ByteArray).size = 1 := rfl
          have hlt' : (k : Int) < (n1 : Int) := by omega
          obtain ⟨b, off, rfl, _, hc1⟩ := (b1.out.below HW.out).at_ hlt
          have HG := hide (Five.on HF2.out HW.out)
          obtain ⟨g0, g1, g2, g3, g4, g5⟩ := HG.out
          by_cases hp : q = 4 ∨ q = 5
          · have hm := ff.out.marked (by omega)
            have hn2 : n2 = n1 := by have := hl1.out; have := hl2.out; have := hm.1; omega
            subst hn2
            have hy := hm.2 k (by have := hl2.out; omega)
            have ky : ∀ w, Tabs m w → Calls Tryz.prog 40 #[.int .i64 (ys.getD k 0)] w fun e w' => e = .returned (.string (numC (ys.getD k 0))) ∧ Below w.heap.size w w' := fun w hm => dec_any _ (by omega) (by omega) w hm.1
            have sy := numC_size (ys.getD k 0) (by omega)
            obtain ⟨b', off', rfl, _, hc2⟩ := (b2.out.below HW.out).at_ hlt
            have kM : ∀ w, Calls Tryz.prog 20 #[.int .i64 ((q : Int) + 1)] w fun e w' => e = .returned (.bool true) ∧ w = w' := fun w => by
              rcases hp with rfl | rfl
              · exact isMarked_five w
              · exact isMarked_six w
            have hT : Hid (ctTo ((q : Int) + 1) s h xs ys (k + 1) = ctTo ((q : Int) + 1) s h xs ys k ++ (⟨#[32]⟩ ++ numC (xs.getD k 0)) ++ (⟨#[58]⟩ ++ numC (ys.getD k 0))) := hide ((if_pos (by omega)).trans (by rw [ByteArray.append_assoc, ByteArray.append_assoc, ByteArray.append_assoc, ByteArray.append_assoc, ByteArray.append_assoc]))
            generalize ctTo ((q : Int) + 1) s h xs ys k = tk at st hT ⊢
            generalize numC (xs.getD k 0) = tx at kx sx hT
            generalize numC (ys.getD k 0) = ty at ky sy hT
            generalize hxe : xs.getD k 0 = x at kx hc1 hx
            generalize hye : ys.getD k 0 = y at ky hc2 hy
            replace hxe := hide hxe
            replace hye := hide hye
            replace hm := trivial
            have d1 : ¬ (9223372036854775807 < 1 + tx.size) := by omega
            have d2 : ¬ (9223372036854775807 < tk.size + (1 + tx.size)) := by omega
            have d5 : ¬ (9223372036854775807 < 1 + ty.size) := by omega
            have d6 : ¬ (9223372036854775807 < tk.size + (1 + tx.size) + (1 + ty.size)) := by omega
            clear hp
            go_wp2_with (first
              | (go_at_call 40; refine (kx _ HT.out).mono ?_; rintro e w2 ⟨rfl, hb⟩; have HW2 := hide (HW.out.trans (hb.mono HW.out.size)); have HT2 := hide (HT.out.below hb); have HG2 := hide (Five.on HG.out hb); have hc3 := (hb.cell (p := ⟨b', off' + k, none⟩) (cell_lt hc2)).trans hc2; obtain ⟨j0, j1, j2, j3, j4, j5⟩ := HG2.out; clear hb kx hx g0 g1 g2 g3 g4 g5 hc1 hc2)
              | (go_at_call 40; refine (ky _ HT2.out).mono ?_; rintro e w3 ⟨rfl, hb⟩; have HW3 := hide (HW2.out.trans (hb.mono HW2.out.size)); obtain ⟨l0, l1, l2, l3, l4, l5⟩ := Five.on HG2.out hb; clear hb ky hy j0 j1 j2 j3 j4 j5 hc3)
              | (go_at_call 20; refine (kM _).mono ?_; rintro e w2 ⟨rfl, rfl⟩; clear kM))
            go_roundw
            case rel => exact ⟨k + 1, by omega, by go_num, congrArg Value.string hT.out.symm, HW3⟩
            case measure => simp [intOf]; omega
          · have kM := fun w => isMarked_no ((q : Int) + 1) (by omega) (by omega) w
            have hT : Hid (ctTo ((q : Int) + 1) s h xs ys (k + 1) = ctTo ((q : Int) + 1) s h xs ys k ++ (⟨#[32]⟩ ++ numC (xs.getD k 0))) := hide ((if_neg (by omega)).trans ByteArray.append_assoc)
            generalize ctTo ((q : Int) + 1) s h xs ys k = tk at st hT ⊢
            generalize numC (xs.getD k 0) = tx at kx sx hT
            generalize xs.getD k 0 = x at kx hc1 hx
            have d1 : ¬ (9223372036854775807 < 1 + tx.size) := by omega
            have d2 : ¬ (9223372036854775807 < tk.size + (1 + tx.size)) := by omega
            go_wp2_with (first
              | (go_at_call 40; refine (kx _ HT.out).mono ?_; rintro e w2 ⟨rfl, hb⟩; have HW2 := hide (HW.out.trans (hb.mono HW.out.size)); obtain ⟨j0, j1, j2, j3, j4, j5⟩ := Five.on HG.out hb; clear hb kx hx g0 g1 g2 g3 g4 g5 hc1)
              | (go_at_call 20; refine (kM _).mono ?_; rintro e w2 ⟨rfl, rfl⟩))
            go_roundw
            case rel => exact ⟨k + 1, by omega, by go_num, congrArg Value.string hT.out.symm, HW2⟩
            case measure => simp [intOf]; omega
        · obtain rfl : k = n1 := by omega
          go_wp2
          go_ret
          exact ⟨rfl, hB4.out.trans (HW.out.mono (Nat.le_of_lt HF2.out.1))⟩
end Go.Proofs.YtkimbgehnhcmaaaGreatDoor
