/- JoinStrings walked, by the reference and by the program; for rows of at most 2^20 texts and bytes. -/
import Derived.Test.YtlickpalbfhjoaaJoinS
namespace Go.Proofs.Ytlickpalbfhjoaa
open Go.RowKit

theorem hasC_index (c : UInt8) : ∀ l : List UInt8, l.contains c = decide (0 ≤ Lib.indexByte l c)
  | [] => rfl
  | b :: l => by
    have ih := hasC_index c l
    have hg := Lib.indexByte_ge l c
    unfold Lib.indexByte
    by_cases hb : b = c
    · subst hb; simp
    · have hb' : (b == c) = false := by simpa using hb
      have hb2 : ¬ c = b := fun e => hb e.symm
      rw [hb']
      simp only [Bool.false_eq_true, if_false]
      rw [List.contains_cons, show (c == b) = false by simpa using hb2, Bool.false_or, ih]
      by_cases hi : Lib.indexByte l c = -1
      · rw [hi]; rfl
      · have h1 : (Lib.indexByte l c == -1) = false := by simpa using hi
        rw [h1]
        simp only [Bool.false_eq_true, if_false]
        rw [decide_eq_true (show 0 ≤ Lib.indexByte l c by omega), decide_eq_true (show 0 ≤ Lib.indexByte l c + 1 by omega)]

theorem drewN_more {w wr : World} {m : Nat} (h : wr = w.drewN m) (q : Nat) : Hid (wr.drewN q = w.drewN (m + q)) := by
  subst h
  exact World.drewN_drewN _ _ _

set_option maxRecDepth 100000 in
set_option maxHeartbeats 1600000 in
theorem spec_JoinStrings (A : Option Addr) (n c : Nat) (xs : List ByteArray) (p : ByteArray) (w : World) (hr : RdS w A n xs) (hz : n + sumLen xs ≤ 1048576) (_hp : p.size ≤ 1048576) :
    Calls Try.prog 11 #[.slice A n c, .string p] w (RetJ w xs p) := by
  have hlen := hide hr.1
  have HR := hide hr
  clear hr
  by_cases h1 : p.size = 1
  · by_cases h0 : n = 0
    · have HV := hide (not_some (xs := xs) (c := p) (by rw [hlen.out]; exact h0))
      subst h0
      go_enter Try.func11, Try.ntmps11
      go_wp2
      go_ret2
      exact RetJ.no HV.out (Below.refl _ _)
    · have hp0 : 0 < p.size := by omega
      have hn0 : 0 < n := by omega
      have hb := p[0].toNat_lt
      have HC := hide (byte0 p hp0)
      have HS := hide (joinTo_size xs p h1)
      have hnn : ¬ (n : Int) = 0 := by omega
      have hp1 : (p.size : Int) = 1 := by omega
      replace h1 := hide h1
      clear h0
      go_enter Try.func11, Try.ntmps11
      go_wp2
      go_loopw [6, 7] (fun o i wr => ∃ (k : Nat) (u : ByteArray), k ≤ n ∧ i = .int .i64 k ∧ o = .string u ∧ u.size ≤ 4000 ∧ Hid (u = joinTo xs p k) ∧ Hid (∀ j, j < k → hasC (xs.getD j ByteArray.empty) p[0] = false) ∧ ∃ m, Hid (wr = w.drewN m)) (fun _ i _ => n - (intOf i).toNat)
      case atStart => exact ⟨0, _, Nat.zero_le _, rfl, rfl, by decide, rfl, fun j hj => absurd hj (Nat.not_lt_zero _), 0, rfl⟩
      case round =>
        obtain ⟨k, u, hk, rfl, rfl, hu, HU, HF, m, HW⟩ := hrel
        have HBW : Hid (Below w.heap.size w wr) := by unfold Hid; rw [HW.out]; exact below_drewN (Below.refl _ _) _
        by_cases hlt : k < n
        · obtain ⟨bk, off, rfl, hbk, hc⟩ := (HR.out).at_ hlt
          have hlt' : (k : Int) < (n : Int) := by omega
          replace hc : wr.cell? ⟨bk, off + k, none⟩ = some (.string (xs.getD k ByteArray.empty)) := (HBW.out.cell (p := ⟨bk, off + k, none⟩) hbk).trans hc
          have hmem := sumLen_snoc xs k (by rw [hlen.out]; exact hlt)
          have htk := sumLen_take_le xs (k + 1)
          have hsx : (xs.getD k ByteArray.empty).size ≤ 1048576 := by omega
          have hst := fun w => l1Stands_any (xs.getD k ByteArray.empty) p[0] w (by unfold maxLen; omega)
          have hstq : ∀ w, Calls Try.prog 17 #[.string (xs.getD k ByteArray.empty), .int .u8 (p[0].toNat : Int)] w fun e w' => e = .returned (.bool (hasC (xs.getD k ByteArray.empty) p[0])) ∧ ∃ m, w' = w.drewN m := fun w => (hst w).mono fun e w' ⟨he, hw⟩ => ⟨he, 0, by rw [← hw]; rfl⟩
          clear hst
          by_cases hh : hasC (xs.getD k ByteArray.empty) p[0] = true
          · have HV := hide (not_free HC.out (by rw [hlen.out]; exact hlt) hh)
            rw [hh] at hstq
            generalize xs.getD k ByteArray.empty = x at hc hstq hsx
            clear hh hmem htk
            go_wp2_with fail
            go_quiet ((go_at_call 17; exact Calls.quiet_of (hstq _)))
            go_wp2_with fail
            go_ret2
            exact RetJ.no HV.out (below_drewN HBW.out _)
          · have hh2 : hasC (xs.getD k ByteArray.empty) p[0] = false := by simpa using hh
            have HF2 : Hid (∀ j, j < k + 1 → hasC (xs.getD j ByteArray.empty) p[0] = false) := fun j hj => by
              by_cases e : j < k
              · exact HF.out j e
              · obtain rfl : j = k := by omega
                exact hh2
            rw [hh2] at hstq
            clear hh hh2
            have hnext := HS.out (k + 1) (by rw [hlen.out]; omega)
            have HT : Hid (sumLen (xs.take (k + 1)) ≤ sumLen xs) := htk
            replace hnext := hide hnext
            by_cases hk0 : 0 < k
            · have HJ := hide (joinTo_more xs p k hk0)
              rw [← HU.out] at HJ
              have hj2 := HJ.out
              generalize xs.getD k ByteArray.empty = x at hc hstq hsx HJ hj2
              clear hmem htk hj2
              have c1 : ¬ (9223372036854775807 < u.size + p.size) := by omega
              have c2 : ¬ (9223372036854775807 < u.size + p.size + x.size) := by omega
              by_cases hsz : u.size + p.size + x.size ≤ 4000
              · go_wp2_with fail
                go_quiet ((go_at_call 17; exact Calls.quiet_of (hstq _)))
                go_wp2_with fail
                go_roundw
                case rel => first | exact ⟨k + 1, u ++ p ++ x, by omega, by go_num, rfl, by rw [ByteArray.size_append, ByteArray.size_append]; exact hsz, HJ.out.symm, HF2, m + _, drewN_more HW.out _⟩ | ((repeat apply Exists.intro); refine ⟨?_, rfl⟩; exact ⟨k + 1, u ++ p ++ x, by omega, by go_num, rfl, by rw [ByteArray.size_append, ByteArray.size_append]; exact hsz, HJ.out.symm, HF2, m + _, drewN_more HW.out _⟩)
                case measure => first | (simp [intOf]; done) | (simp [intOf]; omega)
              · have HV : Hid (joinOk xs p = false) := not_short (by
                  have h5 := hnext.out
                  rw [HJ.out] at h5
                  have h6 := HT.out
                  simp only [ByteArray.size_append] at h5
                  rw [hlen.out]
                  omega)
                go_wp2_with fail
                go_quiet ((go_at_call 17; exact Calls.quiet_of (hstq _)))
                go_wp2_with fail
                go_ret2
                exact RetJ.no HV.out (below_drewN HBW.out _)
            · obtain rfl : k = 0 := by omega
              rw [Nat.add_zero] at hc
              have HJ : Hid (joinTo xs p (0 + 1) = u ++ xs.getD 0 ByteArray.empty) := by
                unfold Hid
                rw [HU.out]
                rfl
              generalize xs.getD 0 ByteArray.empty = x at hc hstq hsx HJ
              clear hmem htk
              have c1 : ¬ (9223372036854775807 < u.size + x.size) := by omega
              by_cases hsz : u.size + x.size ≤ 4000
              · go_wp2_with fail
                go_quiet ((go_at_call 17; exact Calls.quiet_of (hstq _)))
                go_wp2_with fail
                go_roundw
                case rel => first | exact ⟨0 + 1, u ++ x, by omega, by go_num, rfl, by rw [ByteArray.size_append]; exact hsz, HJ.out.symm, HF2, m + _, drewN_more HW.out _⟩ | ((repeat apply Exists.intro); refine ⟨?_, rfl⟩; exact ⟨0 + 1, u ++ x, by omega, by go_num, rfl, by rw [ByteArray.size_append]; exact hsz, HJ.out.symm, HF2, m + _, drewN_more HW.out _⟩)
                case measure => first | (simp [intOf]; done) | (simp [intOf]; omega)
              · have HV : Hid (joinOk xs p = false) := not_short (by
                  have h5 := hnext.out
                  rw [HJ.out] at h5
                  have h6 := HT.out
                  simp only [ByteArray.size_append] at h5
                  rw [hlen.out]
                  omega)
                go_wp2_with fail
                go_quiet ((go_at_call 17; exact Calls.quiet_of (hstq _)))
                go_wp2_with fail
                go_ret2
                exact RetJ.no HV.out (below_drewN HBW.out _)
        · obtain rfl : k = n := by omega
          have HV : Hid (joinOk xs p = true) := yes_join HC.out h1.out (by rw [hlen.out]; exact hn0) (by
            have h5 := HS.out k (by rw [hlen.out]; exact Nat.le_refl _)
            rw [← HU.out, sumLen_all xs k hlen.out] at h5
            rw [hlen.out]
            omega) (by rw [hlen.out]; exact HF.out)
          go_wp2
          go_ret2
          exact RetJ.yes HV.out (by rw [hlen.out]; exact HU.out) HBW.out
  · have HV := hide (not_sep (xs := xs) h1)
    have hq : ((p.size : Int) != 1) = true := by simp; omega
    go_enter Try.func11, Try.ntmps11
    go_wp2
    go_ret2
    exact RetJ.no HV.out (Below.refl _ _)

set_option maxRecDepth 100000 in
set_option maxHeartbeats 1600000 in
theorem impl_JoinStrings (A : Option Addr) (n c : Nat) (xs : List ByteArray) (p : ByteArray) (w : World) (hr : RdS w A n xs) (hcap : n ≤ c) (hz : n + sumLen xs ≤ 1048576) (_hp : p.size ≤ 1048576) :
    Calls Try.prog 13 #[.slice A n c, .string p] w (RetJ w xs p) := by
  have hlen := hide hr.1
  have HR := hide hr
  clear hr
  by_cases h0 : n = 0
  · have HV := hide (not_some (xs := xs) (c := p) (by rw [hlen.out]; exact h0))
    subst h0
    go_enter Try.func13, Try.ntmps13
    go_wp2
    go_ret2
    exact RetJ.no HV.out (Below.refl _ _)
  · have hn0 : 0 < n := by omega
    have hnn : ¬ (n : Int) = 0 := by omega
    have hnq : ((n : Int) == 0) = false := by simp; omega
    clear h0
    by_cases h1 : p.size = 1
    · have hp0 : 0 < p.size := by omega
      have hb := p[0].toNat_lt
      have HC := hide (byte0 p hp0)
      have HS := hide (joinTo_size xs p h1)
      have hp1 : (p.size : Int) = 1 := by omega
      replace h1 := hide h1
      go_enter Try.func13, Try.ntmps13
      go_wp2
      go_loop [6, 22] (fun q i => ∃ k s : Nat, k ≤ n ∧ i = .int .i64 k ∧ q = .int .i64 ((n : Int) - 1 + s) ∧ s ≤ 1048576 ∧ (0 < k → n - 1 + s ≤ 4000) ∧ Hid (s = sumLen (xs.take k)) ∧ Hid (∀ j, j < k → hasC (xs.getD j ByteArray.empty) p[0] = false)) (fun _ i => n - (intOf i).toNat)
      case atStart => exact ⟨0, 0, Nat.zero_le _, rfl, by simp, by omega, fun h => absurd h (by omega), rfl, fun j hj => absurd hj (Nat.not_lt_zero _)⟩
      case round =>
        obtain ⟨k, s, hk, rfl, rfl, hs, hsm, HU, HF⟩ := hrel
        by_cases hlt : k < n
        · obtain ⟨bk, off, rfl, hbk, hc⟩ := (HR.out).at_ hlt
          have hlt' : (k : Int) < (n : Int) := by omega
          have hmem := sumLen_snoc xs k (by rw [hlen.out]; exact hlt)
          have htk := sumLen_take_le xs (k + 1)
          have hss : s + (xs.getD k ByteArray.empty).size ≤ 1048576 := by rw [HU.out]; omega
          have HN : Hid (s + (xs.getD k ByteArray.empty).size = sumLen (xs.take (k + 1))) := by unfold Hid; rw [hmem, HU.out]
          have HT : Hid (s + (xs.getD k ByteArray.empty).size ≤ sumLen xs) := by unfold Hid; rw [HN.out]; exact htk
          have hix := fun w => Try.strings_IndexByte (xs.getD k ByteArray.empty) (p[0].toNat : Int) w
          have e1 : ((p[0].toNat : Int)).toNat.toUInt8 = p[0] := by simp
          rw [e1] at hix
          replace hix : ∀ w, Calls Try.prog 18 #[.string (xs.getD k ByteArray.empty), .int .u8 (p[0].toNat : Int)] w fun e w' => e = .returned (.int .i64 (Lib.indexByte (xs.getD k ByteArray.empty).data.toList p[0])) ∧ w = w' := fun w => (hix w).mono fun e w' ⟨he, hw⟩ => ⟨he, hw.symm⟩
          have hcx := hasC_index p[0] (xs.getD k ByteArray.empty).data.toList
          have HH : Hid (hasC (xs.getD k ByteArray.empty) p[0] = decide (0 ≤ Lib.indexByte (xs.getD k ByteArray.empty).data.toList p[0])) := hcx
          clear hmem htk e1 hcx hsm
          by_cases hbig : n - 1 + (s + (xs.getD k ByteArray.empty).size) ≤ 4000
          · by_cases hh : 0 ≤ Lib.indexByte (xs.getD k ByteArray.empty).data.toList p[0]
            · have HV := hide (not_free HC.out (by rw [hlen.out]; exact hlt) (by rw [HH.out, decide_eq_true hh]))
              generalize Lib.indexByte (xs.getD k ByteArray.empty).data.toList p[0] = ix at hix hh HH
              generalize xs.getD k ByteArray.empty = x at hc hix hss hbig HN HT HH
              have hb2 : ¬ (4000 : Int) < (n : Int) - 1 + s + x.size := by omega
              go_wp2_with (go_at_call 18; refine (hix _).mono ?_; rintro e w1 ⟨rfl, rfl⟩)
              go_ret2
              exact RetJ.no HV.out (Below.refl _ _)
            · have HF2 : Hid (∀ j, j < k + 1 → hasC (xs.getD j ByteArray.empty) p[0] = false) := fun j hj => by
                by_cases e : j < k
                · exact HF.out j e
                · obtain rfl : j = k := by omega
                  rw [HH.out, decide_eq_false hh]
              generalize Lib.indexByte (xs.getD k ByteArray.empty).data.toList p[0] = ix at hix hh HH
              generalize xs.getD k ByteArray.empty = x at hc hix hss hbig HN HT HH
              have hb2 : ¬ (4000 : Int) < (n : Int) - 1 + s + x.size := by omega
              go_wp2_with (go_at_call 18; refine (hix _).mono ?_; rintro e w1 ⟨rfl, rfl⟩)
              go_round
              case rel => first | exact ⟨k + 1, s + x.size, by omega, by go_num, by go_num, by omega, fun _ => by omega, HN, HF2⟩ | ((repeat apply Exists.intro); refine ⟨?_, rfl⟩; exact ⟨k + 1, s + x.size, by omega, by go_num, by go_num, by omega, fun _ => by omega, HN, HF2⟩)
              case measure => first | (simp [intOf]; done) | (simp [intOf]; omega)
          · have HV : Hid (joinOk xs p = false) := not_short (by have := HT.out; rw [hlen.out]; omega)
            generalize Lib.indexByte (xs.getD k ByteArray.empty).data.toList p[0] = ix at hix HH
            generalize xs.getD k ByteArray.empty = x at hc hix hss hbig HN HT HH
            have hb2 : (4000 : Int) < (n : Int) - 1 + s + x.size := by omega
            go_wp2
            go_ret2
            exact RetJ.no HV.out (Below.refl _ _)
        · obtain rfl : k = n := by omega
          have hk4 := hsm hn0
          obtain ⟨bk, off, rfl, hbk, _⟩ := (HR.out).at_ hn0
          have hsum : Hid (s = sumLen xs) := by have := HU.out; rwa [sumLen_all xs k hlen.out] at this
          have HV : Hid (joinOk xs p = true) := yes_join HC.out h1.out (by rw [hlen.out]; exact hn0) (by rw [hlen.out, ← hsum.out]; omega) (by rw [hlen.out]; exact HF.out)
          have hcells : ∀ (j : Nat) y, xs[j]? = some y → w.cell? ⟨bk, off + j, none⟩ = some (.string y) := fun j y hy => by
            have hjl : j < k := by rw [← hlen.out]; exact (List.getElem?_eq_some_iff.1 hy).1
            obtain ⟨b2, off2, e2, _, hc2⟩ := (HR.out).at_ hjl
            cases e2
            rw [hc2, List.getD_eq_getElem?_getD, hy]
            rfl
          have hjo := join_joinTo xs p (by rw [hlen.out]; exact hn0)
          have hjs := HS.out k (by rw [hlen.out]; exact Nat.le_refl _)
          rw [sumLen_all xs k hlen.out, ← hsum.out] at hjs
          have hJ := Try.strings_Join bk off c xs p w hcells hbk (by rw [hlen.out]; omega) (by rw [hlen.out]; exact hcap) (by
            rw [hjo, hlen.out]
            have : (joinTo xs p k).data.toList.length = (joinTo xs p k).size := by simp
            omega)
          rw [hjo, hlen.out] at hJ
          have e3 : (⟨(joinTo xs p k).data.toList.toArray⟩ : ByteArray) = joinTo xs p k := by simp
          rw [e3] at hJ
          replace hJ := hide hJ
          have hb2 : ¬ (4000 : Int) < (k : Int) - 1 + s := by omega
          clear hcells hjo hjs e3 hsm
          go_wp2_with (go_at_call 19; refine hJ.out.mono ?_; rintro e w1 ⟨rfl, hb⟩)
          go_ret2
          exact RetJ.yes HV.out (by rw [hlen.out]) hb
    · have HV := hide (not_sep (xs := xs) h1)
      have hq : ((p.size : Int) != 1) = true := by simp; omega
      go_enter Try.func13, Try.ntmps13
      go_wp2
      go_ret2
      exact RetJ.no HV.out (Below.refl _ _)
end Go.Proofs.Ytlickpalbfhjoaa
