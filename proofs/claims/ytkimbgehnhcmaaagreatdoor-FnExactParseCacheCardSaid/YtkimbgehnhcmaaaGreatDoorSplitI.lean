/- The parts of a text between bytes, by the program's loop; for texts of at most 2^20 bytes. -/
import Derived.Test.YtkimbgehnhcmaaaGreatDoorSplit
namespace Go.Proofs.YtkimbgehnhcmaaaGreatDoor
open Go.RowKit

set_option maxRecDepth 100000 in
set_option maxHeartbeats 800000 in
theorem splitAt_any (s : ByteArray) (c : UInt8) (w : World) (hs : s.size ≤ 1048576) :
    Calls Tryz.prog 16 #[.string s, .int .u8 (c.toNat : Int)] w (RetS w (splitL s c)) := by
  have hc := c.toNat_lt
  go_enter Tryz.func16, Tryz.ntmps16
  go_wp2
  go_loopw [5, 6, 11] (fun o f i wr => ∃ (k F n cc : Nat) (A : Option Addr) (P : List ByteArray), k ≤ s.size ∧ F ≤ k ∧ n ≤ k ∧ i = .int .i64 k ∧ f = .int .i64 F ∧ o = .slice A n cc ∧ Hid (pieces s c k = (P, F)) ∧ Hid (OwnS wr w.heap.size A n cc P) ∧ Hid (Below w.heap.size w wr)) (fun _ _ i _ => s.size - (intOf i).toNat)
  case atStart => exact ⟨0, 0, 0, 0, _, [], Nat.zero_le _, Nat.le_refl _, Nat.le_refl _, rfl, rfl, rfl, rfl, ownS_empty _ _ (Nat.le_refl _) _ rfl, (by repeat (first | exact Below.refl _ _ | (refine below_drewN ?_ _) | (refine Below.drew ?_) | (refine Below.alloc ?_ (by first | exact Nat.le_refl _ | (simp; done) | (simp; omega) | omega) _) | (refine Below.setCell ?_ (by first | exact Nat.le_refl _ | (simp; done) | (simp; omega) | omega) _) | (refine Below.trans ?_ (Below.mono (by assumption) (by first | exact Nat.le_refl _ | (simp; done) | (simp; omega) | omega)))))⟩
  case round =>
    obtain ⟨k, F, n, cc, A, P, hk, hF, hn, rfl, rfl, rfl, HP, HO, HB⟩ := hrel
    by_cases hlt : k < s.size
    · have hb : s[k].toNat < 256 := s[k].toNat_lt
      have hat := hide (byte_at s k hlt)
      by_cases he : s[k] = c
      · have HN : Hid (pieces s c (k + 1) = (P ++ [s.extract F k], k + 1)) := by
          unfold Hid pieces
          rw [if_pos (by rw [hat.out, he]), HP.out]
        have he' : s[k].toNat = c.toNat := by rw [he]
        clear he
        go_wp2_with (at_builtin; refine append_str rfl _ _ rfl w.heap.size A n cc P (s.extract F k) _ rfl rfl HO.out (by omega) HB.out.size ?_; intro A' c' w1 ho' hb' hg'; replace ho' := hide ho'; replace hb' := hide hb'; clear hg')
        go_roundw
        case rel => first | exact ⟨k + 1, k + 1, n + 1, c', A', P ++ [s.extract F k], by omega, by omega, by omega, by go_num, by go_num, rfl, HN, ho', HB.out.trans hb'.out⟩ | ((repeat apply Exists.intro); refine ⟨?_, rfl⟩; exact ⟨k + 1, k + 1, n + 1, c', A', P ++ [s.extract F k], by omega, by omega, by omega, by go_num, by go_num, rfl, HN, ho', HB.out.trans hb'.out⟩)
        case measure => first | (simp [intOf]; done) | (simp [intOf]; omega)
      · have HN : Hid (pieces s c (k + 1) = (P, F)) := by
          unfold Hid pieces
          rw [if_neg (by rw [hat.out]; exact fun h => he (Option.some.inj h)), HP.out]
        have he' : ¬ s[k].toNat = c.toNat := fun h => he (UInt8.toNat_inj.1 h)
        clear he
        go_wp2
        go_roundw
        case rel => first | exact ⟨k + 1, F, n, cc, A, P, by omega, by omega, by omega, by go_num, rfl, rfl, HN, HO, HB⟩ | ((repeat apply Exists.intro); refine ⟨?_, rfl⟩; exact ⟨k + 1, F, n, cc, A, P, by omega, by omega, by omega, by go_num, rfl, rfl, HN, HO, HB⟩)
        case measure => first | (simp [intOf]; done) | (simp [intOf]; omega)
    · obtain rfl : k = s.size := by omega
      go_wp2_with (at_builtin; refine append_str rfl _ _ rfl w.heap.size A n cc P (s.extract F s.size) _ rfl rfl HO.out (by omega) HB.out.size ?_; intro A' c' w1 ho' hb' hg'; replace ho' := hide ho'; replace hb' := hide hb'; clear hg')
      go_ret
      exact RetS.of ho'.out (HB.out.trans hb'.out) (by rw [splitL, HP.out])

end Go.Proofs.YtkimbgehnhcmaaaGreatDoor
