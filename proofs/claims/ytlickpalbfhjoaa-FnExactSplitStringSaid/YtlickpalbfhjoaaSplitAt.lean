/- SplitString by the reference and by the program: both hand back the parts of a text between bytes; for texts of at most 2^20 bytes. -/
import Derived.Test.YtlickpalbfhjoaaSplit
namespace Go.Proofs.Ytlickpalbfhjoaa
open Go.RowKit

set_option maxRecDepth 100000 in
set_option maxHeartbeats 800000 in
theorem splitAt_any (s : ByteArray) (c : UInt8) (w : World) (hs : s.size ≤ 1048576) :
    Calls Try.prog 15 #[.string s, .int .u8 (c.toNat : Int)] w (RetS w (splitL s c)) := by
  have hc := c.toNat_lt
  go_enter Try.func15, Try.ntmps15
  go_wp2
  go_loopw [5, 6, 11] (fun o f i wr => ∃ (k F n cc : Nat) (A : Option Addr) (P : List ByteArray), k ≤ s.size ∧ F ≤ k ∧ n ≤ k ∧ i = .int .i64 k ∧ f = .int .i64 F ∧ o = .slice A n cc ∧ Hid (pieces s c k = (P, F)) ∧ Hid (OwnS wr w.heap.size A n cc P) ∧ Hid (Below w.heap.size w wr)) (fun _ _ i _ => s.size - (intOf i).toNat)
  case atStart => exact ⟨0, 0, 0, 0, _, [], Nat.zero_le _, Nat.le_refl _, Nat.le_refl _, rfl, rfl, rfl, rfl, ownS_empty _ _ (Nat.le_refl _) _ rfl, (by repeat (first | exact Below.refl _ _ | (refine below_drewN ?_ _) | (refine Below.drew ?_) | (refine Below.alloc ?_ (by first | exact Nat.le_refl _ | (simp; done) | (simp; omega) | omega) _) | (refine Below.setCell ?_ (by first | exact Nat.le_refl _ | (simp; done) | (simp; omega) | omega) _) | (refine Below.trans ?_ (Below.mono (by assumption) (by first | exact Nat.le_refl _ | (simp; done) | (simp; omega) | omega)))))⟩
  case round =>
    obtain ⟨k, F, n, cc, A, P, hk, hF, hn, rfl, rfl, rfl, HP, HO, HB⟩ := hrel
    by_cases hlt : k < s.size
    · have hb : s[k].toNat < 256 := s[k].toNat_lt
      have hat := hide (byte_at s k hlt)
      by_cases he : s[k] = c
      · have HN : Hid (pieces s c (k + 1) = (P ++ [s.extract F k], k + 1)) := by
          unfold Hid pieces
          rw [if_pos (by rw [hat.out, he]), HP.out]
        have he' : s[k].toNat = c.toNat := by rw [he]
        clear he
        go_wp2_with (at_builtin; refine append_str rfl _ _ rfl w.heap.size A n cc P (s.extract F k) _ rfl rfl HO.out (by omega) HB.out.size ?_; intro A' c' w1 ho' hb' hg'; replace ho' := hide ho'; replace hb' := hide hb'; clear hg')
        go_roundw
        case rel => first | exact ⟨k + 1, k + 1, n + 1, c', A', P ++ [s.extract F k], by omega, by omega, by omega, by go_num, by go_num, rfl, HN, ho', HB.out.trans hb'.out⟩ | ((repeat apply Exists.intro); refine ⟨?_, rfl⟩; exact ⟨k + 1, k + 1, n + 1, c', A', P ++ [s.extract F k], by omega, by omega, by omega, by go_num, by go_num, rfl, HN, ho', HB.out.trans hb'.out⟩)
        case measure => first | (simp [intOf]; done) | (simp [intOf]; omega)
      · have HN : Hid (pieces s c (k + 1) = (P, F)) := by
          unfold Hid pieces
          rw [if_neg (by rw [hat.out]; exact fun h => he (Option.some.inj h)), HP.out]
        have he' : ¬ s[k].toNat = c.toNat := fun h => he (UInt8.toNat_inj.1 h)
        clear he
        go_wp2
        go_roundw
        case rel => first | exact ⟨k + 1, F, n, cc, A, P, by omega, by omega, by omega, by go_num, rfl, rfl, HN, HO, HB⟩ | ((repeat apply Exists.intro); refine ⟨?_, rfl⟩; exact ⟨k + 1, F, n, cc, A, P, by omega, by omega, by omega, by go_num, rfl, rfl, HN, HO, HB⟩)
        case measure => first | (simp [intOf]; done) | (simp [intOf]; omega)
    · obtain rfl : k = s.size := by omega
      go_wp2_with (at_builtin; refine append_str rfl _ _ rfl w.heap.size A n cc P (s.extract F s.size) _ rfl rfl HO.out (by omega) HB.out.size ?_; intro A' c' w1 ho' hb' hg'; replace ho' := hide ho'; replace hb' := hide hb'; clear hg')
      go_ret
      exact RetS.of ho'.out (HB.out.trans hb'.out) (by rw [splitL, HP.out])

def splitStringV (s sep : ByteArray) : List ByteArray × Bool := if s.size ≤ 4000 ∧ sep.size = 1 then (splitL s (sep.data.toList.getD 0 0), true) else ([], false)
/-- What a function that returns a slice of texts and a bool hands back: a slice of its own. -/
def RetT (w : World) (r : List ByteArray × Bool) (e : Ending) (w' : World) : Prop :=
  ∃ A c, e = .returned (.tuple #[.slice A r.1.length c, .bool r.2]) ∧ OwnS w' w.heap.size A r.1.length c r.1 ∧ Below w.heap.size w w'
theorem RetT.of {w w' : World} {r : List ByteArray × Bool} {A : Option Addr} {n c : Nat} {ys : List ByteArray} {b : Bool} (ho : OwnS w' w.heap.size A n c ys) (hb : Below w.heap.size w w') (h : r = (ys, b)) :
    RetT w r (.returned (.tuple #[.slice A n c, .bool b])) w' := by
  subst h
  have := ho.len
  subst this
  exact ⟨A, c, rfl, ho, hb⟩
theorem splitV_no {s sep : ByteArray} (h : ¬ (s.size ≤ 4000 ∧ sep.size = 1)) : splitStringV s sep = ([], false) := by unfold splitStringV; rw [if_neg h]
theorem splitV_yes {s sep : ByteArray} (h : s.size ≤ 4000) (h1 : sep.size = 1) (h0 : 0 < sep.size) : splitStringV s sep = (splitL s sep[0], true) := by
  unfold splitStringV
  rw [if_pos ⟨h, h1⟩, List.getD_eq_getElem?_getD, byte_at sep 0 h0]
  rfl

set_option maxRecDepth 100000 in
set_option maxHeartbeats 800000 in
theorem spec_SplitString (s sep : ByteArray) (w : World) (hs : s.size ≤ 1048576) : Calls Try.prog 5 #[.string s, .string sep] w (RetT w (splitStringV s sep)) := by
  by_cases h1 : sep.size = 1
  · have h0 : 0 < sep.size := by omega
    by_cases h4 : s.size ≤ 4000
    · have HV := hide (splitV_yes h4 h1 h0)
      have hc := fun w => l1Split_any s sep[0] w hs
      have hb : sep[0].toNat < 256 := sep[0].toNat_lt
      have hlen := hide (splitL_len s sep[0])
      generalize splitL s sep[0] = ys at hc HV hlen
      go_enter Try.func5, Try.ntmps5
      go_wp2_with (go_at_call 14; refine (hc _).mono ?_; rintro e w1 ⟨A, c', rfl, ho, hb1⟩; replace ho := hide ho; replace hb1 := hide hb1)
      go_ret2
      exact RetT.of ho.out hb1.out HV.out
    · have HV := hide (splitV_no (s := s) (sep := sep) (fun h => h4 h.1))
      go_enter Try.func5, Try.ntmps5
      go_wp2
      go_ret2
      exact RetT.of (ownS_empty _ _ (Nat.le_refl _) _ rfl) (by repeat (first | exact Below.refl _ _ | (refine below_drewN ?_ _) | (refine Below.drew ?_) | (refine Below.alloc ?_ (by first | exact Nat.le_refl _ | (simp; done) | (simp; omega) | omega) _) | (refine Below.setCell ?_ (by first | exact Nat.le_refl _ | (simp; done) | (simp; omega) | omega) _) | (refine Below.trans ?_ (Below.mono (by assumption) (by first | exact Nat.le_refl _ | (simp; done) | (simp; omega) | omega))))) HV.out
  · have HV := hide (splitV_no (s := s) (sep := sep) (fun h => h1 h.2))
    go_enter Try.func5, Try.ntmps5
    go_wp2
    go_ret2
    exact RetT.of (ownS_empty _ _ (Nat.le_refl _) _ rfl) (by repeat (first | exact Below.refl _ _ | (refine below_drewN ?_ _) | (refine Below.drew ?_) | (refine Below.alloc ?_ (by first | exact Nat.le_refl _ | (simp; done) | (simp; omega) | omega) _) | (refine Below.setCell ?_ (by first | exact Nat.le_refl _ | (simp; done) | (simp; omega) | omega) _) | (refine Below.trans ?_ (Below.mono (by assumption) (by first | exact Nat.le_refl _ | (simp; done) | (simp; omega) | omega))))) HV.out

set_option maxRecDepth 100000 in
set_option maxHeartbeats 800000 in
theorem impl_SplitString (s sep : ByteArray) (w : World) (hs : s.size ≤ 1048576) : Calls Try.prog 6 #[.string s, .string sep] w (RetT w (splitStringV s sep)) := by
  by_cases h4 : s.size ≤ 4000
  · by_cases h1 : sep.size = 1
    · have h0 : 0 < sep.size := by omega
      have HV := hide (splitV_yes h4 h1 h0)
      have hc := fun w => splitAt_any s sep[0] w hs
      have hb : sep[0].toNat < 256 := sep[0].toNat_lt
      generalize splitL s sep[0] = ys at hc HV
      go_enter Try.func6, Try.ntmps6
      go_wp2_with (go_at_call 15; refine (hc _).mono ?_; rintro e w1 ⟨A, c', rfl, ho, hb1⟩; replace ho := hide ho; replace hb1 := hide hb1)
      go_ret2
      exact RetT.of ho.out hb1.out HV.out
    · have HV := hide (splitV_no (s := s) (sep := sep) (fun h => h1 h.2))
      have hbq : ((sep.size : Int) != 1) = true := by simp; omega
      go_enter Try.func6, Try.ntmps6
      go_wp2
      go_ret2
      exact RetT.of (OwnS.nil _ _) (Below.refl _ _) HV.out
  · have HV := hide (splitV_no (s := s) (sep := sep) (fun h => h4 h.1))
    go_enter Try.func6, Try.ntmps6
    go_wp2
    go_ret2
    exact RetT.of (OwnS.nil _ _) (Below.refl _ _) HV.out
theorem splitV_len (s sep : ByteArray) : (splitStringV s sep).1.length ≤ 4001 := by
  unfold splitStringV
  split
  · rename_i h
    have := splitL_len s (sep.data.toList.getD 0 0)
    simp only
    omega
  · simp
end Go.Proofs.Ytlickpalbfhjoaa
