/- PhasesOf: the reference and the program return the same; for slices of at most 2^20 numbers that can be read. -/
import Derived.Test.YtbceekcfokgmpaaDistF
namespace Go.Proofs.Ytbceekcfokgmpaa
open Go.RowKit
/-- How many different numbers stand from a phase's start up to a place. -/
def phN (xs : List Int) (st k : Nat) : Nat := (riseL ((xs.drop st).take (k + 1 - st))).length
/-- The starts of the phases, and the last one. -/
def ph (xs : List Int) (z : Int) : Nat → List Int × Nat
  | 0 => ([], 0)
  | k + 1 => if k = 0 ∨ z < (phN xs (ph xs z k).2 k : Int) then ((ph xs z k).1 ++ [(k : Int)], k) else ph xs z k
theorem ph_new (xs : List Int) (z : Int) (k : Nat) (h : k = 0 ∨ z < (phN xs (ph xs z k).2 k : Int)) : ph xs z (k + 1) = ((ph xs z k).1 ++ [(k : Int)], k) := by rw [ph, if_pos h]
theorem ph_same (xs : List Int) (z : Int) (k : Nat) (h : ¬ (k = 0 ∨ z < (phN xs (ph xs z k).2 k : Int))) : ph xs z (k + 1) = ph xs z k := by rw [ph, if_neg h]
theorem ph_facts (xs : List Int) (z : Int) (k : Nat) : (ph xs z k).1.length ≤ k ∧ (ph xs z k).2 ≤ k ∧ (0 < k → (ph xs z k).2 < k ∧ 0 < (ph xs z k).1.length ∧ (ph xs z k).1.getD ((ph xs z k).1.length - 1) 0 = ((ph xs z k).2 : Int)) := by
  induction k with
  | zero => exact ⟨Nat.le_refl _, Nat.le_refl _, fun h => absurd h (by omega)⟩
  | succ k ih =>
    obtain ⟨h1, h2, h3⟩ := ih
    by_cases h : k = 0 ∨ z < (phN xs (ph xs z k).2 k : Int)
    · rw [ph_new xs z k h]
      refine ⟨by simp; omega, by simp, fun _ => ⟨by simp, by simp, ?_⟩⟩
      simp [List.getD_eq_getElem?_getD]
    · rw [ph_same xs z k h]
      have hk : 0 < k := by omega
      obtain ⟨a, b, c⟩ := h3 hk
      exact ⟨by omega, by omega, fun _ => ⟨by omega, b, c⟩⟩
def phOk (q z : Int) (xs : List Int) : Bool := decide (1 ≤ z ∧ z ≤ 6) && reqB q xs
def phasesOfV (q z : Int) (xs : List Int) : List Int × Bool := if phOk q z xs = true then ((ph xs z xs.length).1, true) else ([], false)
theorem phasesOfV_len (q z : Int) (xs : List Int) (h : xs.length ≤ 1048576) : (phasesOfV q z xs).1.length ≤ 1048576 := by
  unfold phasesOfV
  split
  · have := (ph_facts xs z xs.length).1
    show (ph xs z xs.length).1.length ≤ 1048576
    omega
  · simp
theorem phN_le (xs : List Int) (st k : Nat) : phN xs st k ≤ k + 1 := by
  unfold phN
  have h1 := rise_len ((xs.drop st).take (k + 1 - st))
  have h2 : ((xs.drop st).take (k + 1 - st)).length ≤ k + 1 - st := List.length_take_le _ _
  omega
theorem take_grow (xs : List Int) (st k : Nat) (h : st ≤ k) (hk : k < xs.length) : (xs.drop st).take (k + 1 - st) = (xs.drop st).take (k - st) ++ [xs.getD k 0] := by
  have e : k + 1 - st = (k - st) + 1 := by omega
  rw [e, take_snocI (xs.drop st) (k - st) (by simp; omega)]
  congr 2
  simp only [List.getD_eq_getElem?_getD, List.getElem?_drop]
  congr 2
  omega

theorem sep_gen2 {w w' : World} {base : Nat} {A A' : Option Addr} (h : ∀ a, A = some a → base ≤ a.block ∧ a.block < w.heap.size) (h' : ∀ a, A' = some a → w.heap.size ≤ a.block ∧ a.block < w'.heap.size) : Sep A A' := fun a a' e e' he => by
  have := (h a e).2
  have := (h' a' e').1
  omega
set_option maxHeartbeats 3200000 in
theorem l4Phases_any (A : Option Addr) (n c : Nat) (xs : List Int) (z : Int) (w : World) (hr : RdI w A n xs) (hn : n ≤ 60) (_ : 1 ≤ z) (_ : z ≤ 6) :
    Calls Try.prog 50 #[.int .i64 z, .slice A n c] w (RetO w (ph xs z n).1) := by
  have hlen := hide hr.1
  have HR := hide hr
  clear hr
  go_enter Try.func50, Try.ntmps50
  go_wp2_with fail
  have HO0 : Hid (OwnI ((w.alloc (.cells #[] 3)).alloc (.cells #[] 3)) w.heap.size (some ⟨w.heap.size, 0, none⟩) 0 0 (ph xs z 0).1) := OwnI.below (own_empty w w.heap.size (Nat.le_refl _) #[] rfl) ((Below.refl _ _).alloc (Nat.le_refl _) _)
  have HP0 : Hid (OwnI ((w.alloc (.cells #[] 3)).alloc (.cells #[] 3)) w.heap.size (some ⟨w.heap.size + 1, 0, none⟩) 0 0 (riseL ((xs.drop (ph xs z 0).2).take (0 - (ph xs z 0).2)))) := by
    have := own_empty (w.alloc (.cells #[] 3)) w.heap.size (by simp) #[] rfl
    rw [World.size_alloc] at this
    exact this
  go_loopw [5, 6, 7, 8] (fun u s i _ wr => ∃ (k m : Nat) (A' : Option Addr) (c' : Nat) (mp : Nat) (Ap : Option Addr) (cp : Nat), k ≤ n ∧ i = .int .i64 k ∧ u = .slice A' m c' ∧ s = .slice Ap mp cp ∧ Hid (OwnI wr w.heap.size A' m c' (ph xs z k).1) ∧ Hid (OwnI wr w.heap.size Ap mp cp (riseL ((xs.drop (ph xs z k).2).take (k - (ph xs z k).2)))) ∧ Hid (Sep A' Ap) ∧ Hid (Below w.heap.size w wr)) (fun _ _ i _ _ => n - (intOf i).toNat)
  case atStart => exact ⟨0, 0, _, _, 0, _, _, Nat.zero_le _, rfl, rfl, rfl, HO0, HP0, fun a a' e e' he => by
    injection e with e
    injection e' with e'
    subst e e'
    simp at he, (by repeat (first | exact Below.refl _ _ | (refine below_drewN ?_ _) | (refine Below.drew ?_) | (refine Below.alloc ?_ (by first | exact Nat.le_refl _ | (simp; done) | (simp; omega) | omega) _) | (refine Below.setCell ?_ (by first | exact Nat.le_refl _ | (simp; done) | (simp; omega) | omega) _) | (refine Below.trans ?_ (Below.mono (by assumption) (by first | exact Nat.le_refl _ | (simp; done) | (simp; omega) | omega)))))⟩
  case round =>
    obtain ⟨k, m, A', c', mp, Ap, cp, hk, rfl, rfl, rfl, HO, HP, HS, HB⟩ := hrel
    by_cases hlt : k < n
    · have hlt' : (k : Int) < (n : Int) := by omega
      obtain ⟨b, off, rfl, hbb, hc0⟩ := (HR.out).at_ hlt
      obtain ⟨v, hv⟩ : ∃ v, Hid (xs.getD k 0 = v) := ⟨_, rfl⟩
      rw [hv.out] at hc0
      have hc : wr.cell? ⟨b, off + k, none⟩ = some (.int .i64 v) := (HB.out.cell (p := ⟨b, off + k, none⟩) hbb).trans hc0
      replace hc0 := hide hc0
      obtain ⟨f1, f2, f3⟩ := ph_facts xs z k
      have hml : m ≤ k := by have := HO.out.len; omega
      obtain ⟨st, hst⟩ : ∃ st, Hid ((ph xs z k).2 = st) := ⟨_, rfl⟩
      rw [hst.out] at HP f2
      have hmp : mp ≤ 1000 := by
        have h1 := HP.out.len
        have h2 := rise_len ((xs.drop st).take (k - st))
        have h3 : ((xs.drop st).take (k - st)).length ≤ k - st := List.length_take_le _ _
        omega
      have HT : Hid (putL (riseL ((xs.drop st).take (k - st))) v = riseL ((xs.drop st).take (k + 1 - st))) := by
        unfold Hid
        rw [take_grow xs st k f2 (by rw [hlen.out]; exact hlt), rise_snoc, hv.out]
      have hN := phN_le xs st k
      replace f3 := hide f3
      obtain ⟨N, hNN⟩ : ∃ N, Hid (phN xs st k = N) := ⟨_, rfl⟩
      rw [hNN.out] at hN
      go_wp2_with fail
      refine (l1Put_lies _ _ _ w.heap.size (riseL ((xs.drop st).take (k - st))) v _ HP.out HB.out.size (by omega)).mono ?_
      rintro e w1 ⟨A2, m2, c2, rfl, ho2, hb2, hl2⟩
      rw [HT.out] at ho2 hl2
      have hm2 : m2 = N := by
        have := ho2.len
        rw [← hNN.out, ← this]
        rfl
      subst hm2
      have HO1 := hide (HO.out.below hb2)
      have HP1 := hide ho2
      have HB1 := hide (HB.out.trans (hb2.mono HB.out.size))
      have HS1 : Hid (Sep A' A2) := by
        rcases hl2 with h | h
        · subst h; exact HS.out
        · exact sep_gen2 HO.out.lt h.lt
      clear ho2 hb2 hl2
      by_cases h0 : k = 0
      · have HE : Hid (ph xs z (k + 1) = ((ph xs z k).1 ++ [(k : Int)], k)) := ph_new xs z k (.inl h0)
        have hd : ((k : Int) == 0) = true := by simpa using h0
        clear h0
        go_wp2_with (at_builtin; refine append_int rfl _ _ rfl w.heap.size A' m c' (ph xs z k).1 _ _ rfl rfl HO1.out (by omega) HB1.out.size ?_; intro A3 c3 w3 ho3 hb3 hg3; have hc3 : w3.cell? ⟨b, off + k, none⟩ = some (.int .i64 v) := (Below.cell (p := ⟨b, off + k, none⟩) (HB1.out.trans hb3) hbb).trans hc0.out; replace ho3 := hide ho3; replace hb3 := hide hb3; clear hg3)
        have HO3 : Hid (OwnI (w3.alloc (.cells #[.int .i64 v] 3)) w.heap.size A3 (m + 1) c3 (ph xs z (k + 1)).1) := by
          rw [HE.out]
          exact OwnI.below ho3.out ((Below.refl _ _).alloc (Nat.le_refl _) _)
        have HB3 := hide (HB1.out.trans hb3.out)
        have HP3 : Hid (OwnI (w3.alloc (.cells #[.int .i64 v] 3)) w.heap.size (some ⟨w3.heap.size, 0, none⟩) 1 1 (riseL ((xs.drop (ph xs z (k + 1)).2).take (k + 1 - (ph xs z (k + 1)).2)))) := by
          rw [HE.out, take_grow xs k k (Nat.le_refl _) (by rw [hlen.out]; exact hlt), hv.out, Nat.sub_self]
          have := World.ownsRow_lit w3 (e := 3) (size := 1) (base := w.heap.size) #[.int .i64 v] 1 HB3.out.size (by unfold maxLen; omega) rfl
          exact this
        have HS3 : Hid (Sep A3 (some ⟨w3.heap.size, 0, none⟩)) := fun a a' e e' he => by
          injection e' with e'
          subst e'
          have := (ho3.out.lt a e).2
          simp at he
          omega
        go_wp2_with fail
        go_roundw
        case rel => first | exact ⟨k + 1, m + 1, A3, c3, 1, _, 1, by omega, by go_num, rfl, rfl, HO3, HP3, HS3, HB3.out.alloc HB3.out.size _⟩ | ((repeat apply Exists.intro); refine ⟨?_, rfl⟩; exact ⟨k + 1, m + 1, A3, c3, 1, _, 1, by omega, by go_num, rfl, rfl, HO3, HP3, HS3, HB3.out.alloc HB3.out.size _⟩)
        case measure => first | (simp [intOf]; done) | (simp [intOf]; omega)
      · have hd : ((k : Int) == 0) = false := by simpa using h0
        by_cases h1 : z < (m2 : Int)
        · have HE : Hid (ph xs z (k + 1) = ((ph xs z k).1 ++ [(k : Int)], k)) := ph_new xs z k (.inr (by rw [hst.out, hNN.out]; exact h1))
          clear h0
          go_wp2_with (at_builtin; refine append_int rfl _ _ rfl w.heap.size A' m c' (ph xs z k).1 _ _ rfl rfl HO1.out (by omega) HB1.out.size ?_; intro A3 c3 w3 ho3 hb3 hg3; have hc3 : w3.cell? ⟨b, off + k, none⟩ = some (.int .i64 v) := (Below.cell (p := ⟨b, off + k, none⟩) (HB1.out.trans hb3) hbb).trans hc0.out; replace ho3 := hide ho3; replace hb3 := hide hb3; clear hg3)
          have HO3 : Hid (OwnI (w3.alloc (.cells #[.int .i64 v] 3)) w.heap.size A3 (m + 1) c3 (ph xs z (k + 1)).1) := by
            rw [HE.out]
            exact OwnI.below ho3.out ((Below.refl _ _).alloc (Nat.le_refl _) _)
          have HB3 := hide (HB1.out.trans hb3.out)
          have HP3 : Hid (OwnI (w3.alloc (.cells #[.int .i64 v] 3)) w.heap.size (some ⟨w3.heap.size, 0, none⟩) 1 1 (riseL ((xs.drop (ph xs z (k + 1)).2).take (k + 1 - (ph xs z (k + 1)).2)))) := by
            rw [HE.out, take_grow xs k k (Nat.le_refl _) (by rw [hlen.out]; exact hlt), hv.out, Nat.sub_self]
            have := World.ownsRow_lit w3 (e := 3) (size := 1) (base := w.heap.size) #[.int .i64 v] 1 HB3.out.size (by unfold maxLen; omega) rfl
            exact this
          have HS3 : Hid (Sep A3 (some ⟨w3.heap.size, 0, none⟩)) := fun a a' e e' he => by
            injection e' with e'
            subst e'
            have := (ho3.out.lt a e).2
            simp at he
            omega
          go_wp2_with fail
          go_roundw
          case rel => first | exact ⟨k + 1, m + 1, A3, c3, 1, _, 1, by omega, by go_num, rfl, rfl, HO3, HP3, HS3, HB3.out.alloc HB3.out.size _⟩ | ((repeat apply Exists.intro); refine ⟨?_, rfl⟩; exact ⟨k + 1, m + 1, A3, c3, 1, _, 1, by omega, by go_num, rfl, rfl, HO3, HP3, HS3, HB3.out.alloc HB3.out.size _⟩)
          case measure => first | (simp [intOf]; done) | (simp [intOf]; omega)
        · have HE : Hid (ph xs z (k + 1) = ph xs z k) := ph_same xs z k (by rw [hst.out, hNN.out]; rintro (h | h); exact h0 h; exact h1 h)
          have HP2 : Hid (OwnI w1 w.heap.size A2 m2 c2 (riseL ((xs.drop (ph xs z (k + 1)).2).take (k + 1 - (ph xs z (k + 1)).2)))) := by rw [HE.out, hst.out]; exact HP1
          have HO2 : Hid (OwnI w1 w.heap.size A' m c' (ph xs z (k + 1)).1) := by rw [HE.out]; exact HO1
          clear h0
          go_wp2
          go_roundw
          case rel => first | exact ⟨k + 1, m, A', c', m2, A2, c2, by omega, by go_num, rfl, rfl, HO2, HP2, HS1, HB1⟩ | ((repeat apply Exists.intro); refine ⟨?_, rfl⟩; exact ⟨k + 1, m, A', c', m2, A2, c2, by omega, by go_num, rfl, rfl, HO2, HP2, HS1, HB1⟩)
          case measure => first | (simp [intOf]; done) | (simp [intOf]; omega)
    · have hkn : k = n := by omega
      subst hkn
      go_wp2
      go_ret
      exact RetO.of HO.out HB.out rfl

set_option maxHeartbeats 3200000 in
theorem phasesOf_any (A : Option Addr) (n c : Nat) (xs : List Int) (z : Int) (w : World) (hr : RdI w A n xs) (hn : n ≤ 60) (hroom : n ≤ c) (_ : 1 ≤ z) (_ : z ≤ 6) :
    Calls Try.prog 52 #[.int .i64 z, .slice A n c] w (RetO w (ph xs z n).1) := by
  have hlen := hide hr.1
  have HR := hide hr
  clear hr
  go_enter Try.func52, Try.ntmps52
  go_wp2_with fail
  go_loopw [5, 6, 10] (fun u _ i wr => ∃ (k m : Nat) (A' : Option Addr) (c' : Nat), k ≤ n ∧ i = .int .i64 k ∧ u = .slice A' m c' ∧ Hid (OwnI wr w.heap.size A' m c' (ph xs z k).1) ∧ Hid (Below w.heap.size w wr)) (fun _ _ i _ => n - (intOf i).toNat)
  case atStart => exact ⟨0, 0, _, _, Nat.zero_le _, rfl, rfl, own_empty _ _ (Nat.le_refl _) _ rfl, (by repeat (first | exact Below.refl _ _ | (refine below_drewN ?_ _) | (refine Below.drew ?_) | (refine Below.alloc ?_ (by first | exact Nat.le_refl _ | (simp; done) | (simp; omega) | omega) _) | (refine Below.setCell ?_ (by first | exact Nat.le_refl _ | (simp; done) | (simp; omega) | omega) _) | (refine Below.trans ?_ (Below.mono (by assumption) (by first | exact Nat.le_refl _ | (simp; done) | (simp; omega) | omega)))))⟩
  case round =>
    obtain ⟨k, m, A', c', hk, rfl, rfl, HO, HB⟩ := hrel
    by_cases hlt : k < n
    · have hlt' : (k : Int) < (n : Int) := by omega
      obtain ⟨f1, f2, f3⟩ := ph_facts xs z k
      have hml := HO.out.len
      by_cases h0 : k = 0
      · have HE : Hid (ph xs z (k + 1) = ((ph xs z k).1 ++ [(k : Int)], k)) := ph_new xs z k (.inl h0)
        have hm0 : m = 0 := by omega
        replace hml := hide hml
        replace f3 := hide f3
        clear h0 f1 f2
        subst hm0
        go_wp2_with (at_builtin; refine append_int rfl _ _ rfl w.heap.size A' 0 c' (ph xs z k).1 _ _ rfl rfl HO.out (by omega) HB.out.size ?_; intro A3 c3 w3 ho3 hb3 hg3; replace ho3 := hide ho3; replace hb3 := hide hb3; clear hg3)
        go_roundw
        case rel => first | exact ⟨k + 1, 0 + 1, A3, c3, by omega, by go_num, rfl, by have := ho3.out; rw [HE.out]; exact this, HB.out.trans hb3.out⟩ | ((repeat apply Exists.intro); refine ⟨?_, rfl⟩; exact ⟨k + 1, 0 + 1, A3, c3, by omega, by go_num, rfl, by have := ho3.out; rw [HE.out]; exact this, HB.out.trans hb3.out⟩)
        case measure => first | (simp [intOf]; done) | (simp [intOf]; omega)
      · obtain ⟨g1, g2, g3⟩ := f3 (by omega)
        rw [hml] at g2 g3
        obtain ⟨p, rfl⟩ : ∃ p, m = p + 1 := ⟨m - 1, by omega⟩
        rw [Nat.add_sub_cancel] at g3
        obtain ⟨b0, off0, rfl, _, hc⟩ := HO.out.rd.at_ (show p < p + 1 by omega)
        rw [g3] at hc
        obtain ⟨b, off, rfl, _, _⟩ := (HR.out).at_ hlt
        obtain ⟨st, hst⟩ : ∃ st, Hid ((ph xs z k).2 = st) := ⟨_, rfl⟩
        rw [hst.out] at g1 hc
        have hN := phN_le xs st k
        obtain ⟨N, hNN⟩ : ∃ N, Hid (phN xs st k = N) := ⟨_, rfl⟩
        rw [hNN.out] at hN
        have HSB := hide ((HR.out.below HB.out).sub st (k + 1) (by omega) (by omega))
        have HL : Hid ((riseL ((xs.drop st).take (k + 1 - st))).length = N) := hNN
        have hd : ((p : Int) + 1 == 0) = false := by first | (simp; done) | (simp; omega)
        have hidx : ((p + 1 : Nat) : Int) - 1 = (p : Int) := by omega
        have e1 : ¬ c = st := by omega
        have e2 : st ≤ k + 1 := by omega
        have e3 : (st : Int) ≤ (k : Int) + 1 := by omega
        have e4 : k + 1 ≤ c := by omega
        have e5 : (k : Int) + 1 ≤ (c : Int) := by omega
        have e8 : k + 1 - st ≤ 1048575 := by omega
        have hp0 : (0 : Int) ≤ (p : Int) := by omega
        have hpk : p ≤ 60 := by omega
        replace hml := hide hml
        replace f3 := hide f3
        replace g3 := hide g3
        by_cases h1 : z < (N : Int)
        · have HE : Hid (ph xs z (k + 1) = ((ph xs z k).1 ++ [(k : Int)], k)) := ph_new xs z k (.inr (by rw [hst.out, hNN.out]; exact h1))
          clear h0 f1 f2
          go_wp2_with (first
            | (go_at_call 48; refine (rising_any _ _ _ _ _ HSB.out e8).mono ?_; rintro e w2 ⟨A1, c1, rfl, ho1, hb1⟩; rw [HL.out]; have HOw := hide (HO.out.below hb1); have HBw := hide (HB.out.trans (hb1.mono HB.out.size)); clear ho1 hb1)
            | (at_builtin; refine append_int rfl _ _ rfl w.heap.size _ (p + 1) c' (ph xs z k).1 _ _ rfl rfl HOw.out (by omega) HBw.out.size ?_; intro A3 c3 w3 ho3 hb3 hg3; replace ho3 := hide ho3; replace hb3 := hide hb3; clear hg3))
          go_roundw
          case rel => first | exact ⟨k + 1, p + 1 + 1, A3, c3, by omega, by go_num, rfl, by have := ho3.out; rw [HE.out]; exact this, HBw.out.trans hb3.out⟩ | ((repeat apply Exists.intro); refine ⟨?_, rfl⟩; exact ⟨k + 1, p + 1 + 1, A3, c3, by omega, by go_num, rfl, by have := ho3.out; rw [HE.out]; exact this, HBw.out.trans hb3.out⟩)
          case measure => first | (simp [intOf]; done) | (simp [intOf]; omega)
        · have HE : Hid (ph xs z (k + 1) = ph xs z k) := ph_same xs z k (by rw [hst.out, hNN.out]; rintro (h | h); exact h0 h; exact h1 h)
          clear h0 f1 f2
          go_wp2_with (go_at_call 48; refine (rising_any _ _ _ _ _ HSB.out e8).mono ?_; rintro e w2 ⟨A1, c1, rfl, ho1, hb1⟩; rw [HL.out]; have HOw := hide (HO.out.below hb1); have HBw := hide (HB.out.trans (hb1.mono HB.out.size)); clear ho1 hb1)
          go_roundw
          case rel => first | exact ⟨k + 1, p + 1, _, c', by omega, by go_num, rfl, by rw [HE.out]; exact HOw, HBw⟩ | ((repeat apply Exists.intro); refine ⟨?_, rfl⟩; exact ⟨k + 1, p + 1, _, c', by omega, by go_num, rfl, by rw [HE.out]; exact HOw, HBw⟩)
          case measure => first | (simp [intOf]; done) | (simp [intOf]; omega)
    · have hkn : k = n := by omega
      subst hkn
      go_wp2
      go_ret
      exact RetO.of HO.out HB.out rfl

set_option maxHeartbeats 1600000 in
theorem spec_PhasesOf (q z : Int) (A : Option Addr) (n c : Nat) (xs : List Int) (w : World) (_ : -9223372036854775808 ≤ q) (_ : q ≤ 9223372036854775807) (_ : -9223372036854775808 ≤ z) (_ : z ≤ 9223372036854775807) (hr : RdI w A n xs) (hn : n ≤ 1048576) (_ : ∀ x ∈ xs, -9223372036854775808 ≤ x ∧ x ≤ 9223372036854775807) (_ : n ≤ c) :
    Calls Try.prog 21 #[.int .i64 q, .int .i64 z, .slice A n c] w (RetI w (phasesOfV q z xs)) := by
  have HR := hide hr
  by_cases c1 : 1 ≤ z ∧ z ≤ 6
  · obtain ⟨c11, c12⟩ := c1
    cases hg : reqB q xs
    · have HV := hide (show phasesOfV q z xs = ([], false) by unfold phasesOfV phOk; rw [hg]; simp)
      replace hg := hide hg
      clear hr
      go_enter Try.func21, Try.ntmps21
      go_wp2_with (first | (go_at_call 44; refine (l1In_yes _ _ _ _ (by omega) (by omega)).mono ?_; rintro e w' ⟨rfl, rfl⟩) | (go_at_call 44; refine (l1In_no _ _ _ _ (by omega)).mono ?_; rintro e w' ⟨rfl, rfl⟩) | (go_at_call 40; refine (l3Good_any _ _ _ xs _ _ HR.out hn).mono ?_; rintro e w1 ⟨rfl, rfl⟩; rw [hg.out]) | go_in)
      go_ret2
      exact RetI.of (own_empty _ _ (Nat.le_refl _) _ rfl) (by repeat (first | exact Below.refl _ _ | (refine below_drewN ?_ _) | (refine Below.drew ?_) | (refine Below.alloc ?_ (by first | exact Nat.le_refl _ | (simp; done) | (simp; omega) | omega) _) | (refine Below.setCell ?_ (by first | exact Nat.le_refl _ | (simp; done) | (simp; omega) | omega) _) | (refine Below.trans ?_ (Below.mono (by assumption) (by first | exact Nat.le_refl _ | (simp; done) | (simp; omega) | omega))))) HV.out
    · obtain ⟨q1, q2, q3, q4⟩ := reqB_parts hg
      have hl := hr.1
      have HV := hide (show phasesOfV q z xs = ((ph xs z n).1, true) by unfold phasesOfV phOk; rw [hg, hl]; simp [c11, c12])
      replace hg := hide hg
      have hn3 : n ≤ 60 := by omega
      replace hl := hide hl
      clear hr q4 q3
      go_enter Try.func21, Try.ntmps21
      go_wp2_with (first | (go_at_call 44; refine (l1In_yes _ _ _ _ (by omega) (by omega)).mono ?_; rintro e w' ⟨rfl, rfl⟩) | (go_at_call 44; refine (l1In_no _ _ _ _ (by omega)).mono ?_; rintro e w' ⟨rfl, rfl⟩) | (go_at_call 40; refine (l3Good_any _ _ _ xs _ _ HR.out hn).mono ?_; rintro e w1 ⟨rfl, rfl⟩; rw [hg.out]) | (go_at_call 50; refine (l4Phases_any _ _ _ xs _ _ HR.out hn3 c11 c12).mono ?_; rintro e w3 ⟨A3, c3, rfl, ho, hb⟩) | go_in)
      go_ret2
      exact RetI.of ho hb HV.out
  · have HV := hide (show phasesOfV q z xs = ([], false) by unfold phasesOfV phOk; simp; omega)
    clear hr
    go_enter Try.func21, Try.ntmps21
    go_wp2_with (first | (go_at_call 44; refine (l1In_yes _ _ _ _ (by omega) (by omega)).mono ?_; rintro e w' ⟨rfl, rfl⟩) | (go_at_call 44; refine (l1In_no _ _ _ _ (by omega)).mono ?_; rintro e w' ⟨rfl, rfl⟩) | go_in)
    go_ret2
    exact RetI.of (own_empty _ _ (Nat.le_refl _) _ rfl) (by repeat (first | exact Below.refl _ _ | (refine below_drewN ?_ _) | (refine Below.drew ?_) | (refine Below.alloc ?_ (by first | exact Nat.le_refl _ | (simp; done) | (simp; omega) | omega) _) | (refine Below.setCell ?_ (by first | exact Nat.le_refl _ | (simp; done) | (simp; omega) | omega) _) | (refine Below.trans ?_ (Below.mono (by assumption) (by first | exact Nat.le_refl _ | (simp; done) | (simp; omega) | omega))))) HV.out

set_option maxHeartbeats 1600000 in
theorem impl_PhasesOf (q z : Int) (A : Option Addr) (n c : Nat) (xs : List Int) (w : World) (_ : -9223372036854775808 ≤ q) (_ : q ≤ 9223372036854775807) (_ : -9223372036854775808 ≤ z) (_ : z ≤ 9223372036854775807) (hr : RdI w A n xs) (hn : n ≤ 1048576) (_ : ∀ x ∈ xs, -9223372036854775808 ≤ x ∧ x ≤ 9223372036854775807) (hroom : n ≤ c) :
    Calls Try.prog 22 #[.int .i64 q, .int .i64 z, .slice A n c] w (RetI w (phasesOfV q z xs)) := by
  have HR := hide hr
  by_cases c1 : 1 ≤ z ∧ z ≤ 6
  · obtain ⟨c11, c12⟩ := c1
    cases hg : reqB q xs
    · have HV := hide (show phasesOfV q z xs = ([], false) by unfold phasesOfV phOk; rw [hg]; simp)
      replace hg := hide hg
      clear hr
      go_enter Try.func22, Try.ntmps22
      go_wp2_with (first | (go_at_call 47; refine (within_yes _ _ _ _ (by omega) (by omega)).mono ?_; rintro e w' ⟨rfl, rfl⟩) | (go_at_call 47; refine (within_no _ _ _ _ (by omega)).mono ?_; rintro e w' ⟨rfl, rfl⟩) | (go_at_call 42; refine (isRequests_any _ _ _ xs _ _ HR.out hn).mono ?_; rintro e wa ⟨rfl, hba⟩; rw [hg.out]; have HRa := hide (HR.out.below hba); have HBA := hide hba; clear hba) | go_in)
      go_ret2
      exact RetI.of (OwnI.nil _ _) HBA.out HV.out
    · obtain ⟨q1, q2, q3, q4⟩ := reqB_parts hg
      have hl := hr.1
      have HV := hide (show phasesOfV q z xs = ((ph xs z n).1, true) by unfold phasesOfV phOk; rw [hg, hl]; simp [c11, c12])
      replace hg := hide hg
      have hn3 : n ≤ 60 := by omega
      replace hl := hide hl
      clear hr q4 q3
      go_enter Try.func22, Try.ntmps22
      go_wp2_with (first | (go_at_call 47; refine (within_yes _ _ _ _ (by omega) (by omega)).mono ?_; rintro e w' ⟨rfl, rfl⟩) | (go_at_call 47; refine (within_no _ _ _ _ (by omega)).mono ?_; rintro e w' ⟨rfl, rfl⟩) | (go_at_call 42; refine (isRequests_any _ _ _ xs _ _ HR.out hn).mono ?_; rintro e wa ⟨rfl, hba⟩; rw [hg.out]; have HRa := hide (HR.out.below hba); have HBA := hide hba; clear hba) | (go_at_call 52; refine (phasesOf_any _ _ _ xs _ _ HRa.out hn3 hroom c11 c12).mono ?_; rintro e w3 ⟨A3, c3, rfl, ho, hb⟩) | go_in)
      go_ret2
      exact RetI.of (ho.more HBA.out.size) (HBA.out.trans (hb.mono HBA.out.size)) HV.out
  · have HV := hide (show phasesOfV q z xs = ([], false) by unfold phasesOfV phOk; simp; omega)
    clear hr
    go_enter Try.func22, Try.ntmps22
    go_wp2_with (first | (go_at_call 47; refine (within_yes _ _ _ _ (by omega) (by omega)).mono ?_; rintro e w' ⟨rfl, rfl⟩) | (go_at_call 47; refine (within_no _ _ _ _ (by omega)).mono ?_; rintro e w' ⟨rfl, rfl⟩) | go_in)
    go_ret2
    exact RetI.of (OwnI.nil _ _) (Below.refl _ _) HV.out
end Go.Proofs.Ytbceekcfokgmpaa
