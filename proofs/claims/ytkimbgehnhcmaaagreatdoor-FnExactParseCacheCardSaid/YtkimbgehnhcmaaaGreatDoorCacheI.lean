/- Whether a cache's marks are right, by the program (areMarks), and its small tests; for lists of at most 2^20 numbers. -/
import Derived.Test.YtkimbgehnhcmaaaGreatDoorCacheS
import Derived.Test.YtkimbgehnhcmaaaGreatDoorReqs
namespace Go.Proofs.YtkimbgehnhcmaaaGreatDoor
open Go.RowKit Go.Shelf

theorem isItems_yes (n : Int) (w : World) (h1 : 1 ≤ n) (h2 : n ≤ 8) : Calls Tryz.prog 41 #[.int .i64 n] w fun e w' => e = .returned (.bool true) ∧ w = w' := by
  go_enter Tryz.func41, Tryz.ntmps41
  go_wp2_with (first | (go_at_call 48; refine (within_yes _ _ _ _ (by omega) (by omega)).mono ?_; rintro e w' ⟨rfl, rfl⟩) | (go_at_call 48; refine (within_no _ _ _ _ (by omega)).mono ?_; rintro e w' ⟨rfl, rfl⟩))
  go_ret
  exact ⟨rfl, rfl⟩
theorem isItems_no (n : Int) (w : World) (h : ¬ (1 ≤ n ∧ n ≤ 8)) : Calls Tryz.prog 41 #[.int .i64 n] w fun e w' => e = .returned (.bool false) ∧ w = w' := by
  have h1 := within_no n 1 8 w h
  go_enter Tryz.func41, Tryz.ntmps41
  go_wp2_with (go_at_call 48; refine h1.mono ?_; rintro e w1 ⟨rfl, rfl⟩)
  go_ret
  exact ⟨rfl, rfl⟩
theorem isPolicy_yes (n : Int) (w : World) (h1 : 1 ≤ n) (h2 : n ≤ 7) : Calls Tryz.prog 42 #[.int .i64 n] w fun e w' => e = .returned (.bool true) ∧ w = w' := by
  go_enter Tryz.func42, Tryz.ntmps42
  go_wp2_with (first | (go_at_call 48; refine (within_yes _ _ _ _ (by omega) (by omega)).mono ?_; rintro e w' ⟨rfl, rfl⟩) | (go_at_call 48; refine (within_no _ _ _ _ (by omega)).mono ?_; rintro e w' ⟨rfl, rfl⟩))
  go_ret
  exact ⟨rfl, rfl⟩
theorem isPolicy_no (n : Int) (w : World) (h : ¬ (1 ≤ n ∧ n ≤ 7)) : Calls Tryz.prog 42 #[.int .i64 n] w fun e w' => e = .returned (.bool false) ∧ w = w' := by
  have h1 := within_no n 1 7 w h
  go_enter Tryz.func42, Tryz.ntmps42
  go_wp2_with (go_at_call 48; refine h1.mono ?_; rintro e w1 ⟨rfl, rfl⟩)
  go_ret
  exact ⟨rfl, rfl⟩
theorem isSize_yes (n : Int) (w : World) (h1 : 1 ≤ n) (h2 : n ≤ 6) : Calls Tryz.prog 43 #[.int .i64 n] w fun e w' => e = .returned (.bool true) ∧ w = w' := by
  go_enter Tryz.func43, Tryz.ntmps43
  go_wp2_with (first | (go_at_call 48; refine (within_yes _ _ _ _ (by omega) (by omega)).mono ?_; rintro e w' ⟨rfl, rfl⟩) | (go_at_call 48; refine (within_no _ _ _ _ (by omega)).mono ?_; rintro e w' ⟨rfl, rfl⟩))
  go_ret
  exact ⟨rfl, rfl⟩
theorem isSize_no (n : Int) (w : World) (h : ¬ (1 ≤ n ∧ n ≤ 6)) : Calls Tryz.prog 43 #[.int .i64 n] w fun e w' => e = .returned (.bool false) ∧ w = w' := by
  have h1 := within_no n 1 6 w h
  go_enter Tryz.func43, Tryz.ntmps43
  go_wp2_with (go_at_call 48; refine h1.mono ?_; rintro e w1 ⟨rfl, rfl⟩)
  go_ret
  exact ⟨rfl, rfl⟩
theorem isMarked_five (w : World) : Calls Tryz.prog 20 #[.int .i64 5] w fun e w' => e = .returned (.bool true) ∧ w = w' := by
  go_enter Tryz.func20, Tryz.ntmps20
  go_wp2
  go_ret
  exact ⟨rfl, rfl⟩
theorem isMarked_six (w : World) : Calls Tryz.prog 20 #[.int .i64 6] w fun e w' => e = .returned (.bool true) ∧ w = w' := by
  go_enter Tryz.func20, Tryz.ntmps20
  go_wp2
  go_ret
  exact ⟨rfl, rfl⟩
theorem isMarked_no (p : Int) (h5 : ¬ p = 5) (h6 : ¬ p = 6) (w : World) : Calls Tryz.prog 20 #[.int .i64 p] w fun e w' => e = .returned (.bool false) ∧ w = w' := by
  have e5 : (p == 5) = false := by simpa using h5
  have e6 : (p == 6) = false := by simpa using h6
  go_enter Tryz.func20, Tryz.ntmps20
  go_wp2
  go_ret
  exact ⟨rfl, rfl⟩
theorem isFull_any (p s h : Int) (A1 : Option Addr) (n1 c1 : Nat) (A2 : Option Addr) (n2 c2 : Nat) (w : World) :
    Calls Tryz.prog 47 #[.agg #[.int .i64 p, .int .i64 s, .slice A1 n1 c1, .slice A2 n2 c2, .int .i64 h]] w fun e w' => e = .returned (.bool ((n1 : Int) == s)) ∧ Below w.heap.size w w' := by
  go_enter Tryz.func47, Tryz.ntmps47
  go_wp2
  go_ret
  exact ⟨rfl, (by repeat (first | exact Below.refl _ _ | (refine below_drewN ?_ _) | (refine Below.drew ?_) | (refine Below.alloc ?_ (by first | exact Nat.le_refl _ | (simp; done) | (simp; omega) | omega) _) | (refine Below.setCell ?_ (by first | exact Nat.le_refl _ | (simp; done) | (simp; omega) | omega) _) | (refine Below.trans ?_ (Below.mono (by assumption) (by first | exact Nat.le_refl _ | (simp; done) | (simp; omega) | omega)))))⟩

theorem markPred_any (x lo hi : Int) (B1 B2 : Nat) (w : World) (h1 : w.cell? ⟨B1, 0, none⟩ = some (.int .i64 lo)) (h2 : w.cell? ⟨B2, 0, none⟩ = some (.int .i64 hi)) :
    Calls Tryz.prog 60 #[.int .i64 x, .pointer (some ⟨B1, 0, none⟩), .pointer (some ⟨B2, 0, none⟩)] w fun e w' => e = .returned (.bool (!decide (lo ≤ x ∧ x ≤ hi))) ∧ w = w' := by
  by_cases hin : lo ≤ x ∧ x ≤ hi
  · have hd : Hid (decide (lo ≤ x ∧ x ≤ hi) = true) := by unfold Hid; simpa using hin
    obtain ⟨i1, i2⟩ := hin
    go_enter Tryz.func60, Tryz.ntmps60
    go_wp2_with (first | (go_at_call 48; refine (within_yes _ _ _ _ (by omega) (by omega)).mono ?_; rintro e w' ⟨rfl, rfl⟩) | (go_at_call 48; refine (within_no _ _ _ _ (by omega)).mono ?_; rintro e w' ⟨rfl, rfl⟩))
    go_ret
    exact ⟨ret_bool (by rw [hd.out]; rfl), rfl⟩
  · have hd : Hid (decide (lo ≤ x ∧ x ≤ hi) = false) := by unfold Hid; simpa using hin
    go_enter Tryz.func60, Tryz.ntmps60
    go_wp2_with (first | (go_at_call 48; refine (within_yes _ _ _ _ (by omega) (by omega)).mono ?_; rintro e w' ⟨rfl, rfl⟩) | (go_at_call 48; refine (within_no _ _ _ _ (by omega)).mono ?_; rintro e w' ⟨rfl, rfl⟩))
    go_ret
    exact ⟨ret_bool (by rw [hd.out]; rfl), rfl⟩
theorem marksAny (ys : List Int) (lo hi : Int) : (!(ys.any fun x => !decide (lo ≤ x ∧ x ≤ hi))) = inAll lo hi ys := by
  unfold inAll
  rw [List.not_any_eq_all_not]
  congr 1
  funext x
  simp

set_option maxRecDepth 100000 in
set_option maxHeartbeats 1600000 in
theorem areMarks_any (p s h : Int) (A1 : Option Addr) (n1 c1 : Nat) (A2 : Option Addr) (n2 c2 : Nat) (ys : List Int) (w : World) (a2 : RdI w A2 n2 ys) (hn2 : n2 ≤ 1048576) :
    Calls Tryz.prog 46 #[.agg #[.int .i64 p, .int .i64 s, .slice A1 n1 c1, .slice A2 n2 c2, .int .i64 h]] w fun e w' => e = .returned (.bool (marksB p n1 ys)) ∧ Below w.heap.size w w' := by
  have hlen := hide a2.1
  have hcon : ∀ (lo hi : Int) (B1 B2 : Nat) (w1 : World), RdI w1 A2 n2 ys → w1.cell? ⟨B1, 0, none⟩ = some (.int .i64 lo) → w1.cell? ⟨B2, 0, none⟩ = some (.int .i64 hi) →
      Calls Tryz.prog 55 #[.slice A2 n2 c2, .func (.func 60) #[] #[.pointer (some ⟨B1, 0, none⟩), .pointer (some ⟨B2, 0, none⟩)]] w1 fun e w' => e = .returned (.bool (ys.any fun x => !decide (lo ≤ x ∧ x ≤ hi))) ∧ w1 = w' :=
    fun lo hi B1 B2 w1 hr q1 q2 => containsFunc_any 60 #[.pointer (some ⟨B1, 0, none⟩), .pointer (some ⟨B2, 0, none⟩)] (enters_of Tryz.func60 (by kernel_rfl) rfl) _ A2 n2 c2 ys w1 hr hn2 (fun x _ => markPred_any x lo hi B1 B2 w1 q1 q2)
  replace hcon := hide hcon
  replace a2 := hide a2
  have hmf : ∀ (fn : Fn) (first cap : Array Value) (w : World), (Instr.makeFunc fn first cap).run Tryz.prog w = .ok (.func fn first cap) w := fun _ _ _ _ => rfl
  by_cases h5 : p = 5
  · subst h5
    by_cases hnn : n2 = n1
    · subst hnn
      have HM := hide ((marks5 (n1 := n2) (ys := ys) hlen.out).trans (marksAny ys 1 60).symm)
      have hq : ((n2 : Int) == (n2 : Int)) = true := by simp
      generalize hg : (ys.any fun x => !decide (1 ≤ x ∧ x ≤ 60)) = r at HM
      replace hg := hide hg
      go_enter Tryz.func46, Tryz.ntmps46
      go_wp2_with (first
        | (go_at_call 20; refine (isMarked_five _).mono ?_; rintro e w1 ⟨rfl, rfl⟩)
        | (go_at_call 55; refine (hcon.out 1 60 _ _ _ (a2.out.below (by repeat (first | exact Below.refl _ _ | (refine below_drewN ?_ _) | (refine Below.drew ?_) | (refine Below.alloc ?_ (by first | exact Nat.le_refl _ | (simp; done) | (simp; omega) | omega) _) | (refine Below.setCell ?_ (by first | exact Nat.le_refl _ | (simp; done) | (simp; omega) | omega) _) | (refine Below.trans ?_ (Below.mono (by assumption) (by first | exact Nat.le_refl _ | (simp; done) | (simp; omega) | omega)))))) (by go_simp) (by go_simp)).mono ?_; rw [hg.out]; rintro e w1 ⟨rfl, rfl⟩))
      go_ret
      exact ⟨ret_bool HM.out.symm, (by repeat (first | exact Below.refl _ _ | (refine below_drewN ?_ _) | (refine Below.drew ?_) | (refine Below.alloc ?_ (by first | exact Nat.le_refl _ | (simp; done) | (simp; omega) | omega) _) | (refine Below.setCell ?_ (by first | exact Nat.le_refl _ | (simp; done) | (simp; omega) | omega) _) | (refine Below.trans ?_ (Below.mono (by assumption) (by first | exact Nat.le_refl _ | (simp; done) | (simp; omega) | omega)))))⟩
    · have HF := hide (marks_len (p := 5) (n1 := n1) (ys := ys) (.inl rfl) (by rw [hlen.out]; exact hnn))
      have hq : ((n2 : Int) == (n1 : Int)) = false := by simp; omega
      go_enter Tryz.func46, Tryz.ntmps46
      go_wp2_with (first
        | (go_at_call 20; refine (isMarked_five _).mono ?_; rintro e w1 ⟨rfl, rfl⟩))
      go_ret
      exact ⟨ret_bool HF.out.symm, (by repeat (first | exact Below.refl _ _ | (refine below_drewN ?_ _) | (refine Below.drew ?_) | (refine Below.alloc ?_ (by first | exact Nat.le_refl _ | (simp; done) | (simp; omega) | omega) _) | (refine Below.setCell ?_ (by first | exact Nat.le_refl _ | (simp; done) | (simp; omega) | omega) _) | (refine Below.trans ?_ (Below.mono (by assumption) (by first | exact Nat.le_refl _ | (simp; done) | (simp; omega) | omega)))))⟩
  · by_cases h6 : p = 6
    · subst h6
      by_cases hnn : n2 = n1
      · subst hnn
        have HM := hide ((marks6 (n1 := n2) (ys := ys) hlen.out).trans (marksAny ys 0 1).symm)
        have hq : ((n2 : Int) == (n2 : Int)) = true := by simp
        generalize hg : (ys.any fun x => !decide (0 ≤ x ∧ x ≤ 1)) = r at HM
        replace hg := hide hg
        go_enter Tryz.func46, Tryz.ntmps46
        go_wp2_with (first
          | (go_at_call 20; refine (isMarked_six _).mono ?_; rintro e w1 ⟨rfl, rfl⟩)
          | (go_at_call 55; refine (hcon.out 0 1 _ _ _ (a2.out.below (by repeat (first | exact Below.refl _ _ | (refine below_drewN ?_ _) | (refine Below.drew ?_) | (refine Below.alloc ?_ (by first | exact Nat.le_refl _ | (simp; done) | (simp; omega) | omega) _) | (refine Below.setCell ?_ (by first | exact Nat.le_refl _ | (simp; done) | (simp; omega) | omega) _) | (refine Below.trans ?_ (Below.mono (by assumption) (by first | exact Nat.le_refl _ | (simp; done) | (simp; omega) | omega)))))) (by go_simp) (by go_simp)).mono ?_; rw [hg.out]; rintro e w1 ⟨rfl, rfl⟩))
        go_ret
        exact ⟨ret_bool HM.out.symm, (by repeat (first | exact Below.refl _ _ | (refine below_drewN ?_ _) | (refine Below.drew ?_) | (refine Below.alloc ?_ (by first | exact Nat.le_refl _ | (simp; done) | (simp; omega) | omega) _) | (refine Below.setCell ?_ (by first | exact Nat.le_refl _ | (simp; done) | (simp; omega) | omega) _) | (refine Below.trans ?_ (Below.mono (by assumption) (by first | exact Nat.le_refl _ | (simp; done) | (simp; omega) | omega)))))⟩
      · have HF := hide (marks_len (p := 6) (n1 := n1) (ys := ys) (.inr rfl) (by rw [hlen.out]; exact hnn))
        have hq : ((n2 : Int) == (n1 : Int)) = false := by simp; omega
        go_enter Tryz.func46, Tryz.ntmps46
        go_wp2_with (first
          | (go_at_call 20; refine (isMarked_six _).mono ?_; rintro e w1 ⟨rfl, rfl⟩))
        go_ret
        exact ⟨ret_bool HF.out.symm, (by repeat (first | exact Below.refl _ _ | (refine below_drewN ?_ _) | (refine Below.drew ?_) | (refine Below.alloc ?_ (by first | exact Nat.le_refl _ | (simp; done) | (simp; omega) | omega) _) | (refine Below.setCell ?_ (by first | exact Nat.le_refl _ | (simp; done) | (simp; omega) | omega) _) | (refine Below.trans ?_ (Below.mono (by assumption) (by first | exact Nat.le_refl _ | (simp; done) | (simp; omega) | omega)))))⟩
    · have HM := hide (marks0 (n1 := n1) (ys := ys) h5 h6)
      have hm0 := isMarked_no p h5 h6
      by_cases h0 : n2 = 0
      · have HF : Hid (marksB p n1 ys = true) := by unfold Hid; rw [HM.out, hlen.out, h0]; rfl
        subst h0
        go_enter Tryz.func46, Tryz.ntmps46
        go_wp2_with (go_at_call 20; refine (hm0 _).mono ?_; rintro e w1 ⟨rfl, rfl⟩)
        go_ret
        exact ⟨ret_bool HF.out.symm, (by repeat (first | exact Below.refl _ _ | (refine below_drewN ?_ _) | (refine Below.drew ?_) | (refine Below.alloc ?_ (by first | exact Nat.le_refl _ | (simp; done) | (simp; omega) | omega) _) | (refine Below.setCell ?_ (by first | exact Nat.le_refl _ | (simp; done) | (simp; omega) | omega) _) | (refine Below.trans ?_ (Below.mono (by assumption) (by first | exact Nat.le_refl _ | (simp; done) | (simp; omega) | omega)))))⟩
      · have HF : Hid (marksB p n1 ys = false) := by unfold Hid; rw [HM.out, hlen.out]; simp [h0]
        have hq : ((n2 : Int) == 0) = false := by simp; omega
        go_enter Tryz.func46, Tryz.ntmps46
        go_wp2_with (go_at_call 20; refine (hm0 _).mono ?_; rintro e w1 ⟨rfl, rfl⟩)
        go_ret
        exact ⟨ret_bool HF.out.symm, (by repeat (first | exact Below.refl _ _ | (refine below_drewN ?_ _) | (refine Below.drew ?_) | (refine Below.alloc ?_ (by first | exact Nat.le_refl _ | (simp; done) | (simp; omega) | omega) _) | (refine Below.setCell ?_ (by first | exact Nat.le_refl _ | (simp; done) | (simp; omega) | omega) _) | (refine Below.trans ?_ (Below.mono (by assumption) (by first | exact Nat.le_refl _ | (simp; done) | (simp; omega) | omega)))))⟩
end Go.Proofs.YtkimbgehnhcmaaaGreatDoor
