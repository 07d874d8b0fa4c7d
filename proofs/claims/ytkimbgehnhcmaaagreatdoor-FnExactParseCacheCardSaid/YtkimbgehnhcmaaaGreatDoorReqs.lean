/- Whether a sequence of requests is valid: the reference and the program return the same; slices.ContainsFunc and slices.IndexFunc over numbers, at whatever predicate only reads. For slices that can be read. -/
import Derived.Test.YtkimbgehnhcmaaaGreatDoorInts
import Derived.Shelf.Abstract
namespace Go.Proofs.YtkimbgehnhcmaaaGreatDoor
open Go.RowKit Go.Shelf

/-- All numbers of a list are from 0 to n - 1. -/
def belowB (n : Int) (xs : List Int) : Bool := xs.all fun x => decide (0 ≤ x ∧ x ≤ n - 1)
/-- A sequence of requests. -/
def reqB (n : Int) (xs : List Int) : Bool := decide (1 ≤ n ∧ n ≤ 8) && (decide (xs.length ≤ 60) && belowB n xs)

theorem belowB_no (n : Int) (xs : List Int) (k : Nat) (hk : k < xs.length) (h : ¬ (0 ≤ xs.getD k 0 ∧ xs.getD k 0 ≤ n - 1)) : belowB n xs = false := by
  unfold belowB
  rw [List.all_eq_false]
  refine ⟨xs[k], List.getElem_mem hk, ?_⟩
  rw [List.getD_eq_getElem?_getD, List.getElem?_eq_getElem hk] at h
  simpa using h
theorem belowB_yes (n : Int) (xs : List Int) (h : ∀ k, k < xs.length → 0 ≤ xs.getD k 0 ∧ xs.getD k 0 ≤ n - 1) : belowB n xs = true := by
  unfold belowB
  rw [List.all_eq_true]
  intro x hx
  obtain ⟨k, hk, rfl⟩ := List.getElem_of_mem hx
  have := h k hk
  rw [List.getD_eq_getElem?_getD, List.getElem?_eq_getElem hk] at this
  simpa using this

/-- The reference's test of a list of numbers. -/
theorem l3List_any (A : Option Addr) (n c : Nat) (xs : List Int) (q : Int) (w : World) (hr : RdI w A n xs) (hn : n ≤ 1048576) (hq : -9223372036854775807 ≤ q) (hq' : q ≤ 9223372036854775807) :
    Calls Tryz.prog 32 #[.int .i64 q, .slice A n c] w fun e w' => e = .returned (.bool (belowB q xs)) ∧ w = w' := by
  have HR := hide hr
  have hlen := hide hr.1
  clear hr
  go_enter Tryz.func32, Tryz.ntmps32
  go_wp2
  go_loop [5] (fun i => ∃ k : Nat, k ≤ n ∧ i = .int .i64 k ∧ Hid (∀ j, j < k → 0 ≤ xs.getD j 0 ∧ xs.getD j 0 ≤ q - 1)) (fun i => n - (intOf i).toNat)
  case atStart => exact ⟨0, Nat.zero_le _, rfl, fun j hj => absurd hj (Nat.not_lt_zero _)⟩
  case round =>
    obtain ⟨k, hk, rfl, HA⟩ := hrel
    by_cases hlt : k < n
    · obtain ⟨b, off, rfl, _, hc⟩ := (HR.out).at_ hlt
      have hlt' : (k : Int) < (n : Int) := by omega
      have HC := hide hc
      obtain ⟨x, hx⟩ : ∃ x, Hid (xs.getD k 0 = x) := ⟨_, rfl⟩
      rw [hx.out] at hc
      clear HC
      by_cases hin : 0 ≤ x ∧ x ≤ q - 1
      · obtain ⟨h1, h2⟩ := hin
        go_wp2_with (first | (go_at_call 28; refine (l1In_yes _ _ _ _ (by omega) (by omega)).mono ?_; rintro e w' ⟨rfl, rfl⟩) | (go_at_call 28; refine (l1In_no _ _ _ _ (by omega)).mono ?_; rintro e w' ⟨rfl, rfl⟩))
        go_round
        case rel => first | exact ⟨k + 1, by omega, by go_num, fun j hj => by
          by_cases e : j < k
          · exact HA.out j e
          · have : j = k := by omega
            subst this
            rw [hx.out]
            exact ⟨h1, h2⟩⟩ | ((repeat apply Exists.intro); refine ⟨?_, rfl⟩; exact ⟨k + 1, by omega, by go_num, fun j hj => by
          by_cases e : j < k
          · exact HA.out j e
          · have : j = k := by omega
            subst this
            rw [hx.out]
            exact ⟨h1, h2⟩⟩)
        case measure => simp [intOf]; omega
      · have HF := hide (belowB_no q xs k (by rw [hlen.out]; exact hlt) (by rw [hx.out]; exact hin))
        go_wp2_with (first | (go_at_call 28; refine (l1In_yes _ _ _ _ (by omega) (by omega)).mono ?_; rintro e w' ⟨rfl, rfl⟩) | (go_at_call 28; refine (l1In_no _ _ _ _ (by omega)).mono ?_; rintro e w' ⟨rfl, rfl⟩))
        go_ret
        exact ⟨ret_bool HF.out.symm, rfl⟩
    · have hkn : k = n := by omega
      subst hkn
      have HF := hide (belowB_yes q xs (by rw [hlen.out]; exact HA.out))
      go_wp2
      go_ret
      exact ⟨ret_bool HF.out.symm, rfl⟩

/-- The place of the first number of a list that a predicate takes, or -1. -/
def idxP (p : Int → Bool) (xs : List Int) : Int := if xs.any p = true then (xs.findIdx p : Nat) else -1
theorem idxP_hit (p : Int → Bool) (xs : List Int) (k : Nat) (hk : k < xs.length) (h : p (xs.getD k 0) = true) (ha : ∀ j, j < k → p (xs.getD j 0) = false) : idxP p xs = (k : Int) := by
  have hx : xs.getD k 0 = xs[k] := by simp [List.getD_eq_getElem?_getD, List.getElem?_eq_getElem hk]
  have hany : xs.any p = true := List.any_eq_true.2 ⟨xs[k], List.getElem_mem hk, by rw [← hx]; exact h⟩
  unfold idxP
  rw [if_pos hany]
  congr 1
  rw [List.findIdx_eq hk]
  refine ⟨by rw [← hx]; exact h, fun j hj => ?_⟩
  have := ha j hj
  rwa [List.getD_eq_getElem?_getD, List.getElem?_eq_getElem (by omega)] at this
theorem idxP_none (p : Int → Bool) (xs : List Int) (ha : ∀ j, j < xs.length → p (xs.getD j 0) = false) : idxP p xs = -1 := by
  unfold idxP
  rw [if_neg]
  intro h
  obtain ⟨x, hx, hp⟩ := List.any_eq_true.1 h
  obtain ⟨k, hk, rfl⟩ := List.getElem_of_mem hx
  have := ha k hk
  rw [List.getD_eq_getElem?_getD, List.getElem?_eq_getElem hk] at this
  simp [hp] at this

/-- slices.IndexFunc over numbers, at a predicate that turns nothing. -/
theorem indexFunc_any (g : Nat) (lb : Array Value) (eg : ∀ args w, (callFunc g args).run Tryz.prog w = .ok (.enter g args) w) (p : Int → Bool) (A : Option Addr) (n c : Nat) (xs : List Int) (w : World) (hr : RdI w A n xs) (hn : n ≤ 1048576)
    (hp : ∀ x, x ∈ xs → Calls Tryz.prog g (#[.int .i64 x] ++ lb) w fun e w' => e = .returned (.bool (p x)) ∧ w = w') :
    Calls Tryz.prog 72 #[.slice A n c, .func (.func g) #[] lb] w fun e w' => e = .returned (.int .i64 (idxP p xs)) ∧ w = w' := by
  have HR := hide hr
  have hlen := hide hr.1
  have HP := hide hp
  clear hr hp
  go_enter Tryz.func72, Tryz.ntmps72
  go_wp2
  go_loop [5, 8] (fun _ i => ∃ k : Nat, k ≤ n ∧ i = .int .i64 k ∧ Hid (∀ j, j < k → p (xs.getD j 0) = false)) (fun _ i => n - (intOf i).toNat)
  case atStart => exact ⟨0, Nat.zero_le _, rfl, fun j hj => absurd hj (Nat.not_lt_zero _)⟩
  case round =>
    obtain ⟨k, hk, rfl, HA⟩ := hrel
    by_cases hlt : k < n
    · obtain ⟨b, off, rfl, _, hc⟩ := (HR.out).at_ hlt
      have hlt' : (k : Int) < (n : Int) := by omega
      have hcall := HP.out (xs.getD k 0) (by
        rw [List.getD_eq_getElem?_getD, List.getElem?_eq_getElem (by rw [hlen.out]; exact hlt)]
        exact List.getElem_mem _)
      obtain ⟨x, hx⟩ : ∃ x, Hid (xs.getD k 0 = x) := ⟨_, rfl⟩
      rw [hx.out] at hc hcall
      cases hq : p x with
      | true =>
        rw [hq] at hcall
        have HF := hide (idxP_hit p xs k (by rw [hlen.out]; exact hlt) (by rw [hx.out]; exact hq) HA.out)
        replace hcall := hide hcall
        clear hq
        go_wp2_with fail
        refine (unhide hcall).mono ?_
        rintro e w' ⟨rfl, rfl⟩
        go_wp2
        go_ret
        exact ⟨ret_int HF.out.symm, rfl⟩
      | false =>
        rw [hq] at hcall
        have HQ := hide hq
        replace hcall := hide hcall
        clear hq
        go_wp2_with fail
        refine (unhide hcall).mono ?_
        rintro e w' ⟨rfl, rfl⟩
        go_wp2
        go_round
        case rel => first | exact ⟨k + 1, by omega, by go_num, fun j hj => by
          by_cases e : j < k
          · exact HA.out j e
          · have : j = k := by omega
            subst this
            rw [hx.out]
            exact HQ.out⟩ | ((repeat apply Exists.intro); refine ⟨?_, rfl⟩; exact ⟨k + 1, by omega, by go_num, fun j hj => by
          by_cases e : j < k
          · exact HA.out j e
          · have : j = k := by omega
            subst this
            rw [hx.out]
            exact HQ.out⟩)
        case measure => simp [intOf]; omega
    · have hkn : k = n := by omega
      subst hkn
      have HF := hide (idxP_none p xs (by rw [hlen.out]; exact HA.out))
      go_wp2
      go_ret
      exact ⟨ret_int HF.out.symm, rfl⟩

/-- slices.ContainsFunc over numbers, at a predicate that turns nothing. -/
theorem containsFunc_any (g : Nat) (lb : Array Value) (eg : ∀ args w, (callFunc g args).run Tryz.prog w = .ok (.enter g args) w) (p : Int → Bool) (A : Option Addr) (n c : Nat) (xs : List Int) (w : World) (hr : RdI w A n xs) (hn : n ≤ 1048576)
    (hp : ∀ x, x ∈ xs → Calls Tryz.prog g (#[.int .i64 x] ++ lb) w fun e w' => e = .returned (.bool (p x)) ∧ w = w') :
    Calls Tryz.prog 55 #[.slice A n c, .func (.func g) #[] lb] w fun e w' => e = .returned (.bool (xs.any p)) ∧ w = w' := by
  have hcon := hide (indexFunc_any g lb eg p A n c xs w hr hn hp)
  clear hp hr eg
  have HF : Hid (xs.any p = decide (0 ≤ idxP p xs)) := by
    unfold idxP Hid
    cases xs.any p <;> simp
  go_enter Tryz.func55, Tryz.ntmps55
  go_wp2_with (go_at_call 72; refine (unhide hcon).mono ?_; rintro e w' ⟨rfl, rfl⟩)
  go_ret
  exact ⟨ret_bool (by simpa using HF.out.symm), rfl⟩

/-- The program's test of a list of numbers. -/
theorem areBelow_any (A : Option Addr) (n c : Nat) (xs : List Int) (q : Int) (w : World) (hr : RdI w A n xs) (hn : n ≤ 1048576) (hq : -9223372036854775807 ≤ q) (hq' : q ≤ 9223372036854775807) :
    Calls Tryz.prog 44 #[.int .i64 q, .slice A n c] w fun e w' => e = .returned (.bool (belowB q xs)) ∧ Below w.heap.size w w' := by
  have hr1 : RdI (w.alloc (.cells #[.int .i64 q] 3)) A n xs := hr.below (by repeat (first | exact Below.refl _ _ | (refine below_drewN ?_ _) | (refine Below.drew ?_) | (refine Below.alloc ?_ (by first | exact Nat.le_refl _ | (simp; done) | (simp; omega) | omega) _) | (refine Below.setCell ?_ (by first | exact Nat.le_refl _ | (simp; done) | (simp; omega) | omega) _) | (refine Below.trans ?_ (Below.mono (by assumption) (by first | exact Nat.le_refl _ | (simp; done) | (simp; omega) | omega)))))
  have hcon := hide (containsFunc_any 56 #[.pointer (some ⟨w.heap.size, 0, none⟩)] (enters_of Tryz.func56 (by kernel_rfl) rfl) (fun x => !decide (0 ≤ x ∧ x ≤ q - 1)) A n c xs _ hr1 hn (fun x _ => by
    show Calls Tryz.prog 56 #[.int .i64 x, .pointer (some ⟨w.heap.size, 0, none⟩)] _ _
    by_cases hin : 0 ≤ x ∧ x ≤ q - 1
    · have hd : Hid (decide (0 ≤ x ∧ x ≤ q - 1) = true) := by unfold Hid; simpa using hin
      obtain ⟨h1, h2⟩ := hin
      go_enter Tryz.func56, Tryz.ntmps56
      go_wp2_with (first | (go_at_call 48; refine (within_yes _ _ _ _ (by omega) (by omega)).mono ?_; rintro e w' ⟨rfl, rfl⟩) | (go_at_call 48; refine (within_no _ _ _ _ (by omega)).mono ?_; rintro e w' ⟨rfl, rfl⟩))
      go_ret
      exact ⟨ret_bool (by rw [hd.out]; rfl), rfl⟩
    · have hd : Hid (decide (0 ≤ x ∧ x ≤ q - 1) = false) := by unfold Hid; simpa using hin
      go_enter Tryz.func56, Tryz.ntmps56
      go_wp2_with (first | (go_at_call 48; refine (within_yes _ _ _ _ (by omega) (by omega)).mono ?_; rintro e w' ⟨rfl, rfl⟩) | (go_at_call 48; refine (within_no _ _ _ _ (by omega)).mono ?_; rintro e w' ⟨rfl, rfl⟩))
      go_ret
      exact ⟨ret_bool (by rw [hd.out]; rfl), rfl⟩))
  have HF : Hid ((!xs.any fun x => !decide (0 ≤ x ∧ x ≤ q - 1)) = belowB q xs) := by
    unfold belowB Hid
    rw [List.not_any_eq_all_not]
    congr 1
    funext x
    simp
  clear hr hr1
  have hmf : ∀ (fn : Fn) (first cap : Array Value) (w : World), (Instr.makeFunc fn first cap).run Tryz.prog w = .ok (.func fn first cap) w := fun _ _ _ _ => rfl
  generalize hgen : (xs.any fun x => !decide (0 ≤ x ∧ x ≤ q - 1)) = r at hcon HF
  clear hgen
  go_enter Tryz.func44, Tryz.ntmps44
  go_wp2_with (go_at_call 55; refine (unhide hcon).mono ?_; rintro e w' ⟨rfl, rfl⟩)
  go_ret
  exact ⟨ret_bool HF.out, (by repeat (first | exact Below.refl _ _ | (refine below_drewN ?_ _) | (refine Below.drew ?_) | (refine Below.alloc ?_ (by first | exact Nat.le_refl _ | (simp; done) | (simp; omega) | omega) _) | (refine Below.setCell ?_ (by first | exact Nat.le_refl _ | (simp; done) | (simp; omega) | omega) _) | (refine Below.trans ?_ (Below.mono (by assumption) (by first | exact Nat.le_refl _ | (simp; done) | (simp; omega) | omega)))))⟩

end Go.Proofs.YtkimbgehnhcmaaaGreatDoor
