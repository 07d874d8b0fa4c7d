/- The decimal text of a number, by the reference's own recursion: it is strconv's text; no conditions beyond the number's size. -/
import Derived.Test.YtkimbgehnhcmaaaGreatDoorBase
import Derived.Test.YtkimbgehnhcmaaaGreatDoorShelf
import Derived.Lib.ItoaLen
namespace Go.Proofs.YtkimbgehnhcmaaaGreatDoor
open Go.RowKit

theorem digit_at (d : Nat) (h : d < 10) : ByteArray.extract { data := #[48, 49, 50, 51, 52, 53, 54, 55, 56, 57] } d (d + 1) = ⟨#[UInt8.ofNat (48 + d)]⟩ := by
  have : ∀ d : Fin 10, ByteArray.extract { data := #[48, 49, 50, 51, 52, 53, 54, 55, 56, 57] } d.val (d.val + 1) = ⟨#[UInt8.ofNat (48 + d.val)]⟩ := by decide
  exact this ⟨d, h⟩
theorem bytes_append (a b : List UInt8) : (⟨a.toArray⟩ : ByteArray) ++ (⟨b.toArray⟩ : ByteArray) = ⟨(a ++ b).toArray⟩ := by
  apply ByteArray.ext
  simp

theorem decDigits_size (n : Nat) (h : n < 4611686018427387904) : (⟨(Lib.decDigits n).toArray⟩ : ByteArray).size ≤ 21 := by
  have h1 : (⟨(Lib.decDigits n).toArray⟩ : ByteArray).size = (Lib.decDigits n).length := by rfl
  rw [h1, Lib.decDigits_length]
  have := Lib.nDigits_le20 n (by omega)
  omega

set_option maxRecDepth 100000 in
set_option maxHeartbeats 1000000 in
theorem l1Num_nat (n : Nat) : n < 4611686018427387904 → ∀ w : World,
    Calls Tryz.prog 29 #[.int .i64 n] w fun e w' => e = .returned (.string ⟨(Lib.decDigits n).toArray⟩) ∧ ∃ m, w' = w.drewN m := by
  induction n using Nat.strongRecOn with
  | _ n ih =>
    intro hn w
    by_cases h : n < 10
    · go_enter Tryz.func29, Tryz.ntmps29
      go_wp2
      go_ret
      refine ⟨?_, 0, rfl⟩
      rw [Lib.decDigits, dif_pos h]
      exact congrArg (fun b => Ending.returned (.string b)) (digit_at n h)
    · have h1 : ¬ ((n : Int) < 10) := by omega
      obtain ⟨q, hq⟩ : ∃ q : Nat, q = n / 10 := ⟨_, rfl⟩
      obtain ⟨r, hr⟩ : ∃ r : Nat, r = n % 10 := ⟨_, rfl⟩
      have hd : (n : Int) / 10 = (q : Int) := by omega
      have hm : (n : Int) % 10 = (r : Int) := by omega
      have hm' : (n : Int).tmod 10 = (r : Int) := by rw [hr]; rfl
      have wq : IntKind.i64.wrap (q : Int) = q := wrap_small _ (by omega) (by omega)
      have wr : IntKind.i64.wrap (r : Int) = r := wrap_small _ (by omega) (by omega)
      have wr1 : IntKind.i64.wrap ((r : Int) + 1) = (r : Int) + 1 := wrap_small _ (by omega) (by omega)
      have h2 : r < 10 := by omega
      have h3 : q < n := by omega
      have h4 := ih q h3 (by omega)
      have h5 := decDigits_size q (by omega)
      have e5 : Lib.decDigits n = Lib.decDigits q ++ [UInt8.ofNat (48 + r)] := by rw [Lib.decDigits, dif_neg h, hq, hr]
      rw [e5, ← bytes_append, ← digit_at r h2]
      generalize (⟨(Lib.decDigits q).toArray⟩ : ByteArray) = t at h4 h5 ⊢
      clear ih e5
      replace hq := hide hq
      replace hr := hide hr
      go_enter Tryz.func29, Tryz.ntmps29
      go_wp2_with fail
      go_quiet ((go_at_call 29; exact Calls.quiet_of (h4 _)))
      go_wp2_with fail
      go_ret
      exact ⟨rfl, nq, rfl⟩
theorem l1Num_any (n : Int) (h0 : -4611686018427387904 < n) (h1 : n < 4611686018427387904) (w : World) :
    Calls Tryz.prog 29 #[.int .i64 n] w fun e w' => e = .returned (.string ⟨(Lib.itoa n).toArray⟩) ∧ ∃ m, w' = w.drewN m := by
  by_cases h : n < 0
  · have h2 := fun w => l1Num_nat n.natAbs (by omega) w
    have h3 : ((n.natAbs : Nat) : Int) = -n := by omega
    rw [h3] at h2
    clear h3
    have h5 := decDigits_size n.natAbs (by omega)
    rw [Lib.itoa, if_pos h, show (45 :: Lib.decDigits n.natAbs) = [45] ++ Lib.decDigits n.natAbs from rfl, ← bytes_append]
    generalize (⟨(Lib.decDigits n.natAbs).toArray⟩ : ByteArray) = t at h2 h5 ⊢
    go_enter Tryz.func29, Tryz.ntmps29
    go_wp2_with ((go_at_call 29; refine (h2 _).mono ?_; rintro e w1 ⟨rfl, m, rfl⟩))
    go_ret
    exact ⟨rfl, m, rfl⟩
  · have h3 : n = ((n.toNat : Nat) : Int) := by omega
    rw [Lib.itoa, if_neg h]
    generalize n.toNat = k at h3 ⊢
    subst h3
    exact l1Num_nat k (by omega) w
end Go.Proofs.YtkimbgehnhcmaaaGreatDoor
