/- The law's marks over slices of numbers: they are set, and they are held; for slices of at most 2^20 numbers that the call has made itself. -/
import Derived.Test.YtkimbgehnhcmaaaGreatDoorInts
namespace Go.Proofs.YtkimbgehnhcmaaaGreatDoor
open Go.RowKit

/-- The marks k, k + 1, .. -/
def marksI (k : Int) (n : Nat) : List Int := (List.range n).map fun (j : Nat) => k + (j : Int)
theorem marksI_len (k : Int) (n : Nat) : (marksI k n).length = n := by simp [marksI]
theorem marksI_getD (k : Int) (n j : Nat) (h : j < n) : (marksI k n).getD j 0 = k + (j : Int) := by simp [marksI, List.getD_eq_getElem?_getD, h]
theorem mark_step (k : Int) (xs : List Int) (n j : Nat) (hn : xs.length = n) (hj : j < n) :
    ((marksI k j ++ xs.drop j).map (Value.int .i64)).set j (.int .i64 (k + (j : Int))) = (marksI k (j + 1) ++ xs.drop (j + 1)).map (Value.int .i64) := by
  rw [← List.map_set]
  congr 1
  rw [List.set_append_right _ _ (by simp [marksI_len]), marksI_len, Nat.sub_self, List.drop_eq_getElem_cons (by omega), List.set_cons_zero]
  simp [marksI, List.range_succ]

theorem markIntS_any (A : Option Addr) (n c base : Nat) (k : Int) (xs : List Int) (w : World) (ho : OwnI w base A n c xs) (hk : 0 ≤ k) (hk' : k ≤ 1000000000) (hn : n ≤ 1048576) :
    Calls Tryz.prog 24 #[.slice A n c, .int .i64 k] w fun e w' => e = .returned (.int .i64 (k + (n : Int))) ∧ OwnI w' base A n c (marksI k n) ∧ Marked w w' A := by
  have hlen := hide ho.len
  have HO := hide ho
  clear ho
  go_enter Tryz.func24, Tryz.ntmps24
  go_wp2
  go_loopw [1, 5] (fun q i wr => ∃ j : Nat, j ≤ n ∧ i = .int .i64 j ∧ q = .int .i64 (k + (j : Int)) ∧ Hid (OwnI wr base A n c (marksI k j ++ xs.drop j)) ∧ Hid (Marked w wr A)) (fun _ i _ => n - (intOf i).toNat)
  case atStart => exact ⟨0, Nat.zero_le _, rfl, by simp, by simpa [marksI] using HO, ⟨rfl, rfl, rfl, Nat.le_refl _, fun _ _ _ => rfl⟩⟩
  case round =>
    obtain ⟨j, hj, rfl, rfl, HJ, HM⟩ := hrel
    by_cases hlt : j < n
    · obtain ⟨g, cap, hv, _⟩ := World.ownsRow.form HJ.out (by omega)
      have hA : A = some ⟨g, 0, none⟩ := by injection hv
      have hcap : c = cap := by injection hv
      subst hA
      subst hcap
      clear hv
      have hc2 : ∃ v0, wr.cell? ⟨g, j, none⟩ = some (.int .i64 v0) := by
        rw [World.ownsRow.cellAt HJ.out j (by omega)]
        exact ⟨_, getD_map (by simp [marksI_len, hlen.out]; omega)⟩
      obtain ⟨v0, hc2⟩ := hc2
      have hf2 := World.ownsRow.frozenAt HJ.out j
      have HS := hide (World.ownsRow.stored HJ.out j (.int .i64 (k + (j : Int))))
      go_wp2
      go_roundw
      case rel => exact ⟨j + 1, by omega, by go_num, by go_num, by have := HS.out.1; rw [mark_step k xs n j hlen.out hlt] at this; exact this, grownBy_trans HM.out HS.out.2⟩
      case measure => simp [intOf]; omega
    · have hjn : j = n := by omega
      subst hjn
      go_wp2
      go_ret
      refine ⟨rfl, ?_, HM.out⟩
      have := HJ.out
      rwa [List.drop_of_length_le (by rw [hlen.out]; exact Nat.le_refl _), List.append_nil] at this

theorem heldIntS_any (A : Option Addr) (n c : Nat) (k : Int) (w : World) (h : RdI w A n (marksI k n)) (hk : 0 ≤ k) (hk' : k ≤ 1000000000) (hn : n ≤ 1048576) :
    Calls Tryz.prog 25 #[.slice A n c, .int .i64 k] w fun e w' => e = .returned (.int .i64 (k + (n : Int))) ∧ w = w' := by
  have HR := hide h
  clear h
  go_enter Tryz.func25, Tryz.ntmps25
  go_wp2
  go_loop [1, 5] (fun q i => ∃ j : Nat, j ≤ n ∧ i = .int .i64 j ∧ q = .int .i64 (k + (j : Int))) (fun _ i => n - (intOf i).toNat)
  case atStart => exact ⟨0, Nat.zero_le _, rfl, by simp⟩
  case round =>
    obtain ⟨j, hj, rfl, rfl⟩ := hrel
    by_cases hlt : j < n
    · obtain ⟨b, off, rfl, _, hc⟩ := (HR.out).at_ hlt
      rw [marksI_getD k n j hlt] at hc
      have hq : ((k + (j : Int)) != (k + (j : Int))) = false := by simp
      go_wp2
      go_round
      case rel => exact ⟨j + 1, by omega, by go_num, by go_num⟩
      case measure => simp [intOf]; omega
    · have hjn : j = n := by omega
      subst hjn
      go_wp2
      go_ret
      exact ⟨rfl, rfl⟩
end Go.Proofs.YtkimbgehnhcmaaaGreatDoor
