/- The number of a policy's name: the reference's search through its table and the program's slices.Index give the same; for texts of at most 2^20 bytes (and internal/bytealg.MaxLen holds some number). -/
import Derived.Test.YtkimbgehnhcmaaaGreatDoorPolicy
import Derived.Lib.SlicesS
namespace Go.Proofs.YtkimbgehnhcmaaaGreatDoor
open Go.RowKit

theorem bytes_neP {x y : ByteArray} (h : ¬ x = y) : (x.toList == y.toList) = false := by
  cases hb : (x.toList == y.toList)
  · rfl
  · exact absurd ((Lib.bytes_beq_iff x y).1 hb) h
/-- The reference's table: no name ahead of the seven. -/
def polAll : List ByteArray := ByteArray.empty :: polNames
def polIdx (s : ByteArray) : Int := Lib.idxOfS polNames s + 1
theorem polIdx_hit (s : ByteArray) (k : Nat) (h1 : 1 ≤ k) (h8 : k < 8) (h : polAll.getD k ByteArray.empty = s) (hn : ∀ j, 1 ≤ j → j < k → polAll.getD j ByteArray.empty ≠ s) : polIdx s = (k : Int) := by
  have e := Lib.idxOfS_hit polNames 7 (k - 1) s (by omega) (by decide) (by
    have : polAll.getD k ByteArray.empty = polNames.getD (k - 1) ByteArray.empty := by
      obtain ⟨m, rfl⟩ : ∃ m, k = m + 1 := ⟨k - 1, by omega⟩
      rfl
    rw [← this]; exact h) (fun j hj => by
      have := hn (j + 1) (by omega) (by omega)
      exact this)
  unfold polIdx
  rw [show polNames.take 7 = polNames from rfl] at e
  rw [e]; omega
theorem polIdx_miss (s : ByteArray) (hn : ∀ j, 1 ≤ j → j < 8 → polAll.getD j ByteArray.empty ≠ s) : polIdx s = 0 := by
  have e := Lib.idxOfS_miss polNames 7 s (fun j hj => hn (j + 1) (by omega) (by omega))
  unfold polIdx
  rw [show polNames.take 7 = polNames from rfl] at e
  rw [e]; rfl
theorem polIdx_bd (s : ByteArray) : 0 ≤ polIdx s ∧ polIdx s ≤ 7 := by
  by_cases h : ∃ k, 1 ≤ k ∧ k < 8 ∧ polAll.getD k ByteArray.empty = s ∧ ∀ j, 1 ≤ j → j < k → polAll.getD j ByteArray.empty ≠ s
  · obtain ⟨k, h1, h8, h, hn⟩ := h
    rw [polIdx_hit s k h1 h8 h hn]; omega
  · rw [polIdx_miss s (fun j => by
      induction j using Nat.strongRecOn with
      | _ j ih =>
        intro h1 h8 he
        exact h ⟨j, h1, h8, he, fun i hi hij => ih i hij hi (by omega)⟩)]
    omega
theorem polAll_cells (w : World) (T : TypeId) : ∀ j, j < 8 → (w.alloc (.cells (polAll.map Value.string).toArray T)).cell? ⟨w.heap.size, j, none⟩ = some (.string (polAll.getD j ByteArray.empty)) := by
  intro j hj
  have hc : j = 0 ∨ j = 1 ∨ j = 2 ∨ j = 3 ∨ j = 4 ∨ j = 5 ∨ j = 6 ∨ j = 7 := by omega
  rcases hc with rfl | rfl | rfl | rfl | rfl | rfl | rfl | rfl <;> simp [polAll, polNames]

theorem l4Names_zero (w : World) :
    Calls Tryz.prog 35 #[.int .i64 0] w fun e w' => e = .returned (.slice (some ⟨w.heap.size, 0, none⟩) 8 8) ∧ w' = w.alloc (.cells (polAll.map Value.string).toArray 9) := by
  go_enter Tryz.func35, Tryz.ntmps35
  go_wp2
  go_ret
  exact ⟨rfl, rfl⟩

set_option maxHeartbeats 1600000 in
theorem l4Policy_any (s : ByteArray) (w : World) :
    Calls Tryz.prog 27 #[.string s] w fun e w' => e = .returned (.int .i64 (polIdx s)) ∧ Below w.heap.size w w' := by
  have h0 := l4Names_zero w
  have hcells := hide (polAll_cells w 9)
  have hB : Below w.heap.size w (w.alloc (.cells (polAll.map Value.string).toArray 9)) := (by repeat (first | exact Below.refl _ _ | (refine below_drewN ?_ _) | (refine Below.drew ?_) | (refine Below.alloc ?_ (by first | exact Nat.le_refl _ | (simp; done) | (simp; omega) | omega) _) | (refine Below.setCell ?_ (by first | exact Nat.le_refl _ | (simp; done) | (simp; omega) | omega) _) | (refine Below.trans ?_ (Below.mono (by assumption) (by first | exact Nat.le_refl _ | (simp; done) | (simp; omega) | omega)))))
  replace hB := hide hB
  generalize w.alloc (.cells (polAll.map Value.string).toArray 9) = W1 at h0 hcells hB
  go_enter Tryz.func27, Tryz.ntmps27
  go_wp2_with (go_at_call 35; refine h0.mono ?_; rintro e w1 ⟨rfl, rfl⟩)
  go_loop [4] (fun i => ∃ k : Nat, 1 ≤ k ∧ k ≤ 8 ∧ i = .int .i64 k ∧ Hid (∀ j, 1 ≤ j → j < k → polAll.getD j ByteArray.empty ≠ s)) (fun i => 8 - (intOf i).toNat)
  case atStart => exact ⟨1, by omega, by omega, rfl, fun j h1 h2 => absurd h2 (by omega)⟩
  case round =>
    obtain ⟨k, h1, h8, rfl, HN⟩ := hrel
    clear h0
    by_cases hlt : k < 8
    · have hc := hcells.out k hlt
      by_cases he : polAll.getD k ByteArray.empty = s
      · have HV := hide (polIdx_hit s k h1 hlt he HN.out)
        rw [he] at hc
        clear he
        go_wp2
        go_ret
        exact ⟨ret_int HV.out.symm, hB.out⟩
      · have hne := bytes_neP he
        have HE := hide he
        clear he
        generalize polAll.getD k ByteArray.empty = t at hc hne
        go_wp2
        go_round
        case rel => first | exact ⟨k + 1, by omega, by omega, by go_num, fun j hj1 hj2 => by
          by_cases e : j < k
          · exact HN.out j hj1 e
          · obtain rfl : j = k := by omega
            exact HE.out⟩ | ((repeat apply Exists.intro); refine ⟨?_, rfl⟩; exact ⟨k + 1, by omega, by omega, by go_num, fun j hj1 hj2 => by
          by_cases e : j < k
          · exact HN.out j hj1 e
          · obtain rfl : j = k := by omega
            exact HE.out⟩)
        case measure => first | (simp [intOf]; done) | (simp [intOf]; omega)
    · obtain rfl : k = 8 := by omega
      have HV := hide (polIdx_miss s HN.out)
      go_wp2
      go_ret
      exact ⟨ret_int HV.out.symm, hB.out⟩
set_option maxHeartbeats 1600000 in
theorem iPolicyOf_any (s : ByteArray) (m : Int) (w : World) (hm : w.cell? ⟨0, 0, none⟩ = some (.int .i64 m)) :
    Calls Tryz.prog 18 #[.string s] w fun e w' => e = .returned (.tuple #[.int .i64 (polIdx s), .bool (decide (0 < polIdx s))]) ∧ Below w.heap.size w w' := by
  have h1 := policyNames_any m w hm
  have hc := polRow_cells w
  have hB : Below w.heap.size w (w.alloc (.cells (polNames.map Value.string).toArray 9)) := (by repeat (first | exact Below.refl _ _ | (refine below_drewN ?_ _) | (refine Below.drew ?_) | (refine Below.alloc ?_ (by first | exact Nat.le_refl _ | (simp; done) | (simp; omega) | omega) _) | (refine Below.setCell ?_ (by first | exact Nat.le_refl _ | (simp; done) | (simp; omega) | omega) _) | (refine Below.trans ?_ (Below.mono (by assumption) (by first | exact Nat.le_refl _ | (simp; done) | (simp; omega) | omega)))))
  have hlt : w.heap.size < (w.alloc (.cells (polNames.map Value.string).toArray 9)).heap.size := by simp
  generalize w.alloc (.cells (polNames.map Value.string).toArray 9) = W1 at h1 hc hB hlt
  have h2 := Tryz.slices_Index_string w.heap.size 0 7 7 polNames s W1 (by decide) (by decide) (by intro j hj; rw [Nat.zero_add]; exact hc j (by simpa [polNames] using hj))
  have hbd := polIdx_bd s
  unfold polIdx at hbd ⊢
  rw [show polNames.take 7 = polNames from rfl] at h2
  generalize Lib.idxOfS polNames s = p at h2 hbd ⊢
  replace hB := hide hB
  clear hm hc hlt
  by_cases hp : 0 ≤ p
  · rw [decide_eq_true (show 0 < p + 1 by omega)]
    go_enter Tryz.func18, Tryz.ntmps18
    go_wp2_with (first
      | (go_at_call 38; refine h1.mono ?_; rintro e w1 ⟨rfl, rfl⟩)
      | (go_at_call 37; refine h2.mono ?_; rintro e w1 ⟨rfl, rfl⟩))
    go_ret2
    exact ⟨rfl, hB.out⟩
  · have hp1 : p = -1 := by omega
    subst hp1
    go_enter Tryz.func18, Tryz.ntmps18
    go_wp2_with (first
      | (go_at_call 38; refine h1.mono ?_; rintro e w1 ⟨rfl, rfl⟩)
      | (go_at_call 37; refine h2.mono ?_; rintro e w1 ⟨rfl, rfl⟩))
    go_ret2
    exact ⟨rfl, hB.out⟩
end Go.Proofs.YtkimbgehnhcmaaaGreatDoor
