/- The names of the policies: the reference's table and the program's split text hold the same; no conditions (but that internal/bytealg.MaxLen holds some number). -/
import Derived.Test.YtlickpalbfhjoaaDoorBase
import Derived.Test.YtlickpalbfhjoaaDoorShelf
namespace Go.Proofs.YtlickpalbfhjoaaDoor
open Go.RowKit

/-- The seven names. -/
def polNames : List ByteArray := [⟨#[108, 114, 117]⟩, ⟨#[102, 105, 102, 111]⟩, ⟨#[108, 105, 102, 111]⟩, ⟨#[102, 108, 117, 115, 104]⟩, ⟨#[108, 102, 117]⟩, ⟨#[99, 108, 111, 99, 107]⟩, ⟨#[109, 114, 117]⟩]
def polConst : ByteArray := { data := #[108, 114, 117, 32, 102, 105, 102, 111, 32, 108, 105, 102, 111, 32, 102, 108, 117, 115, 104, 32, 108, 102, 117, 32, 99, 108, 111, 99, 107, 32, 109, 114, 117] }
theorem pol_count : Lib.countB polConst ⟨#[32]⟩ = 6 := by decide +kernel
theorem pol_split : Lib.splitB ⟨#[32]⟩ 0 6 polConst = polNames := by decide +kernel
theorem policyNames_any (m : Int) (w : World) (hm : w.cell? ⟨0, 0, none⟩ = some (.int .i64 m)) :
    Calls Tryd.prog 65 #[] w fun e w' => e = .returned (.slice (some ⟨w.heap.size, 0, none⟩) 7 7) ∧ w' = w.alloc (.cells (polNames.map Value.string).toArray 9) := by
  have h1 := Tryd.strings_Split polConst ⟨#[32]⟩ m w (by decide) hm (by decide)
  rw [pol_count, pol_split] at h1
  unfold polConst at h1
  clear hm
  generalize hn : (polNames.map Value.string).toArray = ns at h1 ⊢
  clear hn
  go_enter Tryd.func65, Tryd.ntmps65
  go_wp2_with (go_at_call 81; refine h1.mono ?_; rintro e w1 ⟨rfl, rfl⟩)
  go_ret
  exact ⟨rfl, rfl⟩
def polText (n : Int) : ByteArray := if 1 ≤ n ∧ n ≤ 7 then polNames.getD (n - 1).toNat ByteArray.empty else ByteArray.empty
def polOk (n : Int) : Bool := decide (1 ≤ n ∧ n ≤ 7)

set_option maxHeartbeats 1600000 in
theorem sPolicyName_any (n : Int) (w : World) :
    Calls Tryd.prog 35 #[.int .i64 n] w fun e w' => e = .returned (.tuple #[.string (polText n), .bool (polOk n)]) ∧ Below w.heap.size w w' := by
  by_cases hn : 1 ≤ n ∧ n ≤ 7
  · have h1 := l1In_yes n 1 7 w hn.1 hn.2
    rw [polText, if_pos hn, polOk, decide_eq_true hn]
    have hc : n = 1 ∨ n = 2 ∨ n = 3 ∨ n = 4 ∨ n = 5 ∨ n = 6 ∨ n = 7 := by omega
    clear hn
    rcases hc with rfl | rfl | rfl | rfl | rfl | rfl | rfl
    all_goals
      go_enter Tryd.func35, Tryd.ntmps35
      go_wp2_with (first
        | (go_at_call 39; refine h1.mono ?_; rintro e w1 ⟨rfl, rfl⟩)
        | go_in)
      go_ret2
      exact ⟨rfl, (by repeat (first | exact Below.refl _ _ | (refine below_drewN ?_ _) | (refine Below.drew ?_) | (refine Below.alloc ?_ (by first | exact Nat.le_refl _ | (simp; done) | (simp; omega) | omega) _) | (refine Below.setCell ?_ (by first | exact Nat.le_refl _ | (simp; done) | (simp; omega) | omega) _) | (refine Below.trans ?_ (Below.mono (by assumption) (by first | exact Nat.le_refl _ | (simp; done) | (simp; omega) | omega)))))⟩
  · have h1 := l1In_no n 1 7 w hn
    rw [polText, if_neg hn, polOk, decide_eq_false hn]
    clear hn
    go_enter Tryd.func35, Tryd.ntmps35
    go_wp2_with (go_at_call 39; refine h1.mono ?_; rintro e w1 ⟨rfl, rfl⟩)
    go_ret2
    exact ⟨rfl, Below.refl _ _⟩

theorem polRow_cells (w : World) : ∀ j, j < 7 → (w.alloc (.cells (polNames.map Value.string).toArray 9)).cell? ⟨w.heap.size, j, none⟩ = some (.string (polNames.getD j ByteArray.empty)) := by
  intro j hj
  have hc : j = 0 ∨ j = 1 ∨ j = 2 ∨ j = 3 ∨ j = 4 ∨ j = 5 ∨ j = 6 := by omega
  rcases hc with rfl | rfl | rfl | rfl | rfl | rfl | rfl <;> simp [polNames]
set_option maxHeartbeats 1600000 in
theorem iPolicyName_any (n m : Int) (w : World) (hm : w.cell? ⟨0, 0, none⟩ = some (.int .i64 m)) :
    Calls Tryd.prog 36 #[.int .i64 n] w fun e w' => e = .returned (.tuple #[.string (polText n), .bool (polOk n)]) ∧ Below w.heap.size w w' := by
  by_cases hn : 1 ≤ n ∧ n ≤ 7
  · have h1 := within_yes n 1 7 w hn.1 hn.2
    have h2 := policyNames_any m w hm
    rw [polText, if_pos hn, polOk, decide_eq_true hn]
    have hc := polRow_cells w (n - 1).toNat (by omega)
    have hb : Below w.heap.size w (w.alloc (.cells (polNames.map Value.string).toArray 9)) := (by repeat (first | exact Below.refl _ _ | (refine below_drewN ?_ _) | (refine Below.drew ?_) | (refine Below.alloc ?_ (by first | exact Nat.le_refl _ | (simp; done) | (simp; omega) | omega) _) | (refine Below.setCell ?_ (by first | exact Nat.le_refl _ | (simp; done) | (simp; omega) | omega) _) | (refine Below.trans ?_ (Below.mono (by assumption) (by first | exact Nat.le_refl _ | (simp; done) | (simp; omega) | omega)))))
    generalize w.alloc (.cells (polNames.map Value.string).toArray 9) = W1 at h2 hc hb
    generalize polNames.getD (n - 1).toNat ByteArray.empty = t at hc ⊢
    obtain ⟨k, rfl⟩ : ∃ k : Nat, n = (k : Int) + 1 := ⟨(n - 1).toNat, by omega⟩
    have hk : k < 7 := by omega
    have e1 : ((k : Int) + 1 - 1).toNat = k := by omega
    rw [e1] at hc
    clear e1 hm hn
    go_enter Tryd.func36, Tryd.ntmps36
    go_wp2_with (first
      | (go_at_call 41; refine h1.mono ?_; rintro e w1 ⟨rfl, rfl⟩)
      | (go_at_call 65; refine h2.mono ?_; rintro e w1 ⟨rfl, rfl⟩)
      | go_in)
    go_ret2
    exact ⟨rfl, hb⟩
  · have h1 := within_no n 1 7 w hn
    rw [polText, if_neg hn, polOk, decide_eq_false hn]
    clear hn hm
    go_enter Tryd.func36, Tryd.ntmps36
    go_wp2_with (first
      | (go_at_call 41; refine h1.mono ?_; rintro e w1 ⟨rfl, rfl⟩)
      | go_in)
    go_ret2
    exact ⟨rfl, Below.refl _ _⟩
end Go.Proofs.YtlickpalbfhjoaaDoor
