/- The names of the policies: the reference's table and the program's split text hold the same; no conditions (but that internal/bytealg.MaxLen holds some number). -/
import Derived.Test.YtkimbgehnhcmaaaGreatDoorBase
import Derived.Test.YtkimbgehnhcmaaaGreatDoorShelf
namespace Go.Proofs.YtkimbgehnhcmaaaGreatDoor
open Go.RowKit

/-- The seven names. -/
def polNames : List ByteArray := [⟨#[108, 114, 117]⟩, ⟨#[102, 105, 102, 111]⟩, ⟨#[108, 105, 102, 111]⟩, ⟨#[102, 108, 117, 115, 104]⟩, ⟨#[108, 102, 117]⟩, ⟨#[99, 108, 111, 99, 107]⟩, ⟨#[109, 114, 117]⟩]
def polConst : ByteArray := { data := #[108, 114, 117, 32, 102, 105, 102, 111, 32, 108, 105, 102, 111, 32, 102, 108, 117, 115, 104, 32, 108, 102, 117, 32, 99, 108, 111, 99, 107, 32, 109, 114, 117] }
theorem pol_count : Lib.countB polConst ⟨#[32]⟩ = 6 := by decide +kernel
theorem pol_split : Lib.splitB ⟨#[32]⟩ 0 6 polConst = polNames := by decide +kernel
theorem policyNames_any (m : Int) (w : World) (hm : w.cell? ⟨0, 0, none⟩ = some (.int .i64 m)) :
    Calls Tryz.prog 38 #[] w fun e w' => e = .returned (.slice (some ⟨w.heap.size, 0, none⟩) 7 7) ∧ w' = w.alloc (.cells (polNames.map Value.string).toArray 9) := by
  have h1 := Tryz.strings_Split polConst ⟨#[32]⟩ m w (by decide) hm (by decide)
  rw [pol_count, pol_split] at h1
  unfold polConst at h1
  clear hm
  generalize hn : (polNames.map Value.string).toArray = ns at h1 ⊢
  clear hn
  go_enter Tryz.func38, Tryz.ntmps38
  go_wp2_with (go_at_call 51; refine h1.mono ?_; rintro e w1 ⟨rfl, rfl⟩)
  go_ret
  exact ⟨rfl, rfl⟩
def polText (n : Int) : ByteArray := if 1 ≤ n ∧ n ≤ 7 then polNames.getD (n - 1).toNat ByteArray.empty else ByteArray.empty
def polOk (n : Int) : Bool := decide (1 ≤ n ∧ n ≤ 7)

theorem polRow_cells (w : World) : ∀ j, j < 7 → (w.alloc (.cells (polNames.map Value.string).toArray 9)).cell? ⟨w.heap.size, j, none⟩ = some (.string (polNames.getD j ByteArray.empty)) := by
  intro j hj
  have hc : j = 0 ∨ j = 1 ∨ j = 2 ∨ j = 3 ∨ j = 4 ∨ j = 5 ∨ j = 6 := by omega
  rcases hc with rfl | rfl | rfl | rfl | rfl | rfl | rfl <;> simp [polNames]
end Go.Proofs.YtkimbgehnhcmaaaGreatDoor
