/- CountsOf: the reference and the program count the same; for slices of at most 2^20 numbers that can be read. -/
import Derived.Test.YtkimbgehnhcmaaaGreatDoorReqs
import Derived.StillTailTactics
import Derived.RegionTactic
namespace Go.Proofs.YtkimbgehnhcmaaaGreatDoor
open Go.RowKit

/-- How often each number below n is in a list. -/
def cnt (n : Nat) (xs : List Int) : List Int := (List.range n).map fun (j : Nat) => ((xs.filter fun x => x == (j : Int)).length : Int)
theorem cnt_len (n : Nat) (xs : List Int) : (cnt n xs).length = n := by simp [cnt]
theorem cnt_nil (n : Nat) : cnt n [] = List.replicate n 0 := by
  apply List.ext_getElem?
  intro j
  simp only [cnt, List.getElem?_map, List.getElem?_replicate]
  by_cases hj : j < n <;> simp [hj]
theorem cnt_getD (n : Nat) (xs : List Int) (j : Nat) (hj : j < n) : (cnt n xs).getD j 0 = ((xs.filter fun x => x == (j : Int)).length : Int) := by
  simp [cnt, List.getD_eq_getElem?_getD, hj]
theorem cnt_snoc (n : Nat) (xs : List Int) (p : Nat) (hp : p < n) : (cnt n xs).set p ((cnt n xs).getD p 0 + 1) = cnt n (xs ++ [(p : Int)]) := by
  apply List.ext_getElem?
  intro j
  rw [List.getElem?_set, cnt_len, cnt_getD n xs p hp]
  by_cases e : p = j
  · subst e
    simp [cnt, hp, List.filter_append]
  · simp only [if_neg e]
    by_cases hj : j < n
    · have hne : ¬ (p : Int) = (j : Int) := by omega
      simp [cnt, hj, List.filter_append, hne]
    · simp [cnt, hj]
theorem cnt_bd (n : Nat) (xs : List Int) (p : Nat) : 0 ≤ (cnt n xs).getD p 0 ∧ (cnt n xs).getD p 0 ≤ xs.length := by
  by_cases hp : p < n
  · rw [cnt_getD n xs p hp]
    have := List.length_filter_le (fun x => x == (p : Int)) xs
    omega
  · have : (cnt n xs).getD p 0 = 0 := by simp [List.getD_eq_getElem?_getD, cnt, hp]
    omega
theorem take_snocI (xs : List Int) (k : Nat) (hk : k < xs.length) : xs.take (k + 1) = xs.take k ++ [xs.getD k 0] := by
  rw [List.take_succ_eq_append_getElem hk]
  simp [List.getD_eq_getElem?_getD, List.getElem?_eq_getElem hk]
theorem belowB_get {q : Int} {xs : List Int} (h : belowB q xs = true) (k : Nat) (hk : k < xs.length) : 0 ≤ xs.getD k 0 ∧ xs.getD k 0 ≤ q - 1 := by
  unfold belowB at h
  rw [List.all_eq_true] at h
  have := h (xs[k]) (List.getElem_mem hk)
  rw [List.getD_eq_getElem?_getD, List.getElem?_eq_getElem hk]
  simpa using this
theorem reqB_parts {q : Int} {xs : List Int} (h : reqB q xs = true) : 1 ≤ q ∧ q ≤ 8 ∧ xs.length ≤ 60 ∧ belowB q xs = true := by
  unfold reqB at h
  simp at h
  exact ⟨h.1.1, h.1.2, h.2.1, h.2.2⟩

def countsOfV (q : Int) (xs : List Int) : List Int × Bool := if reqB q xs = true then (cnt q.toNat xs, true) else ([], false)
theorem countsOfV_len (q : Int) (xs : List Int) (_ : xs.length ≤ 1048576) : (countsOfV q xs).1.length ≤ 1048576 := by
  unfold countsOfV
  split
  · rename_i h
    have := reqB_parts h
    simp [cnt_len]
    omega
  · simp

end Go.Proofs.YtkimbgehnhcmaaaGreatDoor
