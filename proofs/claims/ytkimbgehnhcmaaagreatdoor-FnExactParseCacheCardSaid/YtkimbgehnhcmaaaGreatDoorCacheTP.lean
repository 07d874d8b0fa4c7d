/- The text of a cache: what both functions write; plain, no program. -/
import Derived.Test.YtkimbgehnhcmaaaGreatDoorCacheG
import Derived.Test.YtkimbgehnhcmaaaGreatDoorPolicy
import Derived.Test.YtkimbgehnhcmaaaGreatDoorNum
namespace Go.Proofs.YtkimbgehnhcmaaaGreatDoor
open Go.RowKit

def numC (n : Int) : ByteArray := ⟨(Lib.itoa n).toArray⟩
theorem numC_size (n : Int) (h : -9223372036854775808 ≤ n ∧ n ≤ 9223372036854775807) : (numC n).size ≤ 21 := by
  have h1 : (numC n).size = (Lib.itoa n).length := by rfl
  rw [h1]
  exact Lib.itoa_length_le n h.1 h.2
/-- The text ahead of the pages. -/
def ctBase (p s : Int) : ByteArray := polText p ++ ⟨#[47]⟩ ++ numC s
def ctHead (p s h : Int) : ByteArray := if p = 6 then ctBase p s ++ ⟨#[64]⟩ ++ numC h else ctBase p s
/-- The text with the first k pages. -/
def ctTo (p s h : Int) (xs ys : List Int) : Nat → ByteArray
  | 0 => ctHead p s h
  | k + 1 => if p = 5 ∨ p = 6 then ctTo p s h xs ys k ++ ⟨#[32]⟩ ++ numC (xs.getD k 0) ++ ⟨#[58]⟩ ++ numC (ys.getD k 0) else ctTo p s h xs ys k ++ ⟨#[32]⟩ ++ numC (xs.getD k 0)
/-- What a valid cache's numbers are. -/
structure Fine (p s : Int) (xs ys : List Int) (h : Int) : Prop where
  pp : 1 ≤ p ∧ p ≤ 7
  ss : 1 ≤ s ∧ s ≤ 6
  len : xs.length ≤ 6
  pages : ∀ j, j < xs.length → 0 ≤ xs.getD j 0 ∧ xs.getD j 0 ≤ 7
  marked : p = 5 ∨ p = 6 → ys.length = xs.length ∧ ∀ j, j < ys.length → 0 ≤ ys.getD j 0 ∧ ys.getD j 0 ≤ 60
  hand : 0 ≤ h ∧ h ≤ 5
theorem getD_memC {xs : List Int} {k : Nat} (h : k < xs.length) : xs.getD k 0 ∈ xs := by
  rw [List.getD_eq_getElem?_getD, List.getElem?_eq_getElem h]
  exact List.getElem_mem h
theorem inAll_mem {lo hi : Int} {ys : List Int} (h : inAll lo hi ys = true) {j : Nat} (hj : j < ys.length) : lo ≤ ys.getD j 0 ∧ ys.getD j 0 ≤ hi := by
  unfold inAll at h
  rw [List.all_eq_true] at h
  simpa using h _ (getD_memC hj)
theorem fine_of {n p s h : Int} {xs ys : List Int} (c : cacheB n p s xs ys h = true) : Fine p s xs ys h := by
  unfold cacheB at c
  simp only [Bool.and_eq_true, decide_eq_true_eq] at c
  obtain ⟨c1, c2, c3, c4, _, c6, c7⟩ := c
  refine ⟨c2.1, c2.2, by omega, fun j hj => ?_, fun hp => ?_, ?_⟩
  · unfold belowB at c4
    rw [List.all_eq_true] at c4
    have := c4 _ (getD_memC hj)
    simp only [decide_eq_true_eq] at this
    omega
  · unfold marksB at c6
    by_cases h5 : p = 5
    · rw [if_pos h5] at c6
      simp only [Bool.and_eq_true, decide_eq_true_eq] at c6
      exact ⟨c6.1, fun j hj => by have := inAll_mem c6.2 hj; omega⟩
    · rw [if_neg h5, if_pos (by omega)] at c6
      simp only [Bool.and_eq_true, decide_eq_true_eq] at c6
      exact ⟨c6.1, fun j hj => by have := inAll_mem c6.2 hj; omega⟩
  · unfold handB at c7
    split at c7
    · simp only [decide_eq_true_eq] at c7; omega
    · simp only [decide_eq_true_eq] at c7; omega
theorem polText_size (p : Int) (h : 1 ≤ p ∧ p ≤ 7) : (polText p).size ≤ 5 := by
  have hc : p = 1 ∨ p = 2 ∨ p = 3 ∨ p = 4 ∨ p = 5 ∨ p = 6 ∨ p = 7 := by omega
  rcases hc with rfl | rfl | rfl | rfl | rfl | rfl | rfl <;> decide
theorem ctBase_size {p s : Int} (hp : 1 ≤ p ∧ p ≤ 7) (hs : 1 ≤ s ∧ s ≤ 6) : (ctBase p s).size ≤ 30 := by
  have h1 := polText_size p hp
  have h2 := numC_size s (by omega)
  have h3 : (⟨#[47]⟩ : ByteArray).size = 1 := rfl
  unfold ctBase
  rw [ByteArray.size_append, ByteArray.size_append, h3]
  omega
theorem ctTo_size {p s h : Int} {xs ys : List Int} (f : Fine p s xs ys h) : ∀ k, k ≤ xs.length → (ctTo p s h xs ys k).size ≤ 60 + 50 * k
  | 0, _ => by
    have h1 := ctBase_size f.pp f.ss
    have h2 := numC_size h (by have := f.hand; omega)
    have h3 : (⟨#[64]⟩ : ByteArray).size = 1 := rfl
    unfold ctTo ctHead
    split
    · rw [ByteArray.size_append, ByteArray.size_append, h3]; omega
    · omega
  | k + 1, hk => by
    have ih := ctTo_size f k (by omega)
    have h2 := numC_size (xs.getD k 0) (by have := f.pages k (by omega); omega)
    have h3 : (⟨#[32]⟩ : ByteArray).size = 1 := rfl
    have h4 : (⟨#[58]⟩ : ByteArray).size = 1 := rfl
    unfold ctTo
    split
    · rename_i hp
      have hm := f.marked hp
      have h5 := numC_size (ys.getD k 0) (by have := hm.2 k (by omega); omega)
      rw [ByteArray.size_append, ByteArray.size_append, ByteArray.size_append, ByteArray.size_append, h3, h4]
      omega
    · rw [ByteArray.size_append, ByteArray.size_append, h3]
      omega
def ctText (n p s : Int) (xs ys : List Int) (h : Int) : ByteArray := if cacheB n p s xs ys h = true then ctTo p s h xs ys xs.length else ByteArray.empty
end Go.Proofs.YtkimbgehnhcmaaaGreatDoor
