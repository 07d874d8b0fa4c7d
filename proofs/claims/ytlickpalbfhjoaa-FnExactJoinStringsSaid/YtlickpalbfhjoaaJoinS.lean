/- JoinStrings by the reference and by the program: both hand back the texts joined; for rows of at most 2^20 texts and bytes. -/
import Derived.Test.YtlickpalbfhjoaaStrIn
import Derived.Test.YtlickpalbfhjoaaStand
import Derived.Test.YtlickpalbfhjoaaShelf
import Derived.Lib.Join
import Derived.Lib.IndexAny
namespace Go.Proofs.Ytlickpalbfhjoaa
open Go.RowKit

/-- The first k texts, joined. -/
def joinTo (xs : List ByteArray) (c : ByteArray) : Nat → ByteArray
  | 0 => ByteArray.empty
  | k + 1 => (if k = 0 then ByteArray.empty else joinTo xs c k ++ c) ++ xs.getD k ByteArray.empty
/-- No text of the row has the byte. -/
def freeOf (xs : List ByteArray) (b : UInt8) : Bool := xs.all fun x => !hasC x b
def joinOk (xs : List ByteArray) (c : ByteArray) : Bool := decide (c.size = 1) && decide (0 < xs.length) && freeOf xs (c.data.toList.getD 0 0) && decide (sumLen xs + (xs.length - 1) ≤ 4000)
def joinText (xs : List ByteArray) (c : ByteArray) : ByteArray := if joinOk xs c = true then joinTo xs c xs.length else ByteArray.empty
theorem joinTo_one (xs : List ByteArray) (c : ByteArray) : joinTo xs c 1 = xs.getD 0 ByteArray.empty := by
  simp [joinTo]
theorem joinTo_more (xs : List ByteArray) (c : ByteArray) (k : Nat) (h : 0 < k) : joinTo xs c (k + 1) = joinTo xs c k ++ c ++ xs.getD k ByteArray.empty := by
  rw [joinTo, if_neg (by omega)]
theorem joinTo_size (xs : List ByteArray) (c : ByteArray) (hc : c.size = 1) : ∀ k, k ≤ xs.length → (joinTo xs c k).size = sumLen (xs.take k) + (k - 1)
  | 0, _ => by simp [joinTo, sumLen]
  | k + 1, h => by
    rw [sumLen_snoc xs k (by omega)]
    by_cases h0 : k = 0
    · subst h0
      rw [joinTo_one]
      simp [sumLen]
    · rw [joinTo_more xs c k (by omega), ByteArray.size_append, ByteArray.size_append, joinTo_size xs c hc k (by omega), hc]
      omega
theorem bytes_appJ (a b : ByteArray) : (a ++ b).data.toList = a.data.toList ++ b.data.toList := by
  rw [ByteArray.data_append]; simp
theorem joinTo_bytes (x : ByteArray) (r : List ByteArray) (c : ByteArray) : ∀ k, k ≤ r.length → (joinTo (x :: r) c (k + 1)).data.toList = x.data.toList ++ (((r.take k).map fun y => c.data.toList ++ y.data.toList)).flatten
  | 0, _ => by rw [joinTo_one]; simp
  | k + 1, h => by
    have ih := joinTo_bytes x r c k (by omega)
    have e : (x :: r).getD (k + 1) ByteArray.empty = r[k] := by simp [List.getD_eq_getElem?_getD, List.getElem?_eq_getElem (show k < r.length by omega)]
    rw [joinTo_more _ _ _ (by omega), bytes_appJ, bytes_appJ, ih, e, List.take_succ_eq_append_getElem (by omega)]
    simp only [List.map_append, List.map_cons, List.map_nil, List.flatten_append, List.flatten_cons, List.flatten_nil, List.append_nil, List.append_assoc]
theorem join_joinTo (xs : List ByteArray) (c : ByteArray) (h : 0 < xs.length) : Lib.join (xs.map (·.data.toList)) c.data.toList = (joinTo xs c xs.length).data.toList := by
  cases xs with
  | nil => simp at h
  | cons x r =>
    rw [show (x :: r).length = r.length + 1 by simp, joinTo_bytes x r c r.length (Nat.le_refl _), List.take_length]
    simp only [List.map_cons]
    rw [Lib.join_cons]
    unfold Lib.joinTail
    congr 2
    simp
theorem join_no {xs : List ByteArray} {c : ByteArray} (h : joinOk xs c = false) : joinText xs c = ByteArray.empty := by unfold joinText; rw [h]; rfl
theorem not_sep {xs : List ByteArray} {c : ByteArray} (h : ¬ c.size = 1) : joinOk xs c = false := by unfold joinOk; simp [h]
theorem not_some {xs : List ByteArray} {c : ByteArray} (h : xs.length = 0) : joinOk xs c = false := by unfold joinOk; simp [h]
theorem not_free {xs : List ByteArray} {c : ByteArray} {k : Nat} {b : UInt8} (hb : c.data.toList.getD 0 0 = b) (hk : k < xs.length) (h : hasC (xs.getD k ByteArray.empty) b = true) : joinOk xs c = false := by
  have : freeOf xs b = false := by
    unfold freeOf
    rw [List.all_eq_false]
    refine ⟨xs[k], List.getElem_mem hk, ?_⟩
    rw [List.getD_eq_getElem?_getD, List.getElem?_eq_getElem hk] at h
    simpa using h
  unfold joinOk; rw [hb, this]; simp
theorem not_short {xs : List ByteArray} {c : ByteArray} (h : 4000 < sumLen xs + (xs.length - 1)) : joinOk xs c = false := by
  unfold joinOk
  rw [decide_eq_false (show ¬ sumLen xs + (xs.length - 1) ≤ 4000 by omega), Bool.and_false]
theorem yes_join {xs : List ByteArray} {c : ByteArray} {b : UInt8} (hb : c.data.toList.getD 0 0 = b) (hc : c.size = 1) (hn : 0 < xs.length) (hs : sumLen xs + (xs.length - 1) ≤ 4000)
    (hf : ∀ k, k < xs.length → hasC (xs.getD k ByteArray.empty) b = false) : joinOk xs c = true := by
  have : freeOf xs b = true := by
    unfold freeOf
    rw [List.all_eq_true]
    intro x hx
    obtain ⟨k, hk, rfl⟩ := List.getElem_of_mem hx
    have := hf k hk
    rw [List.getD_eq_getElem?_getD, List.getElem?_eq_getElem hk] at this
    simpa using this
  unfold joinOk
  rw [hb, this]
  simp [hc, hn, hs]
theorem byte0 (s : ByteArray) (h : 0 < s.size) : s.data.toList.getD 0 0 = s[0] := by
  rw [List.getD_eq_getElem?_getD, List.getElem?_eq_getElem (by simpa using h)]
  rfl
/-- What both functions return. -/
def RetJ (w : World) (xs : List ByteArray) (c : ByteArray) (e : Ending) (w' : World) : Prop :=
  e = .returned (.tuple #[.string (joinText xs c), .bool (joinOk xs c)]) ∧ Below w.heap.size w w'
theorem RetJ.no {w w' : World} {xs : List ByteArray} {c : ByteArray} (h : joinOk xs c = false) (hb : Below w.heap.size w w') : RetJ w xs c (.returned (.tuple #[.string ByteArray.empty, .bool false])) w' := by
  unfold RetJ; rw [join_no h, h]; exact ⟨rfl, hb⟩
theorem RetJ.yes {w w' : World} {xs : List ByteArray} {c u : ByteArray} (h : joinOk xs c = true) (hu : u = joinTo xs c xs.length) (hb : Below w.heap.size w w') : RetJ w xs c (.returned (.tuple #[.string u, .bool true])) w' := by
  unfold RetJ joinText; rw [h, if_pos rfl, hu]; exact ⟨rfl, hb⟩
end Go.Proofs.Ytlickpalbfhjoaa
