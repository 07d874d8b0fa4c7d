/- The text ahead of a byte: the head of the parts, and what strings.Cut hands back, are the same; plain lists, no program. -/
import Derived.Test.YtlickpalbfhjoaaDoorSplit
import Derived.Test.YtlickpalbfhjoaaDoorSeal
import Derived.Lib.IndexBytes
import Derived.Lib.IndexMore
namespace Go.Proofs.YtlickpalbfhjoaaDoor
open Go.RowKit

/-- What stands ahead of the first c. -/
def ahead (s : ByteArray) (c : UInt8) : ByteArray := ⟨(s.data.toList.takeWhile (· != c)).toArray⟩
theorem takeWhile_index (c : UInt8) : ∀ l : List UInt8, (if 0 ≤ Lib.indexByte l c then l.take (Lib.indexByte l c).toNat else l) = l.takeWhile (· != c)
  | [] => by simp
  | b :: l => by
    have ih := takeWhile_index c l
    have hg := Lib.indexByte_ge l c
    unfold Lib.indexByte
    by_cases hb : b = c
    · subst hb; simp
    · have hb' : (b == c) = false := by simpa using hb
      have hb2 : (b != c) = true := by simpa using hb
      rw [hb', List.takeWhile_cons, hb2]
      simp only [Bool.false_eq_true, if_false, if_true]
      by_cases hi : Lib.indexByte l c = -1
      · rw [hi] at ih
        simp [hi] at ih ⊢
        exact ih
      · have h0 : 0 ≤ Lib.indexByte l c := by omega
        have h1 : (Lib.indexByte l c == -1) = false := by simpa using hi
        rw [h1]
        simp only [Bool.false_eq_true, if_false]
        rw [if_pos h0] at ih
        rw [if_pos (by omega), show (Lib.indexByte l c + 1).toNat = (Lib.indexByte l c).toNat + 1 by omega, List.take_succ_cons, ih]
theorem cut_ahead (s : ByteArray) (c : UInt8) : (⟨(Lib.cut s.data.toList [c]).1.toArray⟩ : ByteArray) = ahead s c := by
  unfold Lib.cut ahead
  rw [Lib.index_one]
  rw [← takeWhile_index c s.data.toList]
  split <;> rfl
theorem takeWhile_take (c : UInt8) : ∀ (l : List UInt8) (k : Nat), c ∉ l.take k → l[k]? = some c → l.takeWhile (· != c) = l.take k
  | [], k, _, h => by simp at h
  | b :: l, 0, _, h => by simp at h; subst h; simp
  | b :: l, k + 1, h, h2 => by
    simp at h h2
    have hb : (b != c) = true := by simpa using fun e => h.1 e.symm
    rw [List.takeWhile_cons, hb, if_pos rfl, List.take_succ_cons, takeWhile_take c l k h.2 h2]
theorem takeWhile_all (c : UInt8) : ∀ l : List UInt8, c ∉ l → l.takeWhile (· != c) = l
  | [], _ => rfl
  | b :: l, h => by
    simp at h
    have hb : (b != c) = true := by simpa using fun e => h.1 e.symm
    rw [List.takeWhile_cons, hb, if_pos rfl, takeWhile_all c l h.2]
theorem splitL_pos (s : ByteArray) (c : UInt8) : 0 < (splitL s c).length := by simp [splitL]
theorem ahead_no (s : ByteArray) (c : UInt8) : hasC (ahead s c) c = false := by
  unfold hasC ahead
  simp only [List.contains_eq_mem, decide_eq_false_iff_not]
  intro h
  have := List.all_takeWhile (p := (· != c)) (l := s.data.toList)
  rw [List.all_eq_true] at this
  have := this c (by simpa using h)
  simp at this
theorem ahead_size (s : ByteArray) (c : UInt8) : (ahead s c).size ≤ s.size := by
  have h1 : (ahead s c).size = (s.data.toList.takeWhile (· != c)).length := by rfl
  have h2 : s.size = s.data.toList.length := by simp
  rw [h1, h2]
  exact (List.takeWhile_sublist _).length_le
theorem extract_zero (s : ByteArray) (k : Nat) : s.extract 0 k = ⟨(s.data.toList.take k).toArray⟩ := by
  apply ByteArray.ext
  rw [ByteArray.data_extract]
  apply Array.ext'
  simp
theorem pieces_head (s : ByteArray) (c : UInt8) : ∀ k, k ≤ s.size → (c ∉ s.data.toList.take k ∧ pieces s c k = ([], 0)) ∨ (pieces s c k).1.head? = some (ahead s c)
  | 0, _ => .inl ⟨by simp, rfl⟩
  | k + 1, hk => by
    have hat := byte_at s k (by omega)
    rcases pieces_head s c k (by omega) with ⟨h1, h2⟩ | h
    · unfold pieces
      by_cases he : s.data.toList[k]? = some c
      · rw [if_pos he, h2]
        right
        simp only [List.nil_append, List.head?_cons, Option.some.injEq]
        rw [extract_zero, ahead, takeWhile_take c _ k h1 he]
      · rw [if_neg he]
        left
        refine ⟨?_, h2⟩
        rw [List.take_add_one]
        simp only [List.mem_append, not_or]
        refine ⟨h1, ?_⟩
        intro h3
        simp only [Option.mem_toList] at h3
        exact he h3
    · right
      unfold pieces
      split
      · rw [List.head?_append, h]; rfl
      · exact h
theorem split_head (s : ByteArray) (c : UInt8) : (splitL s c).getD 0 ByteArray.empty = ahead s c := by
  unfold splitL
  rcases pieces_head s c s.size (Nat.le_refl _) with ⟨h1, h2⟩ | h
  · rw [h2]
    rw [List.take_of_length_le (by simp)] at h1
    simp only [List.nil_append, List.getD_cons_zero]
    rw [extract_zero, ahead, takeWhile_all c _ h1, List.take_of_length_le (by simp)]
  · cases hp : (pieces s c s.size).1 with
    | nil => rw [hp] at h; simp at h
    | cons a r =>
      rw [hp] at h
      simp at h
      simp [h]
end Go.Proofs.YtlickpalbfhjoaaDoor
