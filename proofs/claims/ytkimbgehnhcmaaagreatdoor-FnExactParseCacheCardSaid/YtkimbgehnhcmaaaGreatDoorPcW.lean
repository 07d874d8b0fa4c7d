/- Texts in parts: the parts between spaces, and the parts ahead of and behind a byte; plain lists, no program. -/
import Derived.Test.YtkimbgehnhcmaaaGreatDoorSplit
import Derived.Test.YtkimbgehnhcmaaaGreatDoorParseP
import Derived.Lib.IndexBytes
import Derived.Lib.IndexMore
import Derived.Lib.Join
namespace Go.Proofs.YtkimbgehnhcmaaaGreatDoor
open Go.RowKit

/-- How many bytes stand ahead of the first c. -/
def posC (l : List UInt8) (c : UInt8) : Nat := (l.takeWhile (· != c)).length
theorem posC_le (l : List UInt8) (c : UInt8) : posC l c ≤ l.length := (List.takeWhile_sublist _).length_le
theorem index_pos (c : UInt8) : ∀ l : List UInt8, Lib.indexByte l c = if posC l c < l.length then (posC l c : Int) else -1
  | [] => rfl
  | b :: l => by
    have ih := index_pos c l
    unfold Lib.indexByte posC
    by_cases hb : b = c
    · subst hb; simp
    · have hb' : (b == c) = false := by simpa using hb
      have hb2 : (b != c) = true := by simpa using hb
      rw [hb', List.takeWhile_cons, hb2]
      simp only [Bool.false_eq_true, if_false, if_true, List.length_cons]
      unfold posC at ih
      generalize (List.takeWhile (fun x => x != c) l).length = q at ih ⊢
      by_cases hp : q < l.length
      · rw [if_pos hp] at ih
        rw [ih, if_pos (show q + 1 < l.length + 1 by omega)]
        have : ((((q : Nat) : Int)) == -1) = false := by first | (simp; done) | (simp; omega)
        rw [this]
        simp
      · rw [if_neg hp] at ih
        rw [ih, if_neg (show ¬ q + 1 < l.length + 1 by omega)]
        rfl
/-- What stands ahead of the first c, what stands behind it, and whether there is one. -/
def cutA (c : UInt8) (l : List UInt8) : List UInt8 := l.take (posC l c)
def cutB (c : UInt8) (l : List UInt8) : List UInt8 := if posC l c < l.length then l.drop (posC l c + 1) else []
def cutF (c : UInt8) (l : List UInt8) : Bool := decide (posC l c < l.length)
theorem cut_pos (l : List UInt8) (c : UInt8) : Lib.cut l [c] = (cutA c l, cutB c l, cutF c l) := by
  have hle := posC_le l c
  unfold Lib.cut cutA cutB cutF
  rw [Lib.index_one, index_pos]
  by_cases h : posC l c < l.length
  · rw [if_pos h, if_pos (by omega), if_pos h, decide_eq_true h]
    simp
  · rw [if_neg h, if_neg (by omega), if_neg h, decide_eq_false h, List.take_of_length_le (by omega)]
theorem takeWhile_all (c : UInt8) : ∀ l : List UInt8, c ∉ l → l.takeWhile (· != c) = l
  | [], _ => rfl
  | b :: l, h => by
    simp at h
    have hb : (b != c) = true := by simpa using fun e => h.1 e.symm
    rw [List.takeWhile_cons, hb, if_pos rfl, takeWhile_all c l h.2]
theorem takeWhile_at (c : UInt8) (r : List UInt8) : ∀ l : List UInt8, c ∉ l → (l ++ c :: r).takeWhile (· != c) = l
  | [], _ => by simp
  | b :: l, h => by
    simp at h
    have hb : (b != c) = true := by simpa using fun e => h.1 e.symm
    rw [List.cons_append, List.takeWhile_cons, hb, if_pos rfl, takeWhile_at c r l h.2]
theorem posC_none {l : List UInt8} {c : UInt8} (h : c ∉ l) : posC l c = l.length := by
  unfold posC
  rw [takeWhile_all c l h]
theorem posC_at {a b : List UInt8} {c : UInt8} (h : c ∉ a) : posC (a ++ c :: b) c = a.length := by
  unfold posC
  rw [takeWhile_at c b a h]
theorem cut_no {c : UInt8} {l : List UInt8} (h : c ∉ l) : cutA c l = l ∧ cutB c l = [] ∧ cutF c l = false := by
  unfold cutA cutB cutF
  rw [posC_none h]
  exact ⟨List.take_length, if_neg (Nat.lt_irrefl _), decide_eq_false (Nat.lt_irrefl _)⟩
theorem cut_at {c : UInt8} {a b : List UInt8} (h : c ∉ a) : cutA c (a ++ c :: b) = a ∧ cutB c (a ++ c :: b) = b ∧ cutF c (a ++ c :: b) = true := by
  unfold cutA cutB cutF
  rw [posC_at h]
  have hl : a.length < (a ++ c :: b).length := by simp
  refine ⟨List.take_left, ?_, decide_eq_true hl⟩
  rw [if_pos hl, show a ++ c :: b = (a ++ [c]) ++ b by simp, show a.length + 1 = (a ++ [c]).length by simp, List.drop_left]
theorem cutA_len (c : UInt8) (l : List UInt8) : (cutA c l).length ≤ l.length := by unfold cutA; rw [List.length_take]; omega
theorem cutB_len (c : UInt8) (l : List UInt8) : (cutB c l).length ≤ l.length := by
  unfold cutB
  split
  · rw [List.length_drop]; omega
  · simp

/-- The parts, joined, are the text. -/
theorem pieces_join (s : ByteArray) (c : UInt8) : ∀ k, k ≤ s.size → (((pieces s c k).1.map fun x => x.data.toList ++ [c]).flatten) = s.data.toList.take (pieces s c k).2
  | 0, _ => by simp [pieces]
  | k + 1, hk => by
    have ih := pieces_join s c k (by omega)
    have hle := (pieces_le s c k).1
    unfold pieces
    by_cases he : s.data.toList[k]? = some c
    · rw [if_pos he]
      simp only [List.map_append, List.map_cons, List.map_nil, List.flatten_append, List.flatten_cons, List.flatten_nil, List.append_nil]
      rw [ih, List.take_add_one, he]
      have e1 : (s.extract (pieces s c k).2 k).data.toList = (s.data.toList.take k).drop (pieces s c k).2 := by
        rw [ByteArray.data_extract, Array.toList_extract, List.extract_eq_take_drop, List.drop_take]
      rw [e1, ← List.append_assoc]
      congr 1
      rw [show s.data.toList.take (pieces s c k).2 = (s.data.toList.take k).take (pieces s c k).2 by rw [List.take_take, Nat.min_eq_left hle], List.take_append_drop]
    · rw [if_neg he]
      exact ih
theorem join_last (sep : List UInt8) (x : List UInt8) : ∀ P : List (List UInt8), Lib.join (P ++ [x]) sep = (P.map fun y => y ++ sep).flatten ++ x
  | [] => by simp [Lib.join_one]
  | y :: P => by
    have ih := join_last sep x P
    rw [List.cons_append, Lib.join_cons]
    simp only [List.map_cons, List.flatten_cons, List.append_assoc]
    congr 1
    cases P with
    | nil => simp [Lib.joinTail]
    | cons z P =>
      rw [List.cons_append, Lib.join_cons] at ih
      unfold Lib.joinTail at ih ⊢
      simp only [List.map_cons, List.flatten_cons, List.cons_append, List.append_assoc] at ih ⊢
      rw [ih]
theorem join_snoc (sep x y : List UInt8) (P : List (List UInt8)) : Lib.join (y :: P ++ [x]) sep = Lib.join (y :: P) sep ++ (sep ++ x) := by
  rw [List.cons_append, Lib.join_cons, Lib.join_cons]
  simp [Lib.joinTail, List.append_assoc]
theorem last_part (s : ByteArray) (c : UInt8) : (s.extract (pieces s c s.size).2 s.size).data.toList = s.data.toList.drop (pieces s c s.size).2 := by
  rw [ByteArray.data_extract, Array.toList_extract, List.extract_eq_take_drop]
  rw [List.take_of_length_le (by simp)]
theorem split_join (s : ByteArray) (c : UInt8) : Lib.join ((splitL s c).map (·.data.toList)) [c] = s.data.toList := by
  have h1 := pieces_join s c s.size (Nat.le_refl _)
  unfold splitL
  rw [List.map_append, List.map_cons, List.map_nil, join_last, List.map_map, last_part]
  have e2 : ((fun y : List UInt8 => y ++ [c]) ∘ fun x : ByteArray => x.data.toList) = fun x : ByteArray => x.data.toList ++ [c] := rfl
  rw [e2, h1, List.take_append_drop]
/-- No part holds the byte. -/
theorem pieces_no (s : ByteArray) (c : UInt8) : ∀ k, k ≤ s.size → (∀ x ∈ (pieces s c k).1, c ∉ x.data.toList) ∧ c ∉ (s.data.toList.take k).drop (pieces s c k).2
  | 0, _ => by simp [pieces]
  | k + 1, hk => by
    have ih := pieces_no s c k (by omega)
    have hle := (pieces_le s c k).1
    unfold pieces
    by_cases he : s.data.toList[k]? = some c
    · rw [if_pos he]
      refine ⟨fun x hx => ?_, ?_⟩
      · rw [List.mem_append, List.mem_singleton] at hx
        rcases hx with hx | rfl
        · exact ih.1 x hx
        · rw [ByteArray.data_extract, Array.toList_extract, List.extract_eq_take_drop, ← List.drop_take]
          exact ih.2
      · rw [List.drop_of_length_le (by simp; omega)]
        simp
    · rw [if_neg he]
      refine ⟨ih.1, ?_⟩
      rw [List.take_add_one, List.drop_append_of_le_length (by rw [List.length_take]; simp; omega)]
      rw [List.mem_append]
      rintro (h | h)
      · exact ih.2 h
      · simp only [Option.mem_toList] at h
        exact he h
theorem split_no (s : ByteArray) (c : UInt8) : ∀ x ∈ splitL s c, c ∉ x.data.toList := by
  have h := pieces_no s c s.size (Nat.le_refl _)
  intro x hx
  unfold splitL at hx
  rw [List.mem_append, List.mem_singleton] at hx
  rcases hx with hx | rfl
  · exact h.1 x hx
  · rw [last_part]
    have h2 := h.2
    rwa [List.take_of_length_le (by simp)] at h2
theorem splitL_pos (s : ByteArray) (c : UInt8) : 0 < (splitL s c).length := by simp [splitL]
theorem stop_tail (c : UInt8) (P : List (List UInt8)) : Lib.joinTail [c] P = [] ∨ ∃ r, Lib.joinTail [c] P = c :: r := by
  cases P with
  | nil => exact .inl rfl
  | cons z P => exact .inr ⟨z ++ Lib.joinTail [c] P, by simp [Lib.joinTail]⟩
theorem takeWhile_tail {c : UInt8} {x t : List UInt8} (h : c ∉ x) (ht : t = [] ∨ ∃ r, t = c :: r) : (x ++ t).takeWhile (· != c) = x := by
  rcases ht with rfl | ⟨r, rfl⟩
  · rw [List.append_nil, takeWhile_all c x h]
  · exact takeWhile_at c r x h
theorem tail_inj (c : UInt8) : ∀ P Q : List (List UInt8), (∀ x ∈ P, c ∉ x) → (∀ x ∈ Q, c ∉ x) → Lib.joinTail [c] P = Lib.joinTail [c] Q → P = Q
  | [], [], _, _, _ => rfl
  | [], z :: Q, _, _, h => by simp [Lib.joinTail] at h
  | z :: P, [], _, _, h => by simp [Lib.joinTail] at h
  | y :: P, z :: Q, hP, hQ, h => by
    have e1 : ∀ (u : List UInt8) (R : List (List UInt8)), Lib.joinTail [c] (u :: R) = c :: (u ++ Lib.joinTail [c] R) := fun u R => by simp [Lib.joinTail]
    rw [e1, e1] at h
    injection h with _ h
    have h1 := takeWhile_tail (hP y (List.mem_cons_self ..)) (stop_tail c P)
    have h2 := takeWhile_tail (hQ z (List.mem_cons_self ..)) (stop_tail c Q)
    rw [h, h2] at h1
    subst h1
    rw [tail_inj c P Q (fun x hx => hP x (List.mem_cons_of_mem _ hx)) (fun x hx => hQ x (List.mem_cons_of_mem _ hx)) (List.append_cancel_left h)]
theorem join_inj (c : UInt8) : ∀ P Q : List (List UInt8), P ≠ [] → Q ≠ [] → (∀ x ∈ P, c ∉ x) → (∀ x ∈ Q, c ∉ x) → Lib.join P [c] = Lib.join Q [c] → P = Q
  | [], _, h, _, _, _, _ => absurd rfl h
  | _, [], _, h, _, _, _ => absurd rfl h
  | y :: P, z :: Q, _, _, hP, hQ, h => by
    rw [Lib.join_cons, Lib.join_cons] at h
    have h1 := takeWhile_tail (hP y (List.mem_cons_self ..)) (stop_tail c P)
    have h2 := takeWhile_tail (hQ z (List.mem_cons_self ..)) (stop_tail c Q)
    rw [h, h2] at h1
    subst h1
    rw [tail_inj c P Q (fun x hx => hP x (List.mem_cons_of_mem _ hx)) (fun x hx => hQ x (List.mem_cons_of_mem _ hx)) (List.append_cancel_left h)]
/-- A text that is made of parts has these parts. -/
theorem split_words {s : ByteArray} {c : UInt8} {ws : List (List UInt8)} (hne : ws ≠ []) (hno : ∀ x ∈ ws, c ∉ x) (hj : Lib.join ws [c] = s.data.toList) : (splitL s c).map (·.data.toList) = ws := by
  refine join_inj c _ _ ?_ hne ?_ hno ((split_join s c).trans hj.symm)
  · have := splitL_pos s c
    intro h
    rw [List.map_eq_nil_iff] at h
    rw [h] at this
    cases this
  · intro x hx
    obtain ⟨y, hy, rfl⟩ := List.mem_map.1 hx
    exact split_no s c y hy

theorem digits_nob (b : UInt8) (hb : Lib.digitVal b = none) (u : Nat) : b ∉ Lib.decDigits u := by
  intro hm
  obtain ⟨k, hk, e⟩ := List.getElem_of_mem hm
  obtain ⟨d, hd⟩ := Lib.digit_of_decFrom _ 0 u (decFrom_digits u) k b (by rw [List.getElem?_eq_getElem hk, e])
  rw [hb] at hd
  cases hd
theorem itoa_nob (b : UInt8) (hb : Lib.digitVal b = none) (h45 : b ≠ 45) (n : Int) : b ∉ Lib.itoa n := by
  by_cases h : n < 0
  · rw [itoa_neg' h]
    have := digits_nob b hb n.natAbs
    simp [this, h45]
  · rw [itoa_pos' h]
    exact digits_nob b hb _
theorem implRead_itoa {n : Int} (h : -999999 ≤ n ∧ n ≤ 999999) : implRead (Lib.itoa n) = some n := by
  unfold implRead
  rw [Lib.atoiAll_short _ (by have := itoa_len h; omega), atoi_itoa]
  simp [Lib.NumEnd.ofOption]
theorem ext_bytes {a b : ByteArray} (h : a.data.toList = b.data.toList) : a = b := by
  apply ByteArray.ext
  exact Array.ext' h
end Go.Proofs.YtkimbgehnhcmaaaGreatDoor
