/- The different numbers of a list in ascending order: by putting each to its place, and by sorting and striking repetitions. Plain Lean. -/
import Derived.Test.YtkimbgehnhcmaaaGreatDoorInts
import Derived.Lib.SlicesCompact
namespace Go.Proofs.YtkimbgehnhcmaaaGreatDoor
open Go.Lib
/-- How many numbers at a list's head are less than one. -/
def lowI (l : List Int) (n : Int) : Nat := (l.takeWhile fun x => decide (x < n)).length
def putL (l : List Int) (n : Int) : List Int := if lowI l n < l.length ∧ l.getD (lowI l n) 0 = n then l else l.take (lowI l n) ++ (n :: l.drop (lowI l n))
def riseL (xs : List Int) : List Int := xs.foldl putL []
def putR : List Int → Int → List Int
  | [], n => [n]
  | x :: r, n => if x < n then x :: putR r n else if x = n then x :: r else n :: x :: r
theorem lowI_cons (x : Int) (r : List Int) (n : Int) : lowI (x :: r) n = if x < n then lowI r n + 1 else 0 := by
  unfold lowI
  rw [List.takeWhile_cons]
  by_cases h : x < n <;> simp [h]
theorem lowI_le (l : List Int) (n : Int) : lowI l n ≤ l.length := by
  induction l with
  | nil => simp [lowI]
  | cons x r ih => rw [lowI_cons]; split <;> simp <;> omega
theorem putL_putR (l : List Int) (n : Int) : putL l n = putR l n := by
  induction l with
  | nil => simp [putL, putR, lowI]
  | cons x r ih =>
    unfold putL putR
    rw [lowI_cons]
    by_cases h : x < n
    · rw [if_pos h, if_pos h, ← ih]
      unfold putL
      by_cases h2 : lowI r n < r.length ∧ r.getD (lowI r n) 0 = n
      · rw [if_pos h2, if_pos (by simpa using h2)]
      · rw [if_neg h2, if_neg (by simpa using h2)]
        simp
    · rw [if_neg h, if_neg h]
      by_cases h2 : x = n
      · simp [h2]
      · simp [h2]
theorem lowI_before (l : List Int) (n : Int) (j : Nat) (h : j < lowI l n) : l.getD j 0 < n := by
  induction l generalizing j with
  | nil => simp [lowI] at h
  | cons x r ih =>
    rw [lowI_cons] at h
    by_cases hx : x < n
    · rw [if_pos hx] at h
      cases j with
      | zero => simpa using hx
      | succ j => simpa using ih j (by omega)
    · rw [if_neg hx] at h; omega
theorem lowI_at (l : List Int) (n : Int) (h : lowI l n < l.length) : ¬ l.getD (lowI l n) 0 < n := by
  induction l with
  | nil => simp at h
  | cons x r ih =>
    rw [lowI_cons] at h ⊢
    by_cases hx : x < n
    · rw [if_pos hx] at h ⊢
      simpa using ih (by simpa using h)
    · rw [if_neg hx]
      simpa using hx
theorem lowI_is (l : List Int) (n : Int) (k : Nat) (hk : k ≤ l.length) (h1 : ∀ j, j < k → l.getD j 0 < n) (h2 : k < l.length → ¬ l.getD k 0 < n) : lowI l n = k := by
  rcases Nat.lt_trichotomy (lowI l n) k with h | h | h
  · exact absurd (h1 _ h) (lowI_at l n (by omega))
  · exact h
  · exact absurd (lowI_before l n k h) (h2 (by have := lowI_le l n; omega))
theorem putR_mem (l : List Int) (n x : Int) : x ∈ putR l n ↔ x ∈ l ∨ x = n := by
  induction l with
  | nil => simp [putR]
  | cons a r ih =>
    unfold putR
    split
    · rw [List.mem_cons, ih, List.mem_cons]
      constructor
      · rintro (h | h | h)
        · exact .inl (.inl h)
        · exact .inl (.inr h)
        · exact .inr h
      · rintro ((h | h) | h)
        · exact .inl h
        · exact .inr (.inl h)
        · exact .inr (.inr h)
    · split
      · rename_i h
        subst h
        constructor
        · exact fun h => .inl h
        · rintro (h | h)
          · exact h
          · subst h; simp
      · rw [List.mem_cons]
        constructor
        · rintro (h | h)
          · exact .inr h
          · exact .inl h
        · rintro (h | h)
          · exact .inr h
          · exact .inl h
theorem putR_sorted (l : List Int) (n : Int) (h : l.Pairwise (· < ·)) : (putR l n).Pairwise (· < ·) := by
  induction l with
  | nil => simp [putR]
  | cons a r ih =>
    rw [List.pairwise_cons] at h
    unfold putR
    split
    · rename_i h1
      rw [List.pairwise_cons]
      refine ⟨fun x hx => ?_, ih h.2⟩
      rw [putR_mem] at hx
      rcases hx with hx | hx
      · exact h.1 x hx
      · omega
    · split
      · rw [List.pairwise_cons]; exact h
      · rename_i h1 h2
        rw [List.pairwise_cons]
        refine ⟨fun x hx => ?_, by rw [List.pairwise_cons]; exact h⟩
        rcases List.mem_cons.1 hx with hx | hx
        · omega
        · have := h.1 x hx; omega
theorem putR_len (l : List Int) (n : Int) : (putR l n).length ≤ l.length + 1 := by
  induction l with
  | nil => simp [putR]
  | cons a r ih =>
    unfold putR
    split
    · simp; omega
    · split <;> simp
theorem rise_fold (xs l : List Int) (h : l.Pairwise (· < ·)) : (xs.foldl putL l).Pairwise (· < ·) ∧ (∀ x, x ∈ xs.foldl putL l ↔ x ∈ l ∨ x ∈ xs) ∧ (xs.foldl putL l).length ≤ l.length + xs.length := by
  induction xs generalizing l with
  | nil => simp [h]
  | cons a r ih =>
    rw [List.foldl_cons]
    obtain ⟨h1, h2, h3⟩ := ih (putL l a) (by rw [putL_putR]; exact putR_sorted l a h)
    refine ⟨h1, fun x => ?_, ?_⟩
    · rw [h2, putL_putR, putR_mem, List.mem_cons]
      constructor
      · rintro ((h | h) | h)
        · exact .inl h
        · exact .inr (.inl h)
        · exact .inr (.inr h)
      · rintro (h | h | h)
        · exact .inl (.inl h)
        · exact .inl (.inr h)
        · exact .inr h
    · have := putR_len l a
      rw [putL_putR] at h3
      rw [putL_putR, List.length_cons]
      omega
theorem rise_sorted (xs : List Int) : (riseL xs).Pairwise (· < ·) := (rise_fold xs [] (by simp)).1
theorem rise_mem (xs : List Int) (x : Int) : x ∈ riseL xs ↔ x ∈ xs := by
  have := (rise_fold xs [] (by simp)).2.1 x
  simpa [riseL] using this
theorem rise_len (xs : List Int) : (riseL xs).length ≤ xs.length := by
  have := (rise_fold xs [] (by simp)).2.2
  simpa [riseL] using this
theorem rise_snoc (xs : List Int) (x : Int) : riseL (xs ++ [x]) = putL (riseL xs) x := by simp [riseL, List.foldl_append]
theorem sorted_ext (l1 l2 : List Int) (h1 : l1.Pairwise (· < ·)) (h2 : l2.Pairwise (· < ·)) (h : ∀ x, x ∈ l1 ↔ x ∈ l2) : l1 = l2 := by
  induction l1 generalizing l2 with
  | nil =>
    cases l2 with
    | nil => rfl
    | cons b s => have := (h b).2 (by simp); cases this
  | cons a r ih =>
    cases l2 with
    | nil => have := (h a).1 (by simp); cases this
    | cons b s =>
      rw [List.pairwise_cons] at h1 h2
      have hab : a = b := by
        rcases List.mem_cons.1 ((h a).1 (by simp)) with e | e
        · exact e
        · rcases List.mem_cons.1 ((h b).2 (by simp)) with e' | e'
          · exact e'.symm
          · have x1 := h2.1 a e
            have x2 := h1.1 b e'
            omega
      subst hab
      congr 1
      refine ih s h1.2 h2.2 fun x => ?_
      constructor
      · intro hx
        rcases List.mem_cons.1 ((h x).1 (List.mem_cons_of_mem _ hx)) with e | e
        · subst e; have := h1.1 _ hx; omega
        · exact e
      · intro hx
        rcases List.mem_cons.1 ((h x).2 (List.mem_cons_of_mem _ hx)) with e | e
        · subst e; have := h2.1 _ hx; omega
        · exact e
theorem getBang (xs : List Int) (j : Nat) (h : j < xs.length) : xs.toArray[j]! = xs[j] := by simp [h]
theorem compact_upto (xs : List Int) (hs : xs.Pairwise (· ≤ ·)) (m : Nat) (hm : m ≤ xs.length) : (compactUpTo xs.toArray m).Pairwise (· < ·) ∧ ∀ x, x ∈ compactUpTo xs.toArray m ↔ x ∈ xs.take m := by
  induction m with
  | zero => simp [compactUpTo]
  | succ m ih =>
    obtain ⟨h1, h2⟩ := ih (by omega)
    have hlt : m < xs.length := by omega
    rw [compactUpTo_succ, List.take_succ_eq_append_getElem hlt]
    have hle : ∀ x ∈ xs.take m, x ≤ xs[m] := by
      intro x hx
      obtain ⟨i, hi, rfl⟩ := List.getElem_of_mem hx
      rw [List.getElem_take]
      have hi' : i < m := by simp at hi; omega
      exact List.pairwise_iff_getElem.1 hs i m (by omega) hlt hi'
    by_cases hk : keeps xs.toArray m = true
    · rw [if_pos hk, getBang xs m hlt]
      refine ⟨?_, fun x => by rw [List.mem_append, List.mem_append, h2]⟩
      rw [List.pairwise_append]
      refine ⟨h1, by simp, fun a ha b hb => ?_⟩
      rw [List.mem_singleton] at hb
      subst hb
      rw [h2] at ha
      rcases Nat.eq_zero_or_pos m with h0 | h0
      · subst h0; simp at ha
      · have hne : xs[m] ≠ xs[m - 1] := by
          unfold keeps at hk
          rw [getBang xs m hlt, getBang xs (m - 1) (by omega)] at hk
          have : ¬ m = 0 := by omega
          simpa [this] using hk
        have hle2 : a ≤ xs[m - 1] := by
          obtain ⟨i, hi, rfl⟩ := List.getElem_of_mem ha
          rw [List.getElem_take]
          have hi' : i < m := by simp at hi; omega
          rcases Nat.lt_or_ge i (m - 1) with h | h
          · exact List.pairwise_iff_getElem.1 hs i (m - 1) (by omega) (by omega) h
          · have : i = m - 1 := by omega
            subst this
            exact Int.le_refl _
        have := List.pairwise_iff_getElem.1 hs (m - 1) m (by omega) hlt (by omega)
        omega
    · rw [if_neg hk, List.append_nil]
      refine ⟨h1, fun x => ?_⟩
      rw [h2, List.mem_append, List.mem_singleton]
      constructor
      · exact fun h => .inl h
      · rintro (h | h)
        · exact h
        · subst h
          have h0 : ¬ m = 0 := by
            intro e
            subst e
            exact hk (by simp [keeps])
          have he : xs[m] = xs[m - 1] := by
            unfold keeps at hk
            rw [getBang xs m hlt, getBang xs (m - 1) (by omega)] at hk
            simpa [h0] using hk
          rw [he]
          exact List.mem_take_iff_getElem.2 ⟨m - 1, by omega, rfl⟩
theorem rise_compact (xs : List Int) : compact (xs.mergeSort fun x y => decide (x ≤ y)) = riseL xs := by
  have hs : (xs.mergeSort fun x y => decide (x ≤ y)).Pairwise (· ≤ ·) := by
    have := List.pairwise_mergeSort (le := fun x y : Int => decide (x ≤ y)) (fun a b c h1 h2 => by simp at *; omega) (fun a b => by simp; omega) xs
    exact this.imp (fun h => by simpa using h)
  obtain ⟨h1, h2⟩ := compact_upto _ hs _ (Nat.le_refl _)
  refine sorted_ext _ _ h1 (rise_sorted xs) fun x => ?_
  unfold compact
  rw [h2, List.take_length, rise_mem, List.mem_mergeSort]
theorem compactUpTo_len (d : Array Int) (m : Nat) : (compactUpTo d m).length ≤ m := by
  unfold compactUpTo
  rw [List.length_map]
  have := List.length_filter_le (keeps d) (List.range m)
  simpa using this
theorem compact_len (xs : List Int) : (compact xs).length ≤ xs.length := compactUpTo_len _ _
end Go.Proofs.YtkimbgehnhcmaaaGreatDoor
