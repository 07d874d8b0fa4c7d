/- The next later places with the same number: the reference's search and the program's table agree. Plain Lean. -/
import Derived.Test.YtaoacpikmpoodaaLast
namespace Go.Proofs.Ytaoacpikmpoodaa
def nextFrom (xs : List Int) (v : Int) : Nat → Nat → Int
  | _, 0 => -1
  | k, d + 1 => if xs.getD k 0 = v then (k : Int) else nextFrom xs v (k + 1) d
def nextAt (xs : List Int) (i : Nat) : Int := nextFrom xs (xs.getD i 0) (i + 1) (xs.length - (i + 1))
def nextL (xs : List Int) (m : Nat) : List Int := (List.range m).map (nextAt xs)
theorem nextL_len (xs : List Int) (m : Nat) : (nextL xs m).length = m := by simp [nextL]
theorem nextL_snoc (xs : List Int) (m : Nat) : nextL xs (m + 1) = nextL xs m ++ [nextAt xs m] := by simp [nextL, List.range_succ]
def upd (xs : List Int) : Nat → Nat → Int
  | 0, _ => -1
  | m + 1, j => if lastAt xs m = (j : Int) then (m : Int) else upd xs m j
def updL (xs : List Int) (n m : Nat) : List Int := (List.range n).map (upd xs m)
theorem updL_len (xs : List Int) (n m : Nat) : (updL xs n m).length = n := by simp [updL]
theorem updL_zero (xs : List Int) (n : Nat) : updL xs n 0 = List.replicate n (-1) := by
  refine List.ext_getElem? fun j => ?_
  rcases Nat.lt_or_ge j n with h | h
  · simp [updL, upd, h]
  · rw [List.getElem?_eq_none (by simp [updL]; omega), List.getElem?_eq_none (by simp; omega)]
theorem updL_none (xs : List Int) (n m : Nat) (h : lastAt xs m < 0) : updL xs n (m + 1) = updL xs n m := by
  unfold updL
  refine List.map_congr_left fun j _ => ?_
  unfold upd
  rw [if_neg (by omega)]
  cases m <;> rfl
theorem updL_set (xs : List Int) (n m p : Nat) (h : lastAt xs m = (p : Int)) : updL xs n (m + 1) = (updL xs n m).set p (m : Int) := by
  refine List.ext_getElem? fun j => ?_
  rw [List.getElem?_set]
  rcases Nat.lt_or_ge j n with hj | hj
  · by_cases e : p = j
    · subst e
      rw [if_pos rfl, if_pos (by rw [updL_len]; exact hj)]
      simp [updL, hj, upd, h]
    · rw [if_neg e]
      simp [updL, hj]
      rw [upd, if_neg (by rw [h]; omega)]
  · rw [List.getElem?_eq_none (by rw [updL_len]; exact hj)]
    split
    · rw [if_neg (by rw [updL_len]; omega)]
    · rw [List.getElem?_eq_none (by rw [updL_len]; exact hj)]
theorem lastFrom_is (xs : List Int) (v : Int) (i j : Nat) (h : lastFrom xs v i = (j : Int)) : j < i ∧ xs.getD j 0 = v ∧ ∀ t, j < t → t < i → xs.getD t 0 ≠ v := by
  induction i with
  | zero => exact absurd h (by unfold lastFrom; omega)
  | succ i ih =>
    unfold lastFrom at h
    split at h
    · rename_i hv
      have : i = j := by omega
      subst this
      exact ⟨by omega, hv, fun t h1 h2 => by omega⟩
    · rename_i hv
      obtain ⟨a, b, c⟩ := ih h
      refine ⟨by omega, b, fun t h1 h2 => ?_⟩
      by_cases e : t = i
      · subst e; exact hv
      · exact c t h1 (by omega)
theorem lastFrom_to (xs : List Int) (v : Int) (i j : Nat) (h1 : j < i) (h2 : xs.getD j 0 = v) (h3 : ∀ t, j < t → t < i → xs.getD t 0 ≠ v) : lastFrom xs v i = (j : Int) := by
  induction i with
  | zero => omega
  | succ i ih =>
    unfold lastFrom
    by_cases e : i = j
    · subst e; rw [if_pos h2]
    · rw [if_neg (h3 i (by omega) (by omega))]
      exact ih (by omega) (fun t a b => h3 t a (by omega))
theorem nextFrom_is (xs : List Int) (v : Int) (d k : Nat) : (nextFrom xs v k d = -1 ∧ ∀ t, k ≤ t → t < k + d → xs.getD t 0 ≠ v) ∨ ∃ t, nextFrom xs v k d = (t : Nat) ∧ k ≤ t ∧ t < k + d ∧ xs.getD t 0 = v ∧ ∀ s, k ≤ s → s < t → xs.getD s 0 ≠ v := by
  induction d generalizing k with
  | zero => exact .inl ⟨rfl, fun t a b => by omega⟩
  | succ d ih =>
    unfold nextFrom
    by_cases e : xs.getD k 0 = v
    · rw [if_pos e]
      exact .inr ⟨k, rfl, Nat.le_refl _, by omega, e, fun s a b => by omega⟩
    · rw [if_neg e]
      rcases ih (k + 1) with ⟨a, b⟩ | ⟨t, a, b, c, f, g⟩
      · refine .inl ⟨a, fun t h1 h2 => ?_⟩
        by_cases h : t = k
        · subst h; exact e
        · exact b t (by omega) (by omega)
      · refine .inr ⟨t, a, by omega, by omega, f, fun s h1 h2 => ?_⟩
        by_cases h : s = k
        · subst h; exact e
        · exact g s (by omega) h2
theorem upd_is (xs : List Int) (m j : Nat) : (upd xs m j = -1 ∧ ∀ i, i < m → lastAt xs i ≠ (j : Int)) ∨ ∃ i, upd xs m j = (i : Nat) ∧ i < m ∧ lastAt xs i = (j : Int) := by
  induction m with
  | zero => exact .inl ⟨rfl, fun i h => by omega⟩
  | succ m ih =>
    unfold upd
    by_cases e : lastAt xs m = (j : Int)
    · rw [if_pos e]; exact .inr ⟨m, rfl, by omega, e⟩
    · rw [if_neg e]
      rcases ih with ⟨a, b⟩ | ⟨i, a, b, c⟩
      · refine .inl ⟨a, fun i h => ?_⟩
        by_cases h2 : i = m
        · subst h2; exact e
        · exact b i (by omega)
      · exact .inr ⟨i, a, by omega, c⟩
theorem upd_next (xs : List Int) (j : Nat) : upd xs xs.length j = nextAt xs j := by
  rcases nextFrom_is xs (xs.getD j 0) (xs.length - (j + 1)) (j + 1) with ⟨a, b⟩ | ⟨t, a, b, c, f, g⟩
  · rcases upd_is xs xs.length j with ⟨u, _⟩ | ⟨i, u, v, q⟩
    · rw [u]; exact a.symm
    · obtain ⟨h1, h2, _⟩ := lastFrom_is _ _ _ _ q
      exact absurd h2.symm (b i (by omega) (by omega))
  · have hl : lastAt xs t = (j : Int) := lastFrom_to _ _ _ _ (by omega) f.symm (fun s h1 h2 => by rw [f]; exact g s (by omega) h2)
    rcases upd_is xs xs.length j with ⟨_, u⟩ | ⟨i, u, v, q⟩
    · exact absurd hl (u t (by omega))
    · obtain ⟨h1, h2, h3⟩ := lastFrom_is _ _ _ _ q
      have e : i = t := by
        rcases Nat.lt_trichotomy i t with h | h | h
        · exact absurd h2.symm (g i (by omega) h)
        · exact h
        · exact absurd (f.trans h2) (h3 t (by omega) h)
      subst e
      rw [u]; exact a.symm
theorem updL_next (xs : List Int) : updL xs xs.length xs.length = nextL xs xs.length := by
  unfold updL nextL
  exact List.map_congr_left fun j _ => upd_next xs j
end Go.Proofs.Ytaoacpikmpoodaa
