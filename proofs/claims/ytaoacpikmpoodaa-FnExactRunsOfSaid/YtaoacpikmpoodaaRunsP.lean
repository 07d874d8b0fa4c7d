/- The runs of a sequence, as a list of pairs, built number by number. Plain Lean. -/
import Derived.Test.YtaoacpikmpoodaaPairs
namespace Go.Proofs.Ytaoacpikmpoodaa
def lastP (l : List (Int × Int)) : Int × Int := l.getD (l.length - 1) (0, 0)
def bumpP (l : List (Int × Int)) : List (Int × Int) := l.set (l.length - 1) ((lastP l).1, (lastP l).2 + 1)
def runsL (xs : List Int) : Nat → List (Int × Int)
  | 0 => []
  | k + 1 => if 0 < k ∧ xs.getD k 0 = xs.getD (k - 1) 0 then bumpP (runsL xs k) else runsL xs k ++ [(xs.getD k 0, 1)]
theorem bumpP_len (l : List (Int × Int)) : (bumpP l).length = l.length := by simp [bumpP]
theorem runsL_len (xs : List Int) (k : Nat) : (runsL xs k).length ≤ k ∧ (0 < k → 0 < (runsL xs k).length) := by
  induction k with
  | zero => exact ⟨Nat.le_refl _, fun h => absurd h (by omega)⟩
  | succ k ih =>
    unfold runsL
    split
    · rename_i h
      rw [bumpP_len]
      have := ih.2 h.1
      exact ⟨by omega, fun _ => this⟩
    · rw [List.length_append, List.length_singleton]
      exact ⟨by omega, fun _ => by omega⟩
theorem lastP_snoc (l : List (Int × Int)) (p : Int × Int) : lastP (l ++ [p]) = p := by
  simp [lastP, List.getD_eq_getElem?_getD]
theorem lastP_bump (l : List (Int × Int)) (h : 0 < l.length) : lastP (bumpP l) = ((lastP l).1, (lastP l).2 + 1) := by
  have e : (bumpP l).length = l.length := bumpP_len l
  unfold lastP
  rw [e]
  unfold bumpP
  rw [List.getD_eq_getElem?_getD, List.getElem?_set_self (by omega)]
  rfl
theorem bump_snoc (l : List (Int × Int)) (x : Int) : bumpP (l ++ [(x, 0)]) = l ++ [(x, 1)] := by
  unfold bumpP
  rw [lastP_snoc, List.length_append, List.length_singleton, Nat.add_sub_cancel, List.set_append_right _ _ (Nat.le_refl _), Nat.sub_self]
  rfl
theorem lastP_bd (xs : List Int) (k : Nat) (h : 0 < k) : 1 ≤ (lastP (runsL xs k)).2 ∧ (lastP (runsL xs k)).2 ≤ k := by
  induction k with
  | zero => omega
  | succ k ih =>
    unfold runsL
    split
    · rename_i h1
      rw [lastP_bump _ ((runsL_len xs k).2 h1.1)]
      have := ih h1.1
      simp only
      omega
    · rw [lastP_snoc]
      simp only
      omega
theorem runsL_same (xs : List Int) (k : Nat) (h : 0 < k) (e : xs.getD k 0 = xs.getD (k - 1) 0) : runsL xs (k + 1) = bumpP (runsL xs k) := by
  rw [runsL, if_pos ⟨h, e⟩]
theorem runsL_new (xs : List Int) (k : Nat) (e : ¬ (0 < k ∧ xs.getD k 0 = xs.getD (k - 1) 0)) : runsL xs (k + 1) = runsL xs k ++ [(xs.getD k 0, 1)] := by
  rw [runsL, if_neg e]
theorem flatP_set (l : List (Int × Int)) (j : Nat) (x y : Int) : ((flatP l).set (j * 2) (.int .i64 x)).set (j * 2 + 1) (.int .i64 y) = flatP (l.set j (x, y)) := by
  induction l generalizing j with
  | nil => simp [flatP]
  | cons p r ih =>
    cases j with
    | zero => simp [flatP]
    | succ j =>
      have := ih j
      have e : (j + 1) * 2 = j * 2 + 1 + 1 := by omega
      rw [e]
      simp only [flatP, List.flatMap_cons, List.cons_append, List.nil_append, List.set_cons_succ] at this ⊢
      rw [this]
theorem flatP_set2 (l : List (Int × Int)) (j : Nat) (hj : j < l.length) (y : Int) : (flatP l).set (j * 2 + 1) (.int .i64 y) = flatP (l.set j ((l.getD j (0, 0)).1, y)) := by
  rw [← flatP_set]
  congr 1
  obtain ⟨e1, _⟩ := flatP_get l j hj
  have hl : j * 2 < (flatP l).length := by rw [flatP_len]; omega
  rw [List.getElem?_eq_getElem hl] at e1
  injection e1 with e1
  rw [← e1, List.set_getElem_self]
theorem flatP_bump (l : List (Int × Int)) (h : 0 < l.length) : (flatP l).set ((l.length - 1) * 2 + 1) (.int .i64 ((lastP l).2 + 1)) = flatP (bumpP l) := flatP_set2 l _ (by omega) _
end Go.Proofs.Ytaoacpikmpoodaa
