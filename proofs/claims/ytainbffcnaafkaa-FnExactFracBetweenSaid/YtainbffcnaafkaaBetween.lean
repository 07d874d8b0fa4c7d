/- The plain law of the fraction between two fractions: the least denominator gives lowest terms, and if it is too great, so are all that come behind it; for valid fractions. -/
import Derived.Test.YtainbffcnaafkaaMake
import Derived.Test.YtainbffcnaafkaaFloor
namespace Go.Proofs.Ytainbffcnaafkaa
open Go.RowKit

/-- The numerator over a denominator that is just above a / b. -/
def bf (a b j : Int) : Int := a * j / b + 1
/-- Whether it lies below c / d. -/
def bc (a b c d j : Int) : Prop := bf a b j * d < c * j

theorem bf_gt (a b j : Int) (hb : 1 ≤ b) : a * j < bf a b j * b := by
  unfold bf
  have h1 := Int.emod_add_mul_ediv (a * j) b
  have h2 := Int.emod_lt_of_pos (a * j) (show 0 < b by omega)
  have h3 : (a * j / b + 1) * b = b * (a * j / b) + b := by rw [Int.add_mul, Int.one_mul, Int.mul_comm]
  omega
theorem bf_le (a b j m : Int) (hb : 1 ≤ b) (h : a * j < m * b) : bf a b j ≤ m := by
  unfold bf
  have : a * j / b < m := Int.ediv_lt_of_lt_mul (by omega) h
  omega
/-- Where there is one between them, the first fraction is the lesser. -/
theorem bc_lt (a b c d j : Int) (hb : 1 ≤ b) (hd : 1 ≤ d) (hj : 1 ≤ j) (h : bc a b c d j) : a * d < c * b := by
  have h1 := bf_gt a b j hb
  unfold bc at h
  have h2 : a * j * d < bf a b j * b * d := Int.mul_lt_mul_of_pos_right h1 (by omega)
  have h3 : bf a b j * d * b < c * j * b := Int.mul_lt_mul_of_pos_right h (by omega)
  have e1 : a * j * d = a * d * j := by rw [Int.mul_right_comm]
  have e2 : bf a b j * b * d = bf a b j * d * b := by rw [Int.mul_right_comm]
  have e3 : c * j * b = c * b * j := by rw [Int.mul_right_comm]
  have h4 : a * d * j < c * b * j := by omega
  exact Int.lt_of_mul_lt_mul_right h4 (by omega)
/-- The least denominator gives lowest terms. -/
theorem bc_gcd (a b c d D : Int) (hb : 1 ≤ b) (hd : 1 ≤ d) (hD : 1 ≤ D) (h : bc a b c d D) (hmin : ∀ j, 1 ≤ j → j < D → ¬ bc a b c d j) : Int.gcd (bf a b D) D = 1 := by
  have hg0 : 0 < Int.gcd (bf a b D) D := Int.gcd_pos_of_ne_zero_right _ (by omega)
  by_cases hg : Int.gcd (bf a b D) D = 1
  · exact hg
  · exfalso
    obtain ⟨m, hm⟩ := Int.gcd_dvd_left (bf a b D) D
    obtain ⟨D', hD'⟩ := Int.gcd_dvd_right (bf a b D) D
    generalize hgg : ((Int.gcd (bf a b D) D : Nat) : Int) = g at hm hD'
    have hg2 : 2 ≤ g := by omega
    have hp : 1 ≤ D' := by
      rcases Int.lt_or_le D' 1 with hlt | hge
      · have : g * D' ≤ 0 := Int.mul_nonpos_of_nonneg_of_nonpos (by omega) (by omega)
        omega
      · exact hge
    have hlt : D' < D := by
      have : 2 * D' ≤ g * D' := Int.mul_le_mul_of_nonneg_right hg2 (by omega)
      omega
    have h1 := bf_gt a b D hb
    rw [hm, hD'] at h1
    have e1 : a * (g * D') = a * D' * g := by rw [Int.mul_comm g, Int.mul_assoc]
    have e2 : g * m * b = m * b * g := by rw [Int.mul_comm g, Int.mul_right_comm]
    have h2 : a * D' < m * b := Int.lt_of_mul_lt_mul_right (show a * D' * g < m * b * g by omega) (by omega)
    have h3 := bf_le a b D' m hb h2
    refine hmin D' hp hlt ?_
    unfold bc at h ⊢
    by_cases hd0 : 0 ≤ d
    · rw [hm] at h
      have e3 : g * m * d = m * d * g := by rw [Int.mul_comm g, Int.mul_right_comm]
      have e4 : c * D = c * D' * g := by rw [hD', Int.mul_comm g, Int.mul_assoc]
      have h4 : m * d < c * D' := Int.lt_of_mul_lt_mul_right (show m * d * g < c * D' * g by omega) (by omega)
      have h5 : bf a b D' * d ≤ m * d := Int.mul_le_mul_of_nonneg_right h3 hd0
      omega
    · exact absurd (show 0 ≤ d by omega) hd0
theorem mul_mono (a j k : Int) (ha : 0 ≤ a) (h : j ≤ k) : a * j ≤ a * k := Int.mul_le_mul_of_nonneg_left h ha
theorem bf_up (a b j k : Int) (hb : 1 ≤ b) (ha : 0 ≤ a) (h : j ≤ k) : bf a b j ≤ bf a b k := by
  unfold bf
  have := Int.ediv_le_ediv (show 0 < b by omega) (mul_mono a j k ha h)
  omega
theorem bf_down (a b j k : Int) (hb : 1 ≤ b) (ha : a ≤ 0) (h : j ≤ k) : bf a b k ≤ bf a b j := by
  unfold bf
  have h1 := mul_mono (-a) j k (by omega) h
  rw [Int.neg_mul, Int.neg_mul] at h1
  have := Int.ediv_le_ediv (show 0 < b by omega) (show a * k ≤ a * j by omega)
  omega
/-- If the least denominator's fraction is too great, so are all behind it. -/
theorem bf_great (a b D k : Int) (hb : 1 ≤ b) (hD : 1 ≤ D) (hD' : D ≤ 100000) (hg : Int.gcd (bf a b D) D = 1) (hk : D ≤ k) (hf : fracB (bf a b D) D = false) : fracB (bf a b k) k = false := by
  have h1 : bf a b D < -100000000 ∨ 100000000 < bf a b D := by
    unfold fracB at hf
    simp at hf
    by_cases x : -100000000 ≤ bf a b D
    · right
      by_cases y : bf a b D ≤ 100000000
      · exact absurd hg (hf (by omega) (by omega) x y)
      · omega
    · left; omega
  have h2 : bf a b k < -100000000 ∨ 100000000 < bf a b k := by
    rcases h1 with h1 | h1
    · left
      by_cases ha : a ≤ 0
      · have := bf_down a b D k hb ha hk; omega
      · exfalso
        have : 0 ≤ a * D / b := Int.ediv_nonneg (Int.mul_nonneg (by omega) (by omega)) (by omega)
        unfold bf at h1
        omega
    · right
      by_cases ha : 0 ≤ a
      · have := bf_up a b D k hb ha hk; omega
      · exfalso
        have h3 : a * D < 0 := Int.mul_neg_of_neg_of_pos (by omega) (by omega)
        have : a * D / b < 0 := Int.ediv_neg_of_neg_of_pos h3 (by omega)
        unfold bf at h1
        omega
  unfold fracB
  simp
  intro _ _ x y
  omega
/-- Either the least denominator with a fraction between gives a valid one, or none does. -/
theorem between_cases (a b c d : Int) (hb : 1 ≤ b) (hd : 1 ≤ d) :
    (∃ D, 1 ≤ D ∧ D ≤ 100000 ∧ bc a b c d D ∧ (∀ j, 1 ≤ j → j < D → ¬ bc a b c d j) ∧ fracB (bf a b D) D = true) ∨ (∀ j, 1 ≤ j → j ≤ 100000 → bc a b c d j → fracB (bf a b j) j = false) := by
  have key : ∀ n : Nat, (∃ D, 1 ≤ D ∧ D ≤ (n : Int) ∧ bc a b c d D ∧ ∀ j, 1 ≤ j → j < D → ¬ bc a b c d j) ∨ (∀ j, 1 ≤ j → j ≤ (n : Int) → ¬ bc a b c d j) := by
    intro n
    induction n with
    | zero => right; intro j h1 h2; omega
    | succ n ih =>
      rcases ih with ⟨D, h1, h2, h3, h4⟩ | ih
      · left; exact ⟨D, h1, by omega, h3, h4⟩
      · by_cases h : bc a b c d ((n : Int) + 1)
        · left
          exact ⟨(n : Int) + 1, by omega, by omega, h, fun j h1 h2 => ih j h1 (by omega)⟩
        · right
          intro j h1 h2
          by_cases e : j = (n : Int) + 1
          · rw [e]; exact h
          · exact ih j h1 (by omega)
  rcases key 100000 with ⟨D, h1, h2, h3, h4⟩ | h
  · have h2' : D ≤ 100000 := by omega
    have hg := bc_gcd a b c d D hb hd h1 h3 h4
    cases hf : fracB (bf a b D) D
    · right
      intro j j1 j2 j3
      rcases Int.lt_or_le j D with hlt | hge
      · exact absurd j3 (h4 j j1 hlt)
      · exact bf_great a b D j hb h1 h2' hg hge hf
    · left; exact ⟨D, h1, h2', h3, h4, hf⟩
  · right
    intro j j1 j2 j3
    exact absurd j3 (h j j1 (by omega))
theorem mk_low (n D : Int) (hg : Int.gcd n D = 1) : mkB n D = fracB n D ∧ mkN n D = (if fracB n D = true then n else 0) ∧ mkD n D = if fracB n D = true then D else 0 := by
  have h : mkQ n D = (n, D) := by unfold mkQ; rw [hg]; simp
  refine ⟨by unfold mkB; rw [h], by unfold mkN mkB; rw [h], by unfold mkD mkB; rw [h]⟩
end Go.Proofs.Ytainbffcnaafkaa
