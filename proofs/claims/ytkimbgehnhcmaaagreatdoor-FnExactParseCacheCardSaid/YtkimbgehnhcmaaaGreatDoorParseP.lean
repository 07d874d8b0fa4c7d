/- A number in its one decimal form: the reference's reading and strconv.Atoi's with the text compared give the same; plain lists, no program. -/
import Derived.Test.YtkimbgehnhcmaaaGreatDoorNum
import Derived.Lib.AtoiTie
namespace Go.Proofs.YtkimbgehnhcmaaaGreatDoor

def stripL (l : List UInt8) : List UInt8 := if 1 < l.length ∧ l.head? = some 45 then l.tail else l
/-- What the reference reads. -/
def specRead (l : List UInt8) : Option Int :=
  if 1 ≤ (stripL l).length ∧ (stripL l).length ≤ 6 then
    match Lib.decFrom 0 (stripL l) with
    | none => none
    | some m => if Lib.itoa (if (stripL l).length < l.length then -(m : Int) else m) = l then some (if (stripL l).length < l.length then -(m : Int) else m) else none
  else none
/-- What the program reads. -/
def implRead (l : List UInt8) : Option Int :=
  match Lib.atoiAll l with
  | .ok v => if Lib.itoa v = l then some v else none
  | _ => none
def parseV (l : List UInt8) : Option Int :=
  match implRead l with
  | some v => if -999999 ≤ v ∧ v ≤ 999999 then some v else none
  | none => none

theorem decFrom_append : ∀ (l r : List UInt8) (a : Nat), Lib.decFrom a (l ++ r) = (Lib.decFrom a l).bind fun b => Lib.decFrom b r
  | [], r, a => rfl
  | b :: l, r, a => by
    simp only [List.cons_append, Lib.decFrom]
    cases Lib.digitVal b with
    | none => rfl
    | some d => exact decFrom_append l r _
theorem digitVal_of (d : Nat) (h : d < 10) : Lib.digitVal (UInt8.ofNat (48 + d)) = some d := by
  have e : (UInt8.ofNat (48 + d)).toNat = 48 + d := by
    rw [UInt8.toNat_ofNat']; omega
  unfold Lib.digitVal
  rw [e, if_pos (by omega)]
  congr 1; omega
theorem decFrom_digits (u : Nat) : Lib.decFrom 0 (Lib.decDigits u) = some u := by
  induction u using Nat.strongRecOn with
  | _ u ih =>
    rw [Lib.decDigits]
    split
    · rename_i h
      simp only [Lib.decFrom, digitVal_of u h, Nat.zero_mul, Nat.zero_add]
    · rename_i h
      rw [decFrom_append, ih (u / 10) (by omega)]
      simp only [Option.bind_some, Lib.decFrom, digitVal_of (u % 10) (by omega)]
      congr 1; omega
theorem decFrom_lt : ∀ (l : List UInt8) (a n : Nat), Lib.decFrom a l = some n → n < (a + 1) * 10 ^ l.length
  | [], a, n, h => by simp [Lib.decFrom] at h; subst h; simp
  | b :: l, a, n, h => by
    simp only [Lib.decFrom] at h
    cases hb : Lib.digitVal b with
    | none => rw [hb] at h; cases h
    | some d =>
      rw [hb] at h
      have hd : d < 10 := by
        unfold Lib.digitVal at hb
        split at hb
        · injection hb with hb; omega
        · cases hb
      have := decFrom_lt l _ n h
      rw [List.length_cons, Nat.pow_succ]
      refine Nat.lt_of_lt_of_le this ?_
      have h2 : (a * 10 + d + 1) ≤ (a + 1) * 10 := by omega
      calc (a * 10 + d + 1) * 10 ^ l.length ≤ ((a + 1) * 10) * 10 ^ l.length := Nat.mul_le_mul_right _ h2
        _ = (a + 1) * (10 ^ l.length * 10) := by rw [Nat.mul_assoc, Nat.mul_comm 10]
theorem digits_len_le : ∀ (k u : Nat), 1 ≤ k → u < 10 ^ k → (Lib.decDigits u).length ≤ k
  | 0, _, h, _ => by omega
  | k + 1, u, _, h => by
    rw [Lib.decDigits]
    split
    · simp
    · rename_i h10
      rw [List.length_append, List.length_singleton]
      have hk : 1 ≤ k := by
        rcases Nat.eq_zero_or_pos k with rfl | h
        · simp at h; omega
        · exact h
      have := digits_len_le k (u / 10) hk (by rw [Nat.pow_succ] at h; omega)
      omega
theorem digits_head (u : Nat) : ∃ b r, Lib.decDigits u = b :: r ∧ b ≠ 45 ∧ b ≠ 43 := by
  have h := decFrom_digits u
  cases hl : Lib.decDigits u with
  | nil =>
    have := congrArg List.length hl
    rw [Lib.decDigits_length] at this
    have h2 := Lib.nDigits_pos u
    simp at this; omega
  | cons b r =>
    rw [hl] at h
    obtain ⟨d, hd⟩ := Lib.digit_of_decFrom _ 0 u h 0 b rfl
    refine ⟨b, r, rfl, ?_, ?_⟩
    · intro e; subst e; simp [Lib.digitVal] at hd
    · intro e; subst e; simp [Lib.digitVal] at hd
theorem itoa_neg' {n : Int} (h : n < 0) : Lib.itoa n = 45 :: Lib.decDigits n.natAbs := by rw [Lib.itoa, if_pos h]
theorem itoa_pos' {n : Int} (h : ¬ n < 0) : Lib.itoa n = Lib.decDigits n.toNat := by rw [Lib.itoa, if_neg h]
theorem atoi_itoa (n : Int) : Lib.atoi (Lib.itoa n) = some n := by
  by_cases h : n < 0
  · rw [itoa_neg' h]
    obtain ⟨b, r, e, _, _⟩ := digits_head n.natAbs
    have h2 := decFrom_digits n.natAbs
    simp only [Lib.atoi, Lib.decNat]
    rw [e] at h2 ⊢
    simp [h2]
    omega
  · rw [itoa_pos' h]
    obtain ⟨b, r, e, h1, h3⟩ := digits_head n.toNat
    have h2 := decFrom_digits n.toNat
    rw [e] at h2 ⊢
    simp only [Lib.atoi, Lib.decNat]
    simp [h1, h3, h2]
    omega
theorem itoa_len {n : Int} (h : -999999 ≤ n ∧ n ≤ 999999) : (Lib.itoa n).length ≤ 7 := by
  by_cases h0 : n < 0
  · rw [itoa_neg' h0]
    have := digits_len_le 6 n.natAbs (by omega) (by omega)
    simp; omega
  · rw [itoa_pos' h0]
    have := digits_len_le 6 n.toNat (by omega) (by omega)
    omega
theorem parseV_itoa {n : Int} (h : -999999 ≤ n ∧ n ≤ 999999) : parseV (Lib.itoa n) = some n := by
  have h1 : implRead (Lib.itoa n) = some n := by
    unfold implRead
    rw [Lib.atoiAll_short _ (by have := itoa_len h; omega), atoi_itoa]
    simp [Lib.NumEnd.ofOption]
  unfold parseV
  rw [h1]
  simp [h]
theorem specRead_itoa {n : Int} (h : -999999 ≤ n ∧ n ≤ 999999) : specRead (Lib.itoa n) = some n := by
  by_cases h0 : n < 0
  · have h1 := digits_len_le 6 n.natAbs (by omega) (by omega)
    have h2 := decFrom_digits n.natAbs
    obtain ⟨b, r, e, _, _⟩ := digits_head n.natAbs
    have hs : stripL (Lib.itoa n) = Lib.decDigits n.natAbs := by
      rw [itoa_neg' h0]
      unfold stripL
      rw [if_pos (by rw [e]; simp)]
      rfl
    have hl : (stripL (Lib.itoa n)).length < (Lib.itoa n).length := by rw [hs, itoa_neg' h0]; simp
    have hm : -((n.natAbs : Nat) : Int) = n := by omega
    unfold specRead
    rw [if_pos (by rw [hs]; exact ⟨by rw [e]; simp, h1⟩), hs, h2]
    rw [hs] at hl
    simp only [if_pos hl, hm, if_true]
  · have h1 := digits_len_le 6 n.toNat (by omega) (by omega)
    have h2 := decFrom_digits n.toNat
    obtain ⟨b, r, e, h45, _⟩ := digits_head n.toNat
    have hs : stripL (Lib.itoa n) = Lib.decDigits n.toNat := by
      rw [itoa_pos' h0]
      unfold stripL
      rw [if_neg (by rw [e]; simp [h45])]
    have hl : ¬ (stripL (Lib.itoa n)).length < (Lib.itoa n).length := by rw [hs, itoa_pos' h0]; omega
    have hm : ((n.toNat : Nat) : Int) = n := by omega
    unfold specRead
    rw [if_pos (by rw [hs]; exact ⟨by rw [e]; simp, h1⟩), hs, h2]
    rw [hs] at hl
    simp only [if_neg hl, hm, if_true]
theorem specRead_form {l : List UInt8} {n : Int} (h : specRead l = some n) : Lib.itoa n = l ∧ -999999 ≤ n ∧ n ≤ 999999 := by
  unfold specRead at h
  split at h
  · rename_i hl
    split at h
    · cases h
    · rename_i m hm
      have hb := decFrom_lt _ _ _ hm
      have hp : 10 ^ (stripL l).length ≤ 10 ^ 6 := Nat.pow_le_pow_right (by omega) hl.2
      have hm6 : m < 1000000 := by omega
      by_cases hi : Lib.itoa (if (stripL l).length < l.length then -(m : Int) else m) = l
      · rw [if_pos hi] at h
        injection h with h
        rw [h] at hi
        refine ⟨hi, ?_⟩
        split at h <;> omega
      · rw [if_neg hi] at h; cases h
  · cases h
theorem parseV_form {l : List UInt8} {n : Int} (h : parseV l = some n) : Lib.itoa n = l ∧ -999999 ≤ n ∧ n ≤ 999999 := by
  unfold parseV at h
  cases hi : implRead l with
  | none => rw [hi] at h; cases h
  | some v =>
    rw [hi] at h
    simp only at h
    split at h
    · rename_i hv
      injection h with h
      subst h
      refine ⟨?_, hv⟩
      unfold implRead at hi
      split at hi
      · rename_i v2 _
        by_cases e : Lib.itoa v2 = l
        · rw [if_pos e] at hi; injection hi with hi; rw [← hi]; exact e
        · rw [if_neg e] at hi; cases hi
      · cases hi
    · cases h
theorem specRead_eq (l : List UInt8) : specRead l = parseV l := by
  cases h : specRead l with
  | some n =>
    obtain ⟨e, hb⟩ := specRead_form h
    rw [← e, parseV_itoa hb]
  | none =>
    cases h2 : parseV l with
    | none => rfl
    | some n =>
      obtain ⟨e, hb⟩ := parseV_form h2
      rw [← e, specRead_itoa hb] at h
      cases h
end Go.Proofs.YtkimbgehnhcmaaaGreatDoor
