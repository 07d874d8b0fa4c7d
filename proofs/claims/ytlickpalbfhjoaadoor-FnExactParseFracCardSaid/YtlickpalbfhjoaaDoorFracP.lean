/- A fraction read from its text: the reference's reading of a number of at most nine digits and the program's reading of a number in its one form give the same fraction; plain lists, no program. -/
import Derived.Test.YtlickpalbfhjoaaDoorFText
import Derived.Test.YtlickpalbfhjoaaDoorParseP
import Derived.Test.YtlickpalbfhjoaaDoorCutP
import Derived.Lib.IndexBytes
import Derived.Lib.IndexMore
namespace Go.Proofs.YtlickpalbfhjoaaDoor
open Go.RowKit

/-- How many bytes stand ahead of the first c. -/
def posC (l : List UInt8) (c : UInt8) : Nat := (l.takeWhile (· != c)).length
theorem posC_le (l : List UInt8) (c : UInt8) : posC l c ≤ l.length := (List.takeWhile_sublist _).length_le
theorem index_pos (c : UInt8) : ∀ l : List UInt8, Lib.indexByte l c = if posC l c < l.length then (posC l c : Int) else -1
  | [] => rfl
  | b :: l => by
    have ih := index_pos c l
    unfold Lib.indexByte posC
    by_cases hb : b = c
    · subst hb; simp
    · have hb' : (b == c) = false := by simpa using hb
      have hb2 : (b != c) = true := by simpa using hb
      rw [hb', List.takeWhile_cons, hb2]
      simp only [Bool.false_eq_true, if_false, if_true, List.length_cons]
      unfold posC at ih
      generalize (List.takeWhile (fun x => x != c) l).length = q at ih ⊢
      by_cases hp : q < l.length
      · rw [if_pos hp] at ih
        rw [ih, if_pos (show q + 1 < l.length + 1 by omega)]
        have : ((((q : Nat) : Int)) == -1) = false := by first | (simp; done) | (simp; omega)
        rw [this]
        simp
      · rw [if_neg hp] at ih
        rw [ih, if_neg (show ¬ q + 1 < l.length + 1 by omega)]
        rfl
theorem cut_pos (l : List UInt8) (c : UInt8) : Lib.cut l [c] = (l.take (posC l c), if posC l c < l.length then l.drop (posC l c + 1) else [], decide (posC l c < l.length)) := by
  have hle := posC_le l c
  unfold Lib.cut
  rw [Lib.index_one, index_pos]
  by_cases h : posC l c < l.length
  · rw [if_pos h, if_pos (by omega), if_pos h, decide_eq_true h]
    simp
  · rw [if_neg h, if_neg (by omega), if_neg h, decide_eq_false h, List.take_of_length_le (by omega)]
theorem posC_is {l : List UInt8} {c : UInt8} {k : Nat} (h : c ∉ l.take k) (h2 : l[k]? = some c) : posC l c = k := by
  have hk := (List.getElem?_eq_some_iff.1 h2).1
  have : l.takeWhile (· != c) = l.take k := by
    clear hk
    induction l generalizing k with
    | nil => simp at h2
    | cons b r ih =>
      cases k with
      | zero => simp at h2; subst h2; simp
      | succ k =>
        simp at h h2
        have hb : (b != c) = true := by simpa using fun e => h.1 e.symm
        rw [List.takeWhile_cons, hb, if_pos rfl, List.take_succ_cons, ih h.2 h2]
  unfold posC
  rw [this, List.length_take]
  omega
theorem posC_none {l : List UInt8} {c : UInt8} (h : c ∉ l) : posC l c = l.length := by
  unfold posC
  rw [takeWhile_all c l h]

/-- The reference's reading of a number of at most nine digits. -/
def from9 (l : List UInt8) : Nat := if l.head? = some 45 then 1 else 0
def num9 (l : List UInt8) : Option Int :=
  if 1 ≤ l.length - from9 l ∧ l.length - from9 l ≤ 9 then
    match Lib.decFrom 0 (l.drop (from9 l)) with
    | none => none
    | some m => some (if from9 l = 1 then -(m : Int) else m)
  else none
theorem num9_itoa {a : Int} (h : -100000000 ≤ a ∧ a ≤ 100000000) : num9 (Lib.itoa a) = some a := by
  by_cases h0 : a < 0
  · have h1 := digits_len_le 9 a.natAbs (by omega) (by omega)
    have h2 := decFrom_digits a.natAbs
    obtain ⟨b, r, e, _, _⟩ := digits_head a.natAbs
    have hf : from9 (Lib.itoa a) = 1 := by rw [itoa_neg' h0]; rfl
    have h3 : 1 ≤ (Lib.decDigits a.natAbs).length := by rw [e]; simp
    unfold num9
    rw [hf, itoa_neg' h0, if_pos (by simp; omega)]
    simp only [List.drop_succ_cons, List.drop_zero, h2, if_true]
    congr 1; omega
  · have h1 := digits_len_le 9 a.toNat (by omega) (by omega)
    have h2 := decFrom_digits a.toNat
    obtain ⟨b, r, e, h45, _⟩ := digits_head a.toNat
    have hf : from9 (Lib.itoa a) = 0 := by
      rw [itoa_pos' h0]
      unfold from9
      rw [if_neg (by rw [e]; simp [h45])]
    have h3 : 1 ≤ (Lib.decDigits a.toNat).length := by rw [e]; simp
    unfold num9
    rw [hf, itoa_pos' h0, if_pos (by omega)]
    simp only [List.drop_zero, h2]
    rw [if_neg (by omega)]
    congr 1; omega
theorem implRead_itoa {n : Int} (h : -100000000 ≤ n ∧ n ≤ 100000000) : implRead (Lib.itoa n) = some n := by
  have hl : (Lib.itoa n).length ≤ 10 := by
    by_cases h0 : n < 0
    · rw [itoa_neg' h0]
      have := digits_len_le 9 n.natAbs (by omega) (by omega)
      simp; omega
    · rw [itoa_pos' h0]
      have := digits_len_le 9 n.toNat (by omega) (by omega)
      omega
  unfold implRead
  rw [Lib.atoiAll_short _ (by omega), atoi_itoa]
  simp [Lib.NumEnd.ofOption]
theorem digits_no47 (u : Nat) : (47 : UInt8) ∉ Lib.decDigits u := by
  intro hm
  obtain ⟨k, hk, e⟩ := List.getElem_of_mem hm
  obtain ⟨d, hd⟩ := Lib.digit_of_decFrom _ 0 u (decFrom_digits u) k 47 (by rw [List.getElem?_eq_getElem hk, e])
  simp [Lib.digitVal] at hd
theorem itoa_no47 (n : Int) : (47 : UInt8) ∉ Lib.itoa n := by
  by_cases h : n < 0
  · rw [itoa_neg' h]
    have := digits_no47 n.natAbs
    simp [this]
  · rw [itoa_pos' h]
    exact digits_no47 _
/-- A fraction read by a reading of numbers. -/
def denOf (num : List UInt8 → Option Int) (l : List UInt8) : Option Int := if posC l 47 < l.length then num (l.drop (posC l 47 + 1)) else some 1
def readFrac (num : List UInt8 → Option Int) (l : List UInt8) : Option (Int × Int) :=
  match num (l.take (posC l 47)), denOf num l with
  | some n, some d => if fracB n d = true ∧ fText n d = ⟨l.toArray⟩ then some (n, d) else none
  | _, _ => none
theorem readFrac_form {num : List UInt8 → Option Int} {l : List UInt8} {r : Int × Int} (h : readFrac num l = some r) : fracB r.1 r.2 = true ∧ fText r.1 r.2 = ⟨l.toArray⟩ := by
  unfold readFrac at h
  split at h
  · split at h
    · rename_i hc
      injection h with h
      subst h
      exact hc
    · cases h
  · cases h
theorem fText_bytes (a b : Int) : (fText a b).data.toList = if b = 1 then Lib.itoa a else Lib.itoa a ++ 47 :: Lib.itoa b := by
  unfold fText numText
  split
  · simp
  · rw [ByteArray.data_append, ByteArray.data_append]
    simp
theorem readFrac_of (num : List UInt8 → Option Int) (hnum : ∀ a, -100000000 ≤ a ∧ a ≤ 100000000 → num (Lib.itoa a) = some a) {a b : Int} (hg : fracB a b = true) {l : List UInt8} (hl : fText a b = ⟨l.toArray⟩) : readFrac num l = some (a, b) := by
  have hb := frac_bd hg
  have el : l = if b = 1 then Lib.itoa a else Lib.itoa a ++ 47 :: Lib.itoa b := by
    rw [← fText_bytes, hl]
  have h1 : num (l.take (posC l 47)) = some a ∧ denOf num l = some b := by
    by_cases h : b = 1
    · rw [if_pos h] at el
      have hp : posC l 47 = l.length := posC_none (by rw [el]; exact itoa_no47 a)
      unfold denOf
      rw [hp, List.take_length, el, if_neg (Nat.lt_irrefl _), h]
      exact ⟨hnum a (by omega), rfl⟩
    · rw [if_neg h] at el
      have hp : posC l 47 = (Lib.itoa a).length := by
        refine posC_is ?_ ?_
        · rw [el, List.take_left]; exact itoa_no47 a
        · rw [el]; simp
      unfold denOf
      rw [hp, el, List.take_left, if_pos (by simp), show (Lib.itoa a).length + 1 = (Lib.itoa a ++ [47]).length by simp, show Lib.itoa a ++ 47 :: Lib.itoa b = (Lib.itoa a ++ [47]) ++ Lib.itoa b by simp, List.drop_left]
      exact ⟨hnum a (by omega), hnum b (by omega)⟩
  unfold readFrac
  rw [h1.1, h1.2]
  simp only [hg, hl, and_self, if_true]
theorem readFrac_eq (l : List UInt8) : readFrac num9 l = readFrac implRead l := by
  cases h : readFrac num9 l with
  | some r => exact (readFrac_of implRead (fun a ha => implRead_itoa ha) (readFrac_form h).1 (readFrac_form h).2).symm
  | none =>
    cases h2 : readFrac implRead l with
    | none => rfl
    | some r =>
      have := readFrac_of num9 (fun a ha => num9_itoa ha) (readFrac_form h2).1 (readFrac_form h2).2
      rw [h] at this
      cases this
def pfN (s : ByteArray) : Int := ((readFrac num9 s.data.toList).getD (0, 0)).1
def pfD (s : ByteArray) : Int := ((readFrac num9 s.data.toList).getD (0, 0)).2
def pfOk (s : ByteArray) : Bool := (readFrac num9 s.data.toList).isSome
end Go.Proofs.YtlickpalbfhjoaaDoor
