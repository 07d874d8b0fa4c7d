/- Plans of a cache, as lists: which are possible. Plain Lean. -/
import Derived.Test.YtbceekcfokgmpaaProjF
namespace Go.Proofs.Ytbceekcfokgmpaa
open Go.Lib
def outL (L : List Int) (p : Int) : List Int := L.filter fun y => y != p
def plStep (k : Int) (L : List Int) (x p : Int) : Option (List Int) :=
  if hasB L x = true then (if 0 ≤ p then none else some L)
  else if 0 ≤ p ∧ hasB L p = false then none
  else if k < ((outL L p).length : Int) + 1 then none else some (outL L p ++ [x])
def plRun (k : Int) (xs ps : List Int) : Nat → Option (List Int)
  | 0 => some []
  | i + 1 => (plRun k xs ps i).bind fun L => plStep k L (xs.getD i 0) (ps.getD i 0)
theorem plRun_some (k : Int) (xs ps : List Int) (i : Nat) (L : List Int) (h : plRun k xs ps i = some L) : plRun k xs ps (i + 1) = plStep k L (xs.getD i 0) (ps.getD i 0) := by rw [plRun, h]; rfl
theorem plRun_none (k : Int) (xs ps : List Int) (i n : Nat) (h : plRun k xs ps i = none) (hn : i ≤ n) : plRun k xs ps n = none := by
  induction n with
  | zero => rw [show 0 = i by omega]; exact h
  | succ n ih =>
    by_cases e : i = n + 1
    · rw [← e]; exact h
    · rw [plRun, ih (by omega)]; rfl
def PlInv (k : Int) (L : List Int) : Prop := L.Nodup ∧ (∀ y ∈ L, 0 ≤ y) ∧ (L.length : Int) ≤ k
theorem hasB_mem (L : List Int) (x : Int) : hasB L x = true ↔ x ∈ L := by unfold hasB; exact List.contains_iff_mem
theorem hasB_not (L : List Int) (x : Int) : hasB L x = false ↔ x ∉ L := by
  rw [← hasB_mem]
  cases hasB L x <;> simp
theorem outL_mem (L : List Int) (p y : Int) : y ∈ outL L p ↔ y ∈ L ∧ y ≠ p := by unfold outL; rw [List.mem_filter]; simp
theorem outL_nodup (L : List Int) (p : Int) (h : L.Nodup) : (outL L p).Nodup := h.sublist List.filter_sublist
theorem plStep_inv (k : Int) (L L' : List Int) (x p : Int) (hx : 0 ≤ x) (h : PlInv k L) (he : plStep k L x p = some L') : PlInv k L' := by
  obtain ⟨h1, h2, h3⟩ := h
  unfold plStep at he
  split at he
  · split at he
    · cases he
    · injection he with he; subst he; exact ⟨h1, h2, h3⟩
  · rename_i hx1
    split at he
    · cases he
    · split at he
      · cases he
      · rename_i hk
        injection he with he
        subst he
        have hxn : x ∉ L := by rw [← hasB_mem]; exact hx1
        refine ⟨?_, ?_, by simp; omega⟩
        · rw [List.nodup_append]
          refine ⟨outL_nodup L p h1, by simp, fun a ha b hb => ?_⟩
          rw [List.mem_singleton] at hb
          subst hb
          intro e
          subst e
          exact hxn ((outL_mem L p a).1 ha).1
        · intro y hy
          rcases List.mem_append.1 hy with hy | hy
          · exact h2 y ((outL_mem L p y).1 hy).1
          · rw [List.mem_singleton] at hy; subst hy; exact hx
theorem outL_neg (L : List Int) (p : Int) (h : ∀ y ∈ L, 0 ≤ y) (hp : p < 0) : outL L p = L := by
  unfold outL
  rw [List.filter_eq_self]
  intro y hy
  have := h y hy
  simp
  omega
theorem outL_at (L : List Int) (p : Int) (h : L.Nodup) (hp : p ∈ L) : ∃ a : Nat, idxOf L p = (a : Int) ∧ a < L.length ∧ L.take a ++ L.drop (a + 1) = outL L p := by
  obtain ⟨s, t, rfl, hs⟩ := List.eq_append_cons_of_mem hp
  have ht : p ∉ t := by
    rw [List.nodup_append] at h
    have := h.2.1
    rw [List.nodup_cons] at this
    exact this.1
  refine ⟨s.length, ?_, by simp, ?_⟩
  · have := idxOf_hit (s ++ p :: t) (s ++ p :: t).length s.length p (by simp) (Nat.le_refl _) (by simp [List.getD_eq_getElem?_getD]) (fun j hj e => by
      rw [List.getD_eq_getElem?_getD, List.getElem?_append_left hj, List.getElem?_eq_getElem hj] at e
      exact hs (by rw [← e]; exact List.getElem_mem hj))
    rwa [List.take_length] at this
  · unfold outL
    rw [List.filter_append, List.filter_cons, List.take_left]
    have e1 : s.filter (fun y => y != p) = s := by
      rw [List.filter_eq_self]
      intro y hy
      simp
      intro e
      subst e
      exact hs hy
    have e2 : t.filter (fun y => y != p) = t := by
      rw [List.filter_eq_self]
      intro y hy
      simp
      intro e
      subst e
      exact ht hy
    rw [e1, e2]
    simp
theorem idxOf_no (L : List Int) (p : Int) (hp : p ∉ L) : idxOf L p = -1 := by
  have := idxOf_miss L L.length p (fun j hj e => hp (by rw [← e]; exact mem_getD hj))
  rwa [List.take_length] at this
theorem rise_out (L : List Int) (p : Int) : riseL (outL L p) = outL (riseL L) p := by
  refine sorted_ext _ _ (rise_sorted _) ((rise_sorted L).sublist List.filter_sublist) fun x => ?_
  rw [rise_mem, outL_mem, outL_mem, rise_mem]
theorem hasB_rise (L : List Int) (x : Int) : hasB (riseL L) x = hasB L x := by
  rw [Bool.eq_iff_iff, hasB_mem, hasB_mem, rise_mem]
theorem putR_more (l : List Int) (n : Int) (h : n ∉ l) : (putR l n).length = l.length + 1 := by
  induction l with
  | nil => simp [putR]
  | cons a r ih =>
    rw [List.mem_cons, not_or] at h
    unfold putR
    split
    · simp [ih h.2]
    · rw [if_neg (fun e => h.1 e.symm)]
      simp
theorem rise_fold_len (xs l : List Int) (h1 : l.Pairwise (· < ·)) (h2 : xs.Nodup) (h3 : ∀ x ∈ xs, x ∉ l) : (xs.foldl putL l).length = l.length + xs.length := by
  induction xs generalizing l with
  | nil => simp
  | cons a r ih =>
    rw [List.nodup_cons] at h2
    rw [List.foldl_cons, ih (putL l a) (by rw [putL_putR]; exact putR_sorted l a h1) h2.2 (fun x hx hm => by
      rw [putL_putR, putR_mem] at hm
      rcases hm with hm | hm
      · exact h3 x (List.mem_cons_of_mem _ hx) hm
      · subst hm; exact h2.1 hx)]
    rw [putL_putR, putR_more l a (h3 a (by simp)), List.length_cons]
    omega
theorem rise_len_nodup (L : List Int) (h : L.Nodup) : (riseL L).length = L.length := by
  have := rise_fold_len L [] (by simp) h (fun x _ => by simp)
  simpa [riseL] using this
def planB (q : Int) (ps : List Int) : Bool := ps.all fun p => decide (-1 ≤ p ∧ p ≤ q - 1)
def planOk (k q : Int) (xs ps : List Int) : Bool := decide (1 ≤ k ∧ k ≤ 6) && (reqB q xs && (decide (ps.length = xs.length) && planB q ps))
def isPlanV (k q : Int) (xs ps : List Int) : Bool × Bool := if planOk k q xs ps = true then ((plRun k xs ps xs.length).isSome, true) else (false, false)
theorem planB_no (q : Int) (ps : List Int) (k : Nat) (hk : k < ps.length) (h : ¬ (-1 ≤ ps.getD k 0 ∧ ps.getD k 0 ≤ q - 1)) : planB q ps = false := by
  unfold planB
  rw [List.all_eq_false]
  exact ⟨ps.getD k 0, mem_getD hk, by simpa using h⟩
theorem planB_yes (q : Int) (ps : List Int) (h : ∀ k, k < ps.length → -1 ≤ ps.getD k 0 ∧ ps.getD k 0 ≤ q - 1) : planB q ps = true := by
  unfold planB
  rw [List.all_eq_true]
  intro x hx
  obtain ⟨k, hk, rfl⟩ := List.getElem_of_mem hx
  have := h k hk
  rw [getD_elem ps k hk] at this
  simpa using this
theorem planB_get {q : Int} {ps : List Int} (h : planB q ps = true) (k : Nat) (hk : k < ps.length) : -1 ≤ ps.getD k 0 ∧ ps.getD k 0 ≤ q - 1 := by
  unfold planB at h
  rw [List.all_eq_true] at h
  simpa using h _ (mem_getD hk)
/-- What a step says, case by case. -/
theorem step_hit_bad {k : Int} {L : List Int} {x p : Int} (h1 : hasB L x = true) (h2 : 0 ≤ p) : plStep k L x p = none := by unfold plStep; rw [if_pos h1, if_pos h2]
theorem step_hit {k : Int} {L : List Int} {x p : Int} (h1 : hasB L x = true) (h2 : ¬ 0 ≤ p) : plStep k L x p = some L := by unfold plStep; rw [if_pos h1, if_neg h2]
theorem step_away {k : Int} {L : List Int} {x p : Int} (h1 : hasB L x = false) (h2 : 0 ≤ p) (h3 : hasB L p = false) : plStep k L x p = none := by unfold plStep; rw [if_neg (by rw [h1]; simp), if_pos ⟨h2, h3⟩]
theorem step_full {k : Int} {L : List Int} {x p : Int} (h1 : hasB L x = false) (h3 : ¬ (0 ≤ p ∧ hasB L p = false)) (h4 : k < ((outL L p).length : Int) + 1) : plStep k L x p = none := by unfold plStep; rw [if_neg (by rw [h1]; simp), if_neg h3, if_pos h4]
theorem step_in {k : Int} {L : List Int} {x p : Int} (h1 : hasB L x = false) (h3 : ¬ (0 ≤ p ∧ hasB L p = false)) (h4 : ¬ k < ((outL L p).length : Int) + 1) : plStep k L x p = some (outL L p ++ [x]) := by unfold plStep; rw [if_neg (by rw [h1]; simp), if_neg h3, if_neg h4]
end Go.Proofs.Ytbceekcfokgmpaa
