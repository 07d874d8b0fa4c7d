/- Words for slices whose elements are two numbers each (fractions, arrays of two), read or owned; no conditions. -/
import Derived.Test.YtaoacpikmpoodaaInts
namespace Go.Proofs.Ytaoacpikmpoodaa
open Go.RowKit Go.ChangeShapes Go.WideShapes Go.ChangeAt

/-- The cells of a list of pairs. -/
def flatP (xs : List (Int × Int)) : List Value := xs.flatMap fun p => [.int .i64 p.1, .int .i64 p.2]
theorem flatP_len (xs : List (Int × Int)) : (flatP xs).length = xs.length * 2 := by
  induction xs with
  | nil => rfl
  | cons p r ih => simp only [flatP, List.flatMap_cons, List.length_append, List.length_cons, List.length_nil] at ih ⊢; omega
theorem flatP_append (xs ys : List (Int × Int)) : flatP (xs ++ ys) = flatP xs ++ flatP ys := by simp [flatP]
theorem flatP_get (xs : List (Int × Int)) (j : Nat) (hj : j < xs.length) : (flatP xs)[j * 2]? = some (.int .i64 (xs.getD j (0, 0)).1) ∧ (flatP xs)[j * 2 + 1]? = some (.int .i64 (xs.getD j (0, 0)).2) := by
  induction xs generalizing j with
  | nil => simp at hj
  | cons p r ih =>
    cases j with
    | zero => simp [flatP]
    | succ j =>
      have := ih j (by simpa using hj)
      have e : (j + 1) * 2 = j * 2 + 1 + 1 := by omega
      rw [e]
      simp only [flatP, List.flatMap_cons, List.cons_append, List.nil_append, List.getElem?_cons_succ, List.getD_cons_succ] at this ⊢
      exact this

/-- A slice of pairs that can be read. -/
def RdP (w : World) (A : Option Addr) (n : Nat) (xs : List (Int × Int)) : Prop :=
  xs.length = n ∧ (0 < n → ∃ b off, A = some ⟨b, off, none⟩ ∧ b < w.heap.size ∧ ∀ j, j < n → w.cell? ⟨b, off + j * 2, none⟩ = some (.int .i64 (xs.getD j (0, 0)).1) ∧ w.cell? ⟨b, off + j * 2 + 1, none⟩ = some (.int .i64 (xs.getD j (0, 0)).2))
/-- A slice of pairs that the call has made itself, its elements of type T. -/
def OwnP (T : TypeId) (w : World) (base : Nat) (A : Option Addr) (n c : Nat) (xs : List (Int × Int)) : Prop := w.ownsRow base T 2 (.slice A n c) n (flatP xs)

theorem RdP.below {w w' : World} {A : Option Addr} {n : Nat} {xs : List (Int × Int)} (h : RdP w A n xs) (hb : Below w.heap.size w w') : RdP w' A n xs :=
  ⟨h.1, fun hn => by
    obtain ⟨b, off, rfl, hlt, hc⟩ := h.2 hn
    exact ⟨b, off, rfl, Nat.lt_of_lt_of_le hlt hb.size, fun j hj => ⟨(hb.cell (p := ⟨b, off + j * 2, none⟩) hlt).trans (hc j hj).1, (hb.cell (p := ⟨b, off + j * 2 + 1, none⟩) hlt).trans (hc j hj).2⟩⟩⟩
theorem RdP.at_ {w : World} {A : Option Addr} {n : Nat} {xs : List (Int × Int)} (h : RdP w A n xs) {k : Nat} (hk : k < n) :
    ∃ b off, A = some ⟨b, off, none⟩ ∧ b < w.heap.size ∧ w.cell? ⟨b, off + k * 2, none⟩ = some (.int .i64 (xs.getD k (0, 0)).1) ∧ w.cell? ⟨b, off + k * 2 + 1, none⟩ = some (.int .i64 (xs.getD k (0, 0)).2) := by
  obtain ⟨b, off, e, hlt, hc⟩ := h.2 (by omega)
  exact ⟨b, off, e, hlt, hc k hk⟩
theorem RdP.drewN {w : World} {A : Option Addr} {n : Nat} {xs : List (Int × Int)} (h : RdP w A n xs) (m : Nat) : RdP (w.drewN m) A n xs := h
section
variable {T : TypeId} {w w' : World} {base : Nat} {A : Option Addr} {n c : Nat} {xs : List (Int × Int)}
theorem OwnP.len (h : OwnP T w base A n c xs) : xs.length = n := by have := h.1; rw [flatP_len] at this; omega
theorem OwnP.below (h : OwnP T w base A n c xs) (hb : Below w.heap.size w w') : OwnP T w' base A n c xs := by
  obtain ⟨h1, h2⟩ := h
  refine ⟨h1, ?_⟩
  rcases h2 with h2 | ⟨g, cap, cur, hv, hg, hh, r⟩
  · exact Or.inl h2
  · exact Or.inr ⟨g, cap, cur, hv, hg, by rw [hb.block g (Array.getElem?_eq_some_iff.1 hh).1]; exact hh, r⟩
theorem OwnP.more {base' : Nat} (h : OwnP T w base A n c xs) (hb : base' ≤ base) : OwnP T w base' A n c xs := by
  obtain ⟨h1, h2⟩ := h
  refine ⟨h1, ?_⟩
  rcases h2 with h2 | ⟨g, cap, cur, hv, hg, hh, r⟩
  · exact Or.inl h2
  · exact Or.inr ⟨g, cap, cur, hv, Nat.le_trans hb hg, hh, r⟩
theorem OwnP.drewN (h : OwnP T w base A n c xs) (m : Nat) : OwnP T (w.drewN m) base A n c xs := h
theorem OwnP.rd (h : OwnP T w base A n c xs) : RdP w A n xs := by
  have hl := h.len
  refine ⟨hl, fun hn => ?_⟩
  rcases h.2 with ⟨_, h0⟩ | ⟨g, cap, cur, hv, hg, hh, r⟩
  · omega
  · have hA : A = some ⟨g, 0, none⟩ := by injection hv
    subst hA
    refine ⟨g, 0, rfl, (Array.getElem?_eq_some_iff.1 hh).1, fun j hj => ?_⟩
    obtain ⟨e1, e2⟩ := flatP_get xs j (by omega)
    have h1 := World.ownsRow.cells h (g := g) rfl _ _ e1
    have h2 := World.ownsRow.cells h (g := g) rfl _ _ e2
    rw [Addr.add_lit] at h1 h2
    exact ⟨h1, by rw [Nat.add_assoc]; exact h2⟩
theorem OwnP.lt (h : OwnP T w base A n c xs) (a : Addr) (e : A = some a) : base ≤ a.block ∧ a.block < w.heap.size := by
  subst e
  exact World.ownsRow.lt h a.block rfl
theorem OwnP.marked {A' : Option Addr} (h : OwnP T w base A n c xs) (hm : Marked w w' A') (hs : Sep A A') : OwnP T w' base A n c xs := by
  refine World.ownsRow.kept h hm ?_
  cases A with
  | none => exact .inl rfl
  | some a =>
    right
    cases A' with
    | none => simp [Value.ownBlock]
    | some a' => simpa [Value.ownBlock] using hs a a' rfl rfl
theorem OwnP.marks (h : OwnP T w base A n c xs) (hm : Marked w w' A) (hb : base ≤ w.heap.size) : Below base w w' := by
  refine ⟨hm.os, hm.tape, hm.output, hm.size, fun k hk => hm.block k (by omega) ?_⟩
  cases A with
  | none => simp
  | some a => have := (h.lt a rfl).1; simp; omega
end
theorem ownP_form {T : TypeId} {w : World} {base : Nat} {v : Value} {n : Nat} {xs : List (Int × Int)} (h : w.ownsRow base T 2 v n (flatP xs)) : ∃ A c, v = .slice A n c ∧ OwnP T w base A n c xs := by
  rcases h.2 with ⟨rfl, rfl⟩ | ⟨g, cap, cur, rfl, r⟩
  · exact ⟨none, 0, rfl, h⟩
  · exact ⟨_, _, rfl, h⟩
theorem OwnP.nil (T : TypeId) (w : World) (base : Nat) : OwnP T w base none 0 0 [] := World.ownsRow_nil w base _ _
theorem ownP_empty (T : TypeId) (w : World) (base : Nat) (hb : base ≤ w.heap.size) (cs : Array Value) (h : cs = #[]) : OwnP T (w.alloc (.cells cs T)) base (some ⟨w.heap.size, 0, none⟩) 0 0 [] := by
  subst h
  exact World.ownsRow_lit w #[] 0 hb (Nat.zero_le _) rfl
/-- A row of which the first k pairs are copied. -/
theorem copyP_step (xs : List (Int × Int)) (n k : Nat) (hn : xs.length = n) (hk : k < n) :
    ((flatP (xs.take k ++ List.replicate (n - k) (0, 0))).set (k * 2) (.int .i64 (xs.getD k (0, 0)).1)).set (k * 2 + 1) (.int .i64 (xs.getD k (0, 0)).2) = flatP (xs.take (k + 1) ++ List.replicate (n - (k + 1)) (0, 0)) := by
  have e : n - k = (n - (k + 1)) + 1 := by omega
  have hl : (flatP (xs.take k)).length = k * 2 := by rw [flatP_len]; simp; omega
  have hx : xs.getD k (0, 0) = xs[k]'(by omega) := by simp [List.getD_eq_getElem?_getD, List.getElem?_eq_getElem (show k < xs.length by omega)]
  rw [e, List.replicate_succ, flatP_append, List.take_succ_eq_append_getElem (by omega), flatP_append, flatP_append, hx]
  rw [List.set_append_right _ _ (by omega), hl, Nat.sub_self, List.set_append_right _ _ (by omega), hl, show k * 2 + 1 - k * 2 = 1 by omega]
  simp [flatP]
end Go.Proofs.Ytaoacpikmpoodaa
