/- Slices of texts that the call has made itself: their words, and an append of one text; no conditions beyond the lengths. -/
import Derived.Test.YtkimbgehnhcmaaaGreatDoorBase
import Derived.OwnWalk
import Derived.Deep.AppendLies
import Derived.Laws.OwnMore
import Derived.ShutString
import Derived.ChangeOld
namespace Go.Proofs.YtkimbgehnhcmaaaGreatDoor
open Go.RowKit Go.ChangeShapes Go.WideShapes Go.ChangeAt

theorem info_string : (Tryz.prog.info? 9).map (fun i => (i.zero, i.size, i.bytes)) = some (some (.string ByteArray.empty), 1, 16) := by kernel_rfl

/-- A slice of texts that can be read. -/
def RdS (w : World) (A : Option Addr) (n : Nat) (xs : List ByteArray) : Prop :=
  xs.length = n ∧ (0 < n → ∃ b off, A = some ⟨b, off, none⟩ ∧ b < w.heap.size ∧ ∀ j, j < n → w.cell? ⟨b, off + j, none⟩ = some (.string (xs.getD j ByteArray.empty)))
/-- A slice of texts that the call has made itself, in a block from base on. -/
def OwnS (w : World) (base : Nat) (A : Option Addr) (n c : Nat) (xs : List ByteArray) : Prop :=
  w.ownsRow base 9 1 (.slice A n c) n (xs.map Value.string)
theorem RdS.nil (w : World) (A : Option Addr) : RdS w A 0 [] := ⟨rfl, fun h => absurd h (by omega)⟩
theorem RdS.below {w w' : World} {A : Option Addr} {n : Nat} {xs : List ByteArray} (h : RdS w A n xs) (hb : Below w.heap.size w w') : RdS w' A n xs :=
  ⟨h.1, fun hn => by
    obtain ⟨b, off, rfl, hlt, hc⟩ := h.2 hn
    exact ⟨b, off, rfl, Nat.lt_of_lt_of_le hlt hb.size, fun j hj => (hb.cell (p := ⟨b, off + j, none⟩) hlt).trans (hc j hj)⟩⟩
theorem RdS.at_ {w : World} {A : Option Addr} {n : Nat} {xs : List ByteArray} (h : RdS w A n xs) {k : Nat} (hk : k < n) :
    ∃ b off, A = some ⟨b, off, none⟩ ∧ b < w.heap.size ∧ w.cell? ⟨b, off + k, none⟩ = some (.string (xs.getD k ByteArray.empty)) := by
  obtain ⟨b, off, e, hlt, hc⟩ := h.2 (by omega)
  exact ⟨b, off, e, hlt, hc k hk⟩
theorem OwnS.len {w : World} {base : Nat} {A : Option Addr} {n c : Nat} {xs : List ByteArray} (h : OwnS w base A n c xs) : xs.length = n := by
  have := h.1; simpa using this
theorem OwnS.below {w w' : World} {base : Nat} {A : Option Addr} {n c : Nat} {xs : List ByteArray} (h : OwnS w base A n c xs) (hb : Below w.heap.size w w') : OwnS w' base A n c xs := by
  obtain ⟨h1, h2⟩ := h
  refine ⟨h1, ?_⟩
  rcases h2 with h2 | ⟨g, cap, cur, hv, hg, hh, r⟩
  · exact Or.inl h2
  · exact Or.inr ⟨g, cap, cur, hv, hg, by rw [hb.block g (Array.getElem?_eq_some_iff.1 hh).1]; exact hh, r⟩
theorem OwnS.more {w : World} {base base' : Nat} {A : Option Addr} {n c : Nat} {xs : List ByteArray} (h : OwnS w base A n c xs) (hb : base' ≤ base) : OwnS w base' A n c xs := by
  obtain ⟨h1, h2⟩ := h
  refine ⟨h1, ?_⟩
  rcases h2 with h2 | ⟨g, cap, cur, hv, hg, hh, r⟩
  · exact Or.inl h2
  · exact Or.inr ⟨g, cap, cur, hv, Nat.le_trans hb hg, hh, r⟩
theorem OwnS.room {w : World} {base : Nat} {A : Option Addr} {n c : Nat} {xs : List ByteArray} (h : OwnS w base A n c xs) : n ≤ c := by
  rcases h.2 with ⟨h1, h0⟩ | ⟨g, cap, cur, hv, hg, hh, hn, _⟩
  · omega
  · injection hv with _ _ h3
    omega
theorem getD_mapS {xs : List ByteArray} {j : Nat} (hj : j < xs.length) : (xs.map Value.string)[j]? = some (.string (xs.getD j ByteArray.empty)) := by
  simp [List.getElem?_map, List.getElem?_eq_getElem hj]
theorem OwnS.rd {w : World} {base : Nat} {A : Option Addr} {n c : Nat} {xs : List ByteArray} (h : OwnS w base A n c xs) : RdS w A n xs := by
  have hl := h.len
  refine ⟨hl, fun hn => ?_⟩
  rcases h.2 with ⟨_, h0⟩ | ⟨g, cap, cur, hv, hg, hh, r⟩
  · omega
  · have hA : A = some ⟨g, 0, none⟩ := by injection hv
    subst hA
    refine ⟨g, 0, rfl, (Array.getElem?_eq_some_iff.1 hh).1, fun j hj => ?_⟩
    have := World.ownsRow.cells h (g := g) rfl j _ (getD_mapS (by omega))
    rwa [Addr.add_lit] at this
theorem ownS_form {w : World} {base : Nat} {v : Value} {n : Nat} {xs : List ByteArray} (h : w.ownsRow base 9 1 v n (xs.map Value.string)) : ∃ A c, v = .slice A n c ∧ OwnS w base A n c xs := by
  rcases h.2 with ⟨rfl, rfl⟩ | ⟨g, cap, cur, rfl, r⟩
  · exact ⟨none, 0, rfl, h⟩
  · exact ⟨_, _, rfl, h⟩
theorem OwnS.nil (w : World) (base : Nat) : OwnS w base none 0 0 [] := World.ownsRow_nil w base _ _
theorem ownS_empty (w : World) (base : Nat) (hb : base ≤ w.heap.size) (cs : Array Value) (h : cs = #[]) : OwnS (w.alloc (.cells cs 9)) base (some ⟨w.heap.size, 0, none⟩) 0 0 [] := by
  subst h
  exact World.ownsRow_lit w #[] 0 hb (Nat.zero_le _) rfl
theorem OwnS.lt {w : World} {base : Nat} {A : Option Addr} {n c : Nat} {xs : List ByteArray} (h : OwnS w base A n c xs) (a : Addr) (e : A = some a) : base ≤ a.block ∧ a.block < w.heap.size := by
  subst e
  rcases h.2 with ⟨k, _⟩ | ⟨g, cap, cur, k, hg, hh, _⟩
  · cases k
  · injection k with k
    injection k with k
    subst k
    exact ⟨hg, (Array.getElem?_eq_some_iff.1 hh).1⟩
theorem grown_trans {a b c : World} {row : Option Nat} (h : a.grownBy b row) (k : b.grownBy c row) : a.grownBy c row :=
  ⟨k.os.trans h.os, k.tape.trans h.tape, k.output.trans h.output, Nat.le_trans h.size k.size, fun i hi hne => (k.block i (Nat.lt_of_lt_of_le hi h.size) hne).trans (h.block i hi hne)⟩

/-- append(out, text): out is the call's own. -/
theorem append_str {ops : Array Oper} {rest : List Oper} {o : Oper} {a : Act} {Q : Exit → Act → World → Prop} (hgd : o.guard = none) (s x : Operand)
    (ho : o.op = .call { callee := .builtin .append, args := #[s, x], argTypes := #[30, 30] }) (base : Nat) (A : Option Addr) (n c : Nat) (xs : List ByteArray) (y : ByteArray) (w : World)
    (hs : a.eval s = .slice A n c) (hx : a.eval x = .slice (some ⟨w.heap.size, 0, none⟩) 1 1) (hown : OwnS w base A n c xs) (hn : n ≤ 1048576) (hbase : base ≤ w.heap.size)
    (h : ∀ A' c' w', OwnS w' base A' (n + 1) c' (xs ++ [y]) → Below base w w' → w.grownBy w' (A.map (·.block)) → wpList Tryz.prog ops Q rest (a.put o.dst (.slice A' (n + 1) c')) w') :
    wpList Tryz.prog ops Q (o :: rest) a (w.alloc (.cells #[.string y] 9)) := by
  obtain ⟨i0, hi, hz0, hz1, hz2⟩ := info_parts info_string
  refine wpList_append_own _ hgd s x 30 ho base 9 i0 (.string ByteArray.empty) 1 16 Tryz.underlying30 hi hz0 hz1 hz2 rfl (by decide) _ n (xs.map Value.string) hs (World.ownsRow.alloc hown _) ⟨w.heap.size, 0, none⟩ 1 1 [.string y] hx rfl ?_ ?_ (by unfold maxLen; omega) (by omega) (by simp; omega) ?_
  · intro j u hj
    match j, hj with
    | 0, hj =>
      simp at hj
      subst hj
      simp [Addr.add_lit]
  · intro u hu
    simp at hu
    subst hu
    simp [Value.oneCell']
  · intro v' w' ho' hg _
    have e1 : xs.map Value.string ++ [Value.string y] = (xs ++ [y]).map Value.string := by simp
    rw [e1] at ho'
    obtain ⟨A', c', rfl, hO⟩ := ownS_form ho'
    have hg2 : w.grownBy w' (A.map (·.block)) := by
      have hA : (Value.slice A n c).ownBlock = A.map (·.block) := by cases A <;> rfl
      rw [hA] at hg
      exact grown_trans (World.grownBy_alloc w _ _) hg
    refine h A' c' w' hO ⟨hg2.os, hg2.tape, hg2.output, hg2.size, fun k hk => hg2.block k (by omega) ?_⟩ hg2
    cases A with
    | none => simp
    | some a => have := (hown.lt a rfl).1; simp; omega
/-- What a function that returns a slice of texts hands back: a slice of its own. -/
def RetS (w : World) (ys : List ByteArray) (e : Ending) (w' : World) : Prop :=
  ∃ A c, e = .returned (.slice A ys.length c) ∧ OwnS w' w.heap.size A ys.length c ys ∧ Below w.heap.size w w'
theorem RetS.of {w w' : World} {xs ys : List ByteArray} {A : Option Addr} {n c : Nat} (ho : OwnS w' w.heap.size A n c ys) (hb : Below w.heap.size w w') (h : xs = ys) : RetS w xs (.returned (.slice A n c)) w' := by
  subst h
  have := ho.len
  subst this
  exact ⟨A, c, rfl, ho, hb⟩
end Go.Proofs.YtkimbgehnhcmaaaGreatDoor
