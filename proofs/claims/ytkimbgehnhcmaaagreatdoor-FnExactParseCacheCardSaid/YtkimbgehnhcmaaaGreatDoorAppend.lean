/- Appending a slice of numbers to one that the call has made itself; the reference's own copy (l1Own); slices.Grow of nothing. -/
import Derived.Test.YtkimbgehnhcmaaaGreatDoorInts
import Derived.Lib.AppendZerosOnto
import Derived.Lib.AppendZeros
namespace Go.Proofs.YtkimbgehnhcmaaaGreatDoor
open Go.RowKit

theorem run_append_nothing (A : Option Addr) (n c c2 : Nat) (ty : TypeId) (w : World) (hc : n ≤ c) :
    (Builtin.append_ #[22, 22] ty #[.slice A n c, .slice none 0 c2]).run Tryz.prog w = .ok (.slice A n c) w := by
  obtain ⟨i0, hi, hz0, hz1, hz2⟩ := info_parts info_int
  have ht : Tryz.prog.underlying 22 = some (.slice 3) := Tryz.underlying22
  have hf := run_firstCells_none (P := Tryz.prog) w i0.size 0 0 c2
  cases A <;> simp [Builtin.append_, run_underlying ht, sizeOf, typeInfo, hi, Builtin.lenOf, hc, hf, storeCells]
theorem OwnI.room {w : World} {base : Nat} {A : Option Addr} {n c : Nat} {xs : List Int} (h : OwnI w base A n c xs) : n ≤ c := by
  rcases h.2 with ⟨h1, h0⟩ | ⟨g, cap, cur, hv, hg, hh, hn, _⟩
  · omega
  · injection hv with _ _ h3
    omega
set_option maxRecDepth 100000 in
/-- append(out, ys...): ys can be read; out is the call's own. -/
theorem append_ints {ops : Array Oper} {rest : List Oper} {o : Oper} {a : Act} {Q : Exit → Act → World → Prop} (hgd : o.guard = none) (s x : Operand)
    (ho : o.op = .call { callee := .builtin .append, args := #[s, x], argTypes := #[22, 22] }) (base : Nat) (A : Option Addr) (n c : Nat) (xs : List Int) (A2 : Option Addr) (m c2 : Nat) (ys : List Int) (w : World)
    (hs : a.eval s = .slice A n c) (hx : a.eval x = .slice A2 m c2) (hown : OwnI w base A n c xs) (hr : RdI w A2 m ys) (hn : n + m ≤ 1048576) (hbase : base ≤ w.heap.size)
    (h : ∀ A' c' w', OwnI w' base A' (n + m) c' (xs ++ ys) → Below base w w' → w.grownBy w' (A.map (·.block)) → wpList Tryz.prog ops Q rest (a.put o.dst (.slice A' (n + m) c')) w') :
    wpList Tryz.prog ops Q (o :: rest) a w := by
  obtain ⟨i0, hi, hz0, hz1, hz2⟩ := info_parts info_int
  cases A2 with
  | none =>
    have hm : m = 0 := by
      rcases Nat.eq_zero_or_pos m with h0 | h0
      · exact h0
      · obtain ⟨b, off, e, _⟩ := hr.2 h0
        cases e
    subst hm
    have hy : ys = [] := List.length_eq_zero_iff.1 hr.1
    subst hy
    refine Lib.wpList_append_run w hgd s x _ _ ho _ _ hs hx _ _ (run_append_nothing A n c c2 _ w hown.room) ?_
    have := h A c w (by simpa using hown) (Below.refl _ _) ⟨rfl, rfl, rfl, Nat.le_refl _, fun k _ _ => rfl⟩
    simpa using this
  | some ad =>
    refine wpList_append_own w hgd s x 22 ho base 3 i0 (.int .i64 0) 1 8 Tryz.underlying22 hi hz0 hz1 hz2 rfl (by decide) _ n (xs.map (Value.int .i64)) hs hown ad m c2 (ys.map (Value.int .i64)) hx ?_ ?_ ?_ (by unfold maxLen; omega) (by omega) hbase ?_
    · simp [hr.1]
    · intro j u hj
      have hjm : j < m := by
        rw [← hr.1]
        rcases Nat.lt_or_ge j ys.length with h1 | h1
        · exact h1
        · rw [List.getElem?_eq_none (by simpa using h1)] at hj; cases hj
      obtain ⟨b, off, e, _, hc⟩ := hr.2 (by omega)
      obtain rfl := Option.some.inj e
      rw [getD_map (by rw [hr.1]; exact hjm)] at hj
      have hj := Option.some.inj hj
      rw [← hj]
      simpa [Addr.add_lit] using hc j hjm
    · intro u hu
      obtain ⟨y, _, rfl⟩ := List.mem_map.1 hu
      simp [Value.oneCell']
    · intro v' w' ho' hg _
      rw [← List.map_append] at ho'
      obtain ⟨A', c', rfl, hO⟩ := own_form ho'
      have hg2 : w.grownBy w' (A.map (·.block)) := by
        have hA : (Value.slice A n c).ownBlock = A.map (·.block) := by cases A <;> rfl
        rw [hA] at hg
        exact hg
      refine h A' c' w' hO ⟨hg2.os, hg2.tape, hg2.output, hg2.size, fun k hk => hg2.block k (by omega) ?_⟩ hg2
      cases A with
      | none => simp
      | some a => have := (hown.lt a rfl).1; simp; omega

/-- What a function that returns a slice of numbers alone hands back: a slice of its own. -/
def RetO (w : World) (ys : List Int) (e : Ending) (w' : World) : Prop :=
  ∃ A c, e = .returned (.slice A ys.length c) ∧ OwnI w' w.heap.size A ys.length c ys ∧ Below w.heap.size w w'
theorem RetO.of {w w' : World} {xs ys : List Int} {A : Option Addr} {n c : Nat} (ho : OwnI w' w.heap.size A n c ys) (hb : Below w.heap.size w w') (h : xs = ys) : RetO w xs (.returned (.slice A n c)) w' := by
  subst h
  have := ho.len
  subst this
  exact ⟨A, c, rfl, ho, hb⟩
end Go.Proofs.YtkimbgehnhcmaaaGreatDoor
