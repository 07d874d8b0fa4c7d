/- append of one number, and where the new row lies; for slices of at most 2^20 numbers. -/
import Derived.Test.YtkimbgehnhcmaaaGreatDoorPut
namespace Go.Proofs.YtkimbgehnhcmaaaGreatDoor
open Go.RowKit
theorem append_int_lies {ops : Array Oper} {rest : List Oper} {o : Oper} {a : Act} {Q : Exit → Act → World → Prop} (hgd : o.guard = none) (s x : Operand)
    (ho : o.op = .call { callee := .builtin .append, args := #[s, x], argTypes := #[22, 22] }) (base : Nat) (A : Option Addr) (n c : Nat) (xs : List Int) (y : Int) (w : World)
    (hs : a.eval s = .slice A n c) (hx : a.eval x = .slice (some ⟨w.heap.size, 0, none⟩) 1 1) (hown : OwnI w base A n c xs) (hn : n ≤ 1048575) (hbase : base ≤ w.heap.size)
    (h : ∀ A' c' w', OwnI w' base A' (n + 1) c' (xs ++ [y]) → Below base w w' → w.grownBy w' (A.map (·.block)) → (∀ a', A' = some a' → A.map (·.block) = some a'.block ∨ w.heap.size ≤ a'.block) → wpList Tryz.prog ops Q rest (a.put o.dst (.slice A' (n + 1) c')) w') :
    wpList Tryz.prog ops Q (o :: rest) a (w.alloc (.cells #[.int .i64 y] 3)) := by
  obtain ⟨A', c', w', h1, h2, h3, h4, h5⟩ := run_append_ints base A n c xs (some ⟨w.heap.size, 0, none⟩) 1 1 [y] o.type (w.alloc (.cells #[.int .i64 y] 3)) (hown.below ((Below.refl _ _).alloc (Nat.le_refl _) _)) (rd_one w y) (by omega) (by simp; omega)
  refine Lib.wpList_append_run _ hgd s x _ _ ho _ _ hs hx _ _ h1 (h A' c' w' h2 ?_ (grownBy_trans (World.grownBy_alloc w _ _) h4) (fun a' e => ?_))
  · exact ((Below.refl _ _).alloc hbase _).trans h3
  · rcases h5 a' e with h | h
    · exact .inl h
    · right; simp at h; omega
theorem sep_lies {w : World} {base : Nat} {A A' AN : Option Addr} (hl : ∀ a', A' = some a' → A.map (·.block) = some a'.block ∨ w.heap.size ≤ a'.block) (hs : Sep A AN) (hN : ∀ a, AN = some a → base ≤ a.block ∧ a.block < w.heap.size) : Sep A' AN := by
  intro a' n e en he
  have h1 := (hN n en).2
  rcases hl a' e with h2 | h2
  · cases A with
    | none => cases h2
    | some a =>
      injection h2 with h2
      exact hs a n rfl en (h2.trans he)
  · omega
end Go.Proofs.YtkimbgehnhcmaaaGreatDoor
