/- Words for slices of numbers, read or owned, and the law's own helpers over them: the copy, the comparison, the marks; for slices of at most 2^20 numbers. -/
import Derived.Test.YtkimbgehnhcmaaaGreatDoorBase
import Derived.OwnWalk
import Derived.Deep.AppendLies
import Derived.Laws.OwnMore
import Derived.ShutString
import Derived.ChangeOld
namespace Go.Proofs.YtkimbgehnhcmaaaGreatDoor
open Go.RowKit Go.ChangeShapes Go.WideShapes Go.ChangeAt

theorem info_int : (Tryz.prog.info? 3).map (fun i => (i.zero, i.size, i.bytes)) = some (some (.int .i64 0), 1, 8) := by kernel_rfl

/-- A slice of numbers that can be read. -/
def RdI (w : World) (A : Option Addr) (n : Nat) (xs : List Int) : Prop :=
  xs.length = n ∧ (0 < n → ∃ b off, A = some ⟨b, off, none⟩ ∧ b < w.heap.size ∧ ∀ j, j < n → w.cell? ⟨b, off + j, none⟩ = some (.int .i64 (xs.getD j 0)))
/-- A slice of numbers that the call has made itself, in a block from base on. -/
def OwnI (w : World) (base : Nat) (A : Option Addr) (n c : Nat) (xs : List Int) : Prop :=
  w.ownsRow base 3 1 (.slice A n c) n (xs.map (Value.int .i64))

theorem RdI.nil (w : World) (A : Option Addr) : RdI w A 0 [] := ⟨rfl, fun h => absurd h (by omega)⟩
theorem RdI.below {w w' : World} {A : Option Addr} {n : Nat} {xs : List Int} (h : RdI w A n xs) (hb : Below w.heap.size w w') : RdI w' A n xs :=
  ⟨h.1, fun hn => by
    obtain ⟨b, off, rfl, hlt, hc⟩ := h.2 hn
    exact ⟨b, off, rfl, Nat.lt_of_lt_of_le hlt hb.size, fun j hj => (hb.cell (p := ⟨b, off + j, none⟩) hlt).trans (hc j hj)⟩⟩
theorem RdI.at_ {w : World} {A : Option Addr} {n : Nat} {xs : List Int} (h : RdI w A n xs) {k : Nat} (hk : k < n) :
    ∃ b off, A = some ⟨b, off, none⟩ ∧ b < w.heap.size ∧ w.cell? ⟨b, off + k, none⟩ = some (.int .i64 (xs.getD k 0)) := by
  obtain ⟨b, off, e, hlt, hc⟩ := h.2 (by omega)
  exact ⟨b, off, e, hlt, hc k hk⟩
theorem OwnI.len {w : World} {base : Nat} {A : Option Addr} {n c : Nat} {xs : List Int} (h : OwnI w base A n c xs) : xs.length = n := by
  have := h.1; simpa using this
theorem OwnI.below {w w' : World} {base : Nat} {A : Option Addr} {n c : Nat} {xs : List Int} (h : OwnI w base A n c xs) (hb : Below w.heap.size w w') : OwnI w' base A n c xs := by
  obtain ⟨h1, h2⟩ := h
  refine ⟨h1, ?_⟩
  rcases h2 with h2 | ⟨g, cap, cur, hv, hg, hh, r⟩
  · exact Or.inl h2
  · exact Or.inr ⟨g, cap, cur, hv, hg, by rw [hb.block g (Array.getElem?_eq_some_iff.1 hh).1]; exact hh, r⟩
theorem OwnI.more {w : World} {base base' : Nat} {A : Option Addr} {n c : Nat} {xs : List Int} (h : OwnI w base A n c xs) (hb : base' ≤ base) : OwnI w base' A n c xs := by
  obtain ⟨h1, h2⟩ := h
  refine ⟨h1, ?_⟩
  rcases h2 with h2 | ⟨g, cap, cur, hv, hg, hh, r⟩
  · exact Or.inl h2
  · exact Or.inr ⟨g, cap, cur, hv, Nat.le_trans hb hg, hh, r⟩
theorem getD_map {xs : List Int} {j : Nat} (hj : j < xs.length) : (xs.map (Value.int .i64))[j]? = some (.int .i64 (xs.getD j 0)) := by
  simp [List.getElem?_map, List.getElem?_eq_getElem hj]
theorem OwnI.rd {w : World} {base : Nat} {A : Option Addr} {n c : Nat} {xs : List Int} (h : OwnI w base A n c xs) : RdI w A n xs := by
  have hl := h.len
  refine ⟨hl, fun hn => ?_⟩
  rcases h.2 with ⟨_, h0⟩ | ⟨g, cap, cur, hv, hg, hh, r⟩
  · omega
  · have hA : A = some ⟨g, 0, none⟩ := by injection hv
    subst hA
    refine ⟨g, 0, rfl, (Array.getElem?_eq_some_iff.1 hh).1, fun j hj => ?_⟩
    have := World.ownsRow.cells h (g := g) rfl j _ (getD_map (by omega))
    rwa [Addr.add_lit] at this
/-- What an owned value is. -/
theorem own_form {w : World} {base : Nat} {v : Value} {n : Nat} {xs : List Int} (h : w.ownsRow base 3 1 v n (xs.map (Value.int .i64))) : ∃ A c, v = .slice A n c ∧ OwnI w base A n c xs := by
  rcases h.2 with ⟨rfl, rfl⟩ | ⟨g, cap, cur, rfl, r⟩
  · exact ⟨none, 0, rfl, h⟩
  · exact ⟨_, _, rfl, h⟩
theorem OwnI.nil (w : World) (base : Nat) : OwnI w base none 0 0 [] := World.ownsRow_nil w base _ _

theorem grownBy_trans {a b c : World} {row : Option Nat} (h : a.grownBy b row) (k : b.grownBy c row) : a.grownBy c row :=
  ⟨k.os.trans h.os, k.tape.trans h.tape, k.output.trans h.output, Nat.le_trans h.size k.size, fun i hi hne => (k.block i (Nat.lt_of_lt_of_le hi h.size) hne).trans (h.block i hi hne)⟩

/-- A slice of numbers that comes in. -/
def InI (w : World) (A : Option Addr) (n c : Nat) (xs : List Int) : Prop :=
  RdI w A n xs ∧ n ≤ c ∧ c ≤ maxLen ∧ ∀ x ∈ xs, -9223372036854775808 ≤ x ∧ x ≤ 9223372036854775807
theorem row_of_ints {H : Type} {enc : TypeId × Value → H} {W : World} {base : Nat} {spare : Nat → Bool} {held : Bool} {A : Option Addr} {n c : Nat} {d : DataW H} {p : List MemPlace}
    (h : DataW.Trod enc Tryz.prog W base spare held 22 (.slice A n c) d p) : ∃ xs, InI W A n c xs := by
  obtain ⟨fuel, hf⟩ := h
  rcases open_ints Tryz.underlying22 Tryz.underlying3 (by kernel_rfl) hf with ⟨hcs, _⟩ | ⟨x, l, c', zs, hcs, _, hl, hm, hz, _, hcell, hwz⟩
  · simp [Value.cells] at hcs
    obtain ⟨rfl, rfl, rfl⟩ := hcs
    exact ⟨[], RdI.nil _ _, Nat.le_refl _, Nat.zero_le _, fun x hx => by cases hx⟩
  · simp [Value.cells] at hcs
    obtain ⟨rfl, rfl, rfl⟩ := hcs
    have hz' : n ≤ zs.length := by rw [hz]; split <;> omega
    refine ⟨zs.take n, ⟨by simp; omega, fun hn => ?_⟩, hl, hm, fun y hy => bounds_i64 (hwz y (List.mem_of_mem_take hy))⟩
    obtain ⟨b, off, spot⟩ := x
    have h0 := hcell 0 (by omega)
    have hspot : spot = none := by simpa [Addr.add] using World.cell?_spot h0
    subst hspot
    refine ⟨b, off, rfl, ?_, fun j hj => ?_⟩
    · have := World.block_lt_of_cell? _ _ h0
      simpa [Addr.add] using this
    · have := hcell j (by omega)
      rw [Addr.add_lit] at this
      rw [this]
      simp [List.getD_eq_getElem?_getD, hj]

/-- The numbers of a row of which the first k are copied. -/
theorem copy_step (xs : List Int) (n k : Nat) (hn : xs.length = n) (hk : k < n) :
    (((xs.take k ++ List.replicate (n - k) 0).map (Value.int .i64)).set k (.int .i64 (xs.getD k 0))) = (xs.take (k + 1) ++ List.replicate (n - (k + 1)) 0).map (Value.int .i64) := by
  rw [← List.map_set]
  congr 1
  have e : n - k = (n - (k + 1)) + 1 := by omega
  have hl : (xs.take k).length = k := by simp; omega
  rw [List.set_append_right _ _ (by omega), e, List.replicate_succ, hl, Nat.sub_self, List.set_cons_zero, List.take_succ_eq_append_getElem (by omega),
    show xs.getD k 0 = xs[k]'(by omega) by simp [List.getD_eq_getElem?_getD, List.getElem?_eq_getElem (show k < xs.length by omega)]]
  simp only [List.append_assoc, List.cons_append, List.nil_append]

/-- The comparison of two slices that read the same. -/
theorem eqIntS_same (A A' : Option Addr) (n c c' : Nat) (xs : List Int) (w : World) (h1 : RdI w A n xs) (h2 : RdI w A' n xs) (hn : n ≤ 9223372036854775807) :
    Calls Tryz.prog 23 #[.slice A n c, .slice A' n c'] w fun e w' => e = .returned (.bool true) ∧ ∃ m, w' = w.drewN m := by
  have H1 := hide h1
  have H2 := hide h2
  clear h1 h2
  go_enter Tryz.func23, Tryz.ntmps23
  go_wp2
  go_loopw [5] (fun i wr => ∃ k : Nat, k ≤ n ∧ i = .int .i64 k ∧ ∃ m, Hid (wr = w.drewN m)) (fun i _ => n - (intOf i).toNat)
  case atStart => exact ⟨0, Nat.zero_le _, rfl, 0, rfl⟩
  case round =>
    obtain ⟨k, hk, rfl, m, HW⟩ := hrel
    obtain rfl := HW.out
    by_cases hlt : k < n
    · obtain ⟨b, off, rfl, _, hc1⟩ := (H1.out).at_ hlt
      obtain ⟨b', off', rfl, _, hc2⟩ := (H2.out).at_ hlt
      have hlt' : (k : Int) < (n : Int) := by omega
      go_wp2
      go_quiet (fail)
      go_wp2
      go_roundw
      case rel => exact ⟨k + 1, by omega, by go_num, m + _, rfl⟩
      case measure => simp [intOf]; omega
    · go_wp2
      go_ret
      exact ⟨rfl, m, rfl⟩

/-- Only the block of one slice has been written. -/
def Marked (w w' : World) (A : Option Addr) : Prop := w.grownBy w' (A.map (·.block))

theorem OwnI.drewN {w : World} {base : Nat} {A : Option Addr} {n c : Nat} {xs : List Int} (h : OwnI w base A n c xs) (m : Nat) : OwnI (w.drewN m) base A n c xs := h
theorem RdI.drewN {w : World} {A : Option Addr} {n : Nat} {xs : List Int} (h : RdI w A n xs) (m : Nat) : RdI (w.drewN m) A n xs := h
/-- Two slices lie in different blocks. -/
def Sep (A A' : Option Addr) : Prop := ∀ a a', A = some a → A' = some a' → a.block ≠ a'.block
theorem Sep.symm {A A' : Option Addr} (h : Sep A A') : Sep A' A := fun a a' e e' he => h a' a e' e he.symm
theorem OwnI.lt {w : World} {base : Nat} {A : Option Addr} {n c : Nat} {xs : List Int} (h : OwnI w base A n c xs) (a : Addr) (e : A = some a) : base ≤ a.block ∧ a.block < w.heap.size := by
  subst e
  exact World.ownsRow.lt h a.block rfl
theorem sep_new {w w' : World} {base base' : Nat} {A A' : Option Addr} {n c n' c' : Nat} {xs ys : List Int} (h : OwnI w base A n c xs) (h' : OwnI w' base' A' n' c' ys) (hb : w.heap.size ≤ base' := by exact Nat.le_refl _) : Sep A A' := fun a a' e e' he => by
  have := (h.lt a e).2
  have := (h'.lt a' e').1
  omega
theorem OwnI.marked {w w' : World} {base : Nat} {A A' : Option Addr} {n c : Nat} {xs : List Int} (h : OwnI w base A n c xs) (hm : Marked w w' A') (hs : Sep A A') : OwnI w' base A n c xs := by
  refine World.ownsRow.kept h hm ?_
  cases A with
  | none => exact .inl rfl
  | some a =>
    right
    cases A' with
    | none => simp [Value.ownBlock]
    | some a' => simpa [Value.ownBlock] using hs a a' rfl rfl
theorem OwnI.marks {w w' : World} {base : Nat} {A : Option Addr} {n c : Nat} {xs : List Int} (h : OwnI w base A n c xs) (hm : Marked w w' A) (hb : base ≤ w.heap.size) : Below base w w' := by
  refine ⟨hm.os, hm.tape, hm.output, hm.size, fun k hk => hm.block k (by omega) ?_⟩
  cases A with
  | none => simp
  | some a => have := (h.lt a rfl).1; simp; omega
/-- append(out, y): the one number lies in a block of its own, the last; the slice is the call's own. -/
theorem append_int {ops : Array Oper} {rest : List Oper} {o : Oper} {a : Act} {Q : Exit → Act → World → Prop} (hgd : o.guard = none) (s x : Operand)
    (ho : o.op = .call { callee := .builtin .append, args := #[s, x], argTypes := #[22, 22] }) (base : Nat) (A : Option Addr) (n c : Nat) (xs : List Int) (y : Int) (w : World)
    (hs : a.eval s = .slice A n c) (hx : a.eval x = .slice (some ⟨w.heap.size, 0, none⟩) 1 1) (hown : OwnI w base A n c xs) (hn : n ≤ 1048576) (hbase : base ≤ w.heap.size)
    (h : ∀ A' c' w', OwnI w' base A' (n + 1) c' (xs ++ [y]) → Below base w w' → w.grownBy w' (A.map (·.block)) → wpList Tryz.prog ops Q rest (a.put o.dst (.slice A' (n + 1) c')) w') :
    wpList Tryz.prog ops Q (o :: rest) a (w.alloc (.cells #[.int .i64 y] 3)) := by
  obtain ⟨i0, hi, hz0, hz1, hz2⟩ := info_parts info_int
  refine wpList_append_own _ hgd s x 22 ho base 3 i0 (.int .i64 0) 1 8 Tryz.underlying22 hi hz0 hz1 hz2 rfl (by decide) _ n (xs.map (Value.int .i64)) hs (World.ownsRow.alloc hown _) ⟨w.heap.size, 0, none⟩ 1 1 [.int .i64 y] hx rfl ?_ ?_ (by unfold maxLen; omega) (by omega) (by simp; omega) ?_
  · intro j u hj
    match j, hj with
    | 0, hj =>
      simp at hj
      subst hj
      simp [Addr.add_lit]
  · simp [Value.oneCell']
  · intro v' w' ho' hg _
    rw [show (xs.map (Value.int .i64)) ++ [Value.int .i64 y] = (xs ++ [y]).map (Value.int .i64) by simp] at ho'
    obtain ⟨A', c', rfl, hO⟩ := own_form ho'
    have hg2 : w.grownBy w' (A.map (·.block)) := by
      have hA : (Value.slice A n c).ownBlock = A.map (·.block) := by cases A <;> rfl
      rw [hA] at hg
      exact grownBy_trans (World.grownBy_alloc w _ _) hg
    refine h A' c' w' hO ⟨hg2.os, hg2.tape, hg2.output, hg2.size, fun k hk => hg2.block k (by omega) ?_⟩ hg2
    cases A with
    | none => simp
    | some a => have := (hown.lt a rfl).1; simp; omega
/-- The empty slice of a literal. -/
theorem own_empty (w : World) (base : Nat) (hb : base ≤ w.heap.size) (cs : Array Value) (h : cs = #[]) : OwnI (w.alloc (.cells cs 3)) base (some ⟨w.heap.size, 0, none⟩) 0 0 [] := by
  subst h
  exact World.ownsRow_lit w #[] 0 hb (Nat.zero_le _) rfl
/-- What a function that returns a slice of numbers and a bool hands back: a slice of its own. -/
def RetI (w : World) (r : List Int × Bool) (e : Ending) (w' : World) : Prop :=
  ∃ A c, e = .returned (.tuple #[.slice A r.1.length c, .bool r.2]) ∧ OwnI w' w.heap.size A r.1.length c r.1 ∧ Below w.heap.size w w'
theorem RetI.of {w w' : World} {r : List Int × Bool} {A : Option Addr} {n c : Nat} {ys : List Int} {b : Bool} (ho : OwnI w' w.heap.size A n c ys) (hb : Below w.heap.size w w') (h : r = (ys, b)) :
    RetI w r (.returned (.tuple #[.slice A n c, .bool b])) w' := by
  subst h
  have := ho.len
  subst this
  exact ⟨A, c, rfl, ho, hb⟩

end Go.Proofs.YtkimbgehnhcmaaaGreatDoor
