/- The variable in which a cache is put together, with its two lists: what an append to either of them and the store behind it leave; what ParseCache hands back; no conditions but the lengths. -/
import Derived.Test.YtkimbgehnhcmaaaGreatDoorCacheA
import Derived.Test.YtkimbgehnhcmaaaGreatDoorLies
import Derived.Test.YtkimbgehnhcmaaaGreatDoorStrs
import Derived.Test.YtkimbgehnhcmaaaGreatDoorPcP
namespace Go.Proofs.YtkimbgehnhcmaaaGreatDoor
open Go.RowKit

/-- A row of numbers and a row of texts never share a block. -/
theorem own_apartS {w : World} {b1 b2 : Nat} {A1 A2 : Option Addr} {n1 c1 n2 c2 : Nat} {xs : List Int} {ys : List ByteArray} (h1 : OwnI w b1 A1 n1 c1 xs) (h2 : OwnS w b2 A2 n2 c2 ys) : ∀ a a', A1 = some a → A2 = some a' → a.block ≠ a'.block := by
  intro a a' e e' he
  subst e e'
  rcases h1.2 with ⟨k1, _⟩ | ⟨g, cap, cur, k1, _, hh, _⟩
  · cases k1
  · rcases h2.2 with ⟨k2, _⟩ | ⟨g', cap', cur', k2, _, hh', _⟩
    · cases k2
    · injection k1 with k1
      have k1 := Option.some.inj k1
      injection k2 with k2
      have k2 := Option.some.inj k2
      subst k1 k2
      simp only at he
      subst he
      rw [hh] at hh'
      injection (Option.some.inj hh') with _ ht
      exact absurd ht (by decide)
theorem OwnS.grown {w w' : World} {base : Nat} {A A' : Option Addr} {n c : Nat} {xs : List ByteArray} (h : OwnS w base A n c xs) (hg : w.grownBy w' (A'.map (·.block))) (hs : ∀ a a', A' = some a → A = some a' → a.block ≠ a'.block) : OwnS w' base A n c xs := by
  refine World.ownsRow.kept h hg ?_
  cases A with
  | none => exact .inl rfl
  | some a =>
    right
    cases A' with
    | none => simp [Value.ownBlock]
    | some a' => simpa [Value.ownBlock] using (hs a' a rfl rfl).symm

/-- A block of a cache's five cells. -/
def Blk (w : World) (b : Nat) (v0 v1 v2 v3 v4 : Value) : Prop := w.heap[b]? = some (.cells #[v0, v1, v2, v3, v4] 24 (0, 0))
theorem Blk.lt {w : World} {b : Nat} {v0 v1 v2 v3 v4 : Value} (h : Blk w b v0 v1 v2 v3 v4) : b < w.heap.size := (Array.getElem?_eq_some_iff.1 h).1
theorem Blk.five {w : World} {b : Nat} {v0 v1 v2 v3 v4 : Value} (h : Blk w b v0 v1 v2 v3 v4) : Five w b v0 v1 v2 v3 v4 := by
  unfold Blk at h
  refine ⟨Blk.lt h, ?_, ?_, ?_, ?_, ?_⟩ <;> simp [World.cell?, h]
theorem Blk.frz {w : World} {b : Nat} {v0 v1 v2 v3 v4 : Value} (h : Blk w b v0 v1 v2 v3 v4) (j : Nat) : w.frozen? ⟨b, j, none⟩ = false := by
  unfold Blk at h
  simp [World.frozen?, h]
theorem Blk.new (w : World) (v0 v1 v2 v3 v4 : Value) : Blk (w.alloc (.cells #[v0, v1, v2, v3, v4] 24)) w.heap.size v0 v1 v2 v3 v4 := heap_alloc_new w _
theorem Blk.on {w w' : World} {b : Nat} {v0 v1 v2 v3 v4 : Value} (h : Blk w b v0 v1 v2 v3 v4) (hb : Below w.heap.size w w') : Blk w' b v0 v1 v2 v3 v4 := (hb.block b h.lt).trans h
theorem Blk.grown {w w' : World} {b : Nat} {v0 v1 v2 v3 v4 : Value} {A : Option Addr} (h : Blk w b v0 v1 v2 v3 v4) (hg : w.grownBy w' (A.map (·.block))) (hs : ∀ a, A = some a → a.block ≠ b) : Blk w' b v0 v1 v2 v3 v4 := by
  refine (hg.block b h.lt ?_).trans h
  cases A with
  | none => simp
  | some a => simpa using (hs a rfl).symm
theorem blk_set {w : World} {b j : Nat} {v0 v1 v2 v3 v4 u : Value} (h : Blk w b v0 v1 v2 v3 v4) : (w.setCell ⟨b, j, none⟩ u).heap[b]? = some (.cells (#[v0, v1, v2, v3, v4].setIfInBounds j u) 24 (0, 0)) := by
  unfold Blk at h
  simp [World.setCell, Array.getElem?_modify, h]
theorem Blk.set0 {w : World} {b : Nat} {v0 v1 v2 v3 v4 : Value} (h : Blk w b v0 v1 v2 v3 v4) (u : Value) : Blk (w.setCell ⟨b, 0, none⟩ u) b u v1 v2 v3 v4 := blk_set h
theorem Blk.set1 {w : World} {b : Nat} {v0 v1 v2 v3 v4 : Value} (h : Blk w b v0 v1 v2 v3 v4) (u : Value) : Blk (w.setCell ⟨b, 1, none⟩ u) b v0 u v2 v3 v4 := blk_set h
theorem Blk.set2 {w : World} {b : Nat} {v0 v1 v2 v3 v4 : Value} (h : Blk w b v0 v1 v2 v3 v4) (u : Value) : Blk (w.setCell ⟨b, 2, none⟩ u) b v0 v1 u v3 v4 := blk_set h
theorem Blk.set3 {w : World} {b : Nat} {v0 v1 v2 v3 v4 : Value} (h : Blk w b v0 v1 v2 v3 v4) (u : Value) : Blk (w.setCell ⟨b, 3, none⟩ u) b v0 v1 v2 u v4 := blk_set h
theorem Blk.set4 {w : World} {b : Nat} {v0 v1 v2 v3 v4 : Value} (h : Blk w b v0 v1 v2 v3 v4) (u : Value) : Blk (w.setCell ⟨b, 4, none⟩ u) b v0 v1 v2 v3 u := blk_set h
theorem Blk.setx {w : World} {b b' j : Nat} {v0 v1 v2 v3 v4 : Value} (h : Blk w b v0 v1 v2 v3 v4) (u : Value) (hne : b ≠ b') : Blk (w.setCell ⟨b', j, none⟩ u) b v0 v1 v2 v3 v4 := by
  unfold Blk at h ⊢
  rw [Below.heap_setCell w _ u b hne]
  exact h
theorem Blk.apart {w : World} {b base : Nat} {v0 v1 v2 v3 v4 : Value} {A : Option Addr} {n c : Nat} {xs : List Int} (h : Blk w b v0 v1 v2 v3 v4) (ho : OwnI w base A n c xs) : ∀ a, A = some a → a.block ≠ b := by
  intro a e he
  subst e
  rcases ho.2 with ⟨k1, _⟩ | ⟨g, cap, cur, k1, _, hh, _⟩
  · cases k1
  · injection k1 with k1
    have k1 := Option.some.inj k1
    subst k1
    simp only at he
    subst he
    rw [h] at hh
    injection (Option.some.inj hh) with _ ht
    exact absurd ht (by decide)
theorem Blk.apartS {w : World} {b base : Nat} {v0 v1 v2 v3 v4 : Value} {A : Option Addr} {n c : Nat} {xs : List ByteArray} (h : Blk w b v0 v1 v2 v3 v4) (ho : OwnS w base A n c xs) : ∀ a, A = some a → a.block ≠ b := by
  intro a e he
  subst e
  rcases ho.2 with ⟨k1, _⟩ | ⟨g, cap, cur, k1, _, hh, _⟩
  · cases k1
  · injection k1 with k1
    have k1 := Option.some.inj k1
    subst k1
    simp only at he
    subst he
    rw [h] at hh
    injection (Option.some.inj hh) with _ ht
    exact absurd ht (by decide)
/-- A row stands where a cell of another block is written. -/
theorem OwnI.setx {w : World} {base b j : Nat} {A : Option Addr} {n c : Nat} {xs : List Int} (h : OwnI w base A n c xs) (u : Value) (hs : ∀ a, A = some a → a.block ≠ b) : OwnI (w.setCell ⟨b, j, none⟩ u) base A n c xs := by
  obtain ⟨h1, h2⟩ := h
  refine ⟨h1, ?_⟩
  rcases h2 with h2 | ⟨g, cap, cur, hv, hg, hh, r⟩
  · exact Or.inl h2
  · have hne : g ≠ b := by
      injection hv with hv
      exact hs _ hv
    exact Or.inr ⟨g, cap, cur, hv, hg, by rw [Below.heap_setCell w _ u g hne]; exact hh, r⟩
theorem OwnS.setx {w : World} {base b j : Nat} {A : Option Addr} {n c : Nat} {xs : List ByteArray} (h : OwnS w base A n c xs) (u : Value) (hs : ∀ a, A = some a → a.block ≠ b) : OwnS (w.setCell ⟨b, j, none⟩ u) base A n c xs := by
  obtain ⟨h1, h2⟩ := h
  refine ⟨h1, ?_⟩
  rcases h2 with h2 | ⟨g, cap, cur, hv, hg, hh, r⟩
  · exact Or.inl h2
  · have hne : g ≠ b := by
      injection hv with hv
      exact hs _ hv
    exact Or.inr ⟨g, cap, cur, hv, hg, by rw [Below.heap_setCell w _ u g hne]; exact hh, r⟩

/-- Five cells written one behind the other. -/
def set5 (w : World) (b : Nat) (v0 v1 v2 v3 v4 : Value) : World := ((((w.setCell ⟨b, 0, none⟩ v0).setCell ⟨b, 1, none⟩ v1).setCell ⟨b, 2, none⟩ v2).setCell ⟨b, 3, none⟩ v3).setCell ⟨b, 4, none⟩ v4
theorem Blk.set5 {w : World} {b : Nat} {v0 v1 v2 v3 v4 : Value} (h : Blk w b v0 v1 v2 v3 v4) (u0 u1 u2 u3 u4 : Value) : Blk (set5 w b u0 u1 u2 u3 u4) b u0 u1 u2 u3 u4 :=
  ((((h.set0 u0).set1 u1).set2 u2).set3 u3).set4 u4
theorem OwnI.set5 {w : World} {base b : Nat} {A : Option Addr} {n c : Nat} {xs : List Int} (h : OwnI w base A n c xs) (u0 u1 u2 u3 u4 : Value) (hs : ∀ a, A = some a → a.block ≠ b) : OwnI (set5 w b u0 u1 u2 u3 u4) base A n c xs :=
  ((((h.setx u0 hs).setx u1 hs).setx u2 hs).setx u3 hs).setx u4 hs
theorem below_set5 {B : Nat} {a w : World} (h : Below B a w) {b : Nat} (hb : B ≤ b) (u0 u1 u2 u3 u4 : Value) : Below B a (set5 w b u0 u1 u2 u3 u4) :=
  ((((h.setCell hb u0).setCell hb u1).setCell hb u2).setCell hb u3).setCell hb u4

/-- What stands while a cache is put together: its block, its lists, the words. -/
structure PS (B : Nat) (W0 wr : World) (X : Nat) (P Z H : Int) (As : Option Addr) (N cs : Nat) (ws : List ByteArray) (A1 : Option Addr) (k c1 : Nat) (xs : List Int) (A2 : Option Addr) (n2 c2 : Nat) (ys : List Int) : Prop where
  x : Blk wr X (.int .i64 P) (.int .i64 Z) (.slice A1 k c1) (.slice A2 n2 c2) (.int .i64 H)
  o1 : OwnI wr B A1 k c1 xs
  o2 : OwnI wr B A2 n2 c2 ys
  s : Sep A1 A2
  words : OwnS wr B As N cs ws
  b : Below B W0 wr
  hb : B ≤ wr.heap.size
  bx : B ≤ X
section
variable {B : Nat} {W0 wr w' : World} {X : Nat} {P Z H : Int} {As : Option Addr} {N cs : Nat} {ws : List ByteArray} {A1 : Option Addr} {k c1 : Nat} {xs : List Int} {A2 : Option Addr} {n2 c2 : Nat} {ys : List Int}
theorem PS.on (h : PS B W0 wr X P Z H As N cs ws A1 k c1 xs A2 n2 c2 ys) (hb : Below wr.heap.size wr w') : PS B W0 w' X P Z H As N cs ws A1 k c1 xs A2 n2 c2 ys :=
  ⟨h.x.on hb, h.o1.below hb, h.o2.below hb, h.s, h.words.below hb, h.b.trans (hb.mono h.hb), Nat.le_trans h.hb hb.size, h.bx⟩
/-- An append to the pages, ahead of the store. -/
theorem PS.page {A' : Option Addr} {c' : Nat} {zs : List Int} {k' : Nat} (h : PS B W0 wr X P Z H As N cs ws A1 k c1 xs A2 n2 c2 ys) (ho : OwnI w' B A' k' c' zs) (hb : Below B wr w') (hg : wr.grownBy w' (A1.map (·.block))) (hl : ∀ a', A' = some a' → A1.map (·.block) = some a'.block ∨ wr.heap.size ≤ a'.block) :
    Blk w' X (.int .i64 P) (.int .i64 Z) (.slice A1 k c1) (.slice A2 n2 c2) (.int .i64 H) ∧ PS B W0 (w'.setCell ⟨X, 2, none⟩ (.slice A' k' c')) X P Z H As N cs ws A' k' c' zs A2 n2 c2 ys := by
  have hx := h.x.grown hg (h.x.apart h.o1)
  have h2 := h.o2.marked hg h.s.symm
  have hw := h.words.grown hg (own_apartS h.o1 h.words)
  have hs := sep_lies hl h.s h.o2.lt
  exact ⟨hx, hx.set2 _, ho.setx _ (hx.apart ho), h2.setx _ (hx.apart h2), hs, hw.setx _ (hx.apartS hw), (h.b.trans hb).setCell h.bx _, by have := hb.size; have := h.hb; simp; omega, h.bx⟩
/-- An append to the marks, ahead of the store. -/
theorem PS.mark {A' : Option Addr} {c' : Nat} {zs : List Int} {k' : Nat} (h : PS B W0 wr X P Z H As N cs ws A1 k c1 xs A2 n2 c2 ys) (ho : OwnI w' B A' k' c' zs) (hb : Below B wr w') (hg : wr.grownBy w' (A2.map (·.block))) (hl : ∀ a', A' = some a' → A2.map (·.block) = some a'.block ∨ wr.heap.size ≤ a'.block) :
    Blk w' X (.int .i64 P) (.int .i64 Z) (.slice A1 k c1) (.slice A2 n2 c2) (.int .i64 H) ∧ PS B W0 (w'.setCell ⟨X, 3, none⟩ (.slice A' k' c')) X P Z H As N cs ws A1 k c1 xs A' k' c' zs := by
  have hx := h.x.grown hg (h.x.apart h.o2)
  have h1 := h.o1.marked hg h.s
  have hw := h.words.grown hg (own_apartS h.o2 h.words)
  have hs := (sep_lies hl h.s.symm h.o1.lt).symm
  exact ⟨hx, hx.set3 _, h1.setx _ (hx.apart h1), ho.setx _ (hx.apart ho), hs, hw.setx _ (hx.apartS hw), (h.b.trans hb).setCell h.bx _, by have := hb.size; have := h.hb; simp; omega, h.bx⟩
end

/-- What a cache is where none is read. -/
def pcD (r : Option PC) : PC := r.getD ⟨0, 0, 0, [], []⟩
/-- What ParseCache hands back: a cache with lists of its own, in different blocks. -/
def RetPC (w : World) (r : Option PC) (e : Ending) (w' : World) : Prop :=
  ∃ A1 c1 A2 c2, e = .returned (.tuple #[.agg #[.int .i64 (pcD r).p, .int .i64 (pcD r).s, .slice A1 (pcD r).xs.length c1, .slice A2 (pcD r).ys.length c2, .int .i64 (pcD r).h], .bool r.isSome]) ∧ OwnI w' w.heap.size A1 (pcD r).xs.length c1 (pcD r).xs ∧ OwnI w' w.heap.size A2 (pcD r).ys.length c2 (pcD r).ys ∧ Sep A1 A2 ∧ Below w.heap.size w w'
theorem RetPC.no {w w' : World} {r : Option PC} (h : r = none) (hb : Below w.heap.size w w') : RetPC w r (.returned (.tuple #[.agg #[.int .i64 0, .int .i64 0, .slice none 0 0, .slice none 0 0, .int .i64 0], .bool false])) w' := by
  subst h
  exact ⟨none, 0, none, 0, rfl, OwnI.nil _ _, OwnI.nil _ _, (fun _ _ e => by cases e), hb⟩
theorem RetPC.yes {w w' : World} {r : Option PC} {p s h : Int} {xs ys : List Int} {A1 A2 : Option Addr} {n1 c1 n2 c2 : Nat} (hr : r = some ⟨p, s, h, xs, ys⟩) (o1 : OwnI w' w.heap.size A1 n1 c1 xs) (o2 : OwnI w' w.heap.size A2 n2 c2 ys) (hs : Sep A1 A2) (hb : Below w.heap.size w w') :
    RetPC w r (.returned (.tuple #[.agg #[.int .i64 p, .int .i64 s, .slice A1 n1 c1, .slice A2 n2 c2, .int .i64 h], .bool true])) w' := by
  subst hr
  have l1 := o1.len
  have l2 := o2.len
  subst l1 l2
  exact ⟨A1, c1, A2, c2, rfl, o1, o2, hs, hb⟩
end Go.Proofs.YtkimbgehnhcmaaaGreatDoor
