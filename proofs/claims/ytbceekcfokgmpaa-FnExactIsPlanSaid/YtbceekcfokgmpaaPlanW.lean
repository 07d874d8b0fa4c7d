/- Words for the plans' walks: rows of slices, a list without a number, searches and deletions by the library; for slices of at most 2^20 numbers. -/
import Derived.Test.YtbceekcfokgmpaaPlanP
namespace Go.Proofs.Ytbceekcfokgmpaa
open Go.RowKit Go.Lib Go.Sort Go.Shelf
theorem info_ints : (Try.prog.info? 22).map (fun i => (i.zero, i.size, i.bytes)) = some (some (.slice none 0 0), 1, 24) := by kernel_rfl
/-- A slice of slices that the call has made itself. -/
def OwnV (w : World) (base : Nat) (A : Option Addr) (n c : Nat) : Prop := ∃ vals : List Value, w.ownsRow base 22 1 (.slice A n c) n vals
theorem OwnV.below {w w' : World} {base : Nat} {A : Option Addr} {n c : Nat} (h : OwnV w base A n c) (hb : Below w.heap.size w w') : OwnV w' base A n c := by
  obtain ⟨vals, h1, h2⟩ := h
  refine ⟨vals, h1, ?_⟩
  rcases h2 with h2 | ⟨g, cap, cur, hv, hg, hh, r⟩
  · exact Or.inl h2
  · exact Or.inr ⟨g, cap, cur, hv, hg, by rw [hb.block g (Array.getElem?_eq_some_iff.1 hh).1]; exact hh, r⟩
theorem OwnV.marked {w w' : World} {base : Nat} {A A' : Option Addr} {n c : Nat} (h : OwnV w base A n c) (hm : Marked w w' A') (hs : Sep A A') : OwnV w' base A n c := by
  obtain ⟨vals, h1⟩ := h
  refine ⟨vals, World.ownsRow.kept h1 hm ?_⟩
  cases A with
  | none => exact .inl rfl
  | some a =>
    right
    cases A' with
    | none => simp [Value.ownBlock]
    | some a' => simpa [Value.ownBlock] using hs a a' rfl rfl
/-- A row of numbers and a row of slices never share a block. -/
theorem own_apart {w : World} {b1 b2 : Nat} {A1 A2 : Option Addr} {n1 c1 n2 c2 : Nat} {xs : List Int} (h1 : OwnI w b1 A1 n1 c1 xs) (h2 : OwnV w b2 A2 n2 c2) : Sep A1 A2 := by
  intro a a' e e' he
  subst e e'
  obtain ⟨vals, h2⟩ := h2
  rcases h1.2 with ⟨k1, _⟩ | ⟨g, cap, cur, k1, _, hh, _⟩
  · cases k1
  · rcases h2.2 with ⟨k2, _⟩ | ⟨g', cap', cur', k2, _, hh', _⟩
    · cases k2
    · injection k1 with k1
      injection k1 with k1
      injection k2 with k2
      injection k2 with k2
      subst k1 k2
      simp only at he
      subst he
      rw [hh] at hh'
      injection hh' with hh'
      injection hh' with _ ht
      exact absurd ht (by decide)
theorem ownV_empty (w : World) (base : Nat) (hb : base ≤ w.heap.size) (cs : Array Value) (h : cs = #[]) : OwnV (w.alloc (.cells cs 22)) base (some ⟨w.heap.size, 0, none⟩) 0 0 := by
  subst h
  exact ⟨[], World.ownsRow_lit w #[] 0 hb (Nat.zero_le _) rfl⟩
theorem append_row {ops : Array Oper} {rest : List Oper} {o : Oper} {a : Act} {Q : Exit → Act → World → Prop} (hgd : o.guard = none) (s x : Operand)
    (ho : o.op = .call { callee := .builtin .append, args := #[s, x], argTypes := #[59, 59] }) (base : Nat) (A : Option Addr) (n c : Nat) (v : Value) (w : World)
    (hs : a.eval s = .slice A n c) (hx : a.eval x = .slice (some ⟨w.heap.size, 0, none⟩) 1 1) (hown : OwnV w base A n c) (hn : n ≤ 1048576) (hbase : base ≤ w.heap.size) (hv1 : v.oneCell' = true)
    (h : ∀ A' c' w', OwnV w' base A' (n + 1) c' → Below base w w' → w.grownBy w' (A.map (·.block)) → wpList Try.prog ops Q rest (a.put o.dst (.slice A' (n + 1) c')) w') :
    wpList Try.prog ops Q (o :: rest) a (w.alloc (.cells #[v] 22)) := by
  obtain ⟨i0, hi, hz0, hz1, hz2⟩ := info_parts info_ints
  obtain ⟨vals, hown⟩ := hown
  refine wpList_append_own _ hgd s x 59 ho base 22 i0 (.slice none 0 0) 1 24 Try.underlying59 hi hz0 hz1 hz2 rfl (by decide) _ n vals hs (World.ownsRow.alloc hown _) ⟨w.heap.size, 0, none⟩ 1 1 [v] hx rfl ?_ ?_ (by unfold maxLen; omega) (by omega) (by simp; omega) ?_
  · intro j u hj
    match j, hj with
    | 0, hj =>
      simp at hj
      subst hj
      simp [Addr.add_lit]
  · simp [hv1]
  · intro v' w' ho' hg _
    obtain ⟨A', c', rfl⟩ : ∃ A' c', v' = .slice A' (n + 1) c' := by
      rcases ho'.2 with ⟨_, h0⟩ | ⟨g, cap, cur, e, _⟩
      · omega
      · exact ⟨_, _, e⟩
    have hg2 : w.grownBy w' (A.map (·.block)) := by
      have hA : (Value.slice A n c).ownBlock = A.map (·.block) := by cases A <;> rfl
      rw [hA] at hg
      exact grownBy_trans (World.grownBy_alloc w _ _) hg
    refine h A' c' w' ⟨_, ho'⟩ ⟨hg2.os, hg2.tape, hg2.output, hg2.size, fun k hk => hg2.block k (by omega) ?_⟩ hg2
    cases A with
    | none => simp
    | some a =>
      rcases hown.2 with ⟨e, _⟩ | ⟨g, cap, cur, e, hg3, _⟩
      · cases e
      · injection e with e
        injection e with e
        subst e
        simp
        omega

theorem l1Own_any (A : Option Addr) (n c : Nat) (xs : List Int) (w : World) (hr : RdI w A n xs) (hn : n ≤ 1048576) :
    Calls Try.prog 94 #[.slice A n c] w (RetO w xs) := by
  have HR := hide hr
  clear hr
  go_enter Try.func94, Try.ntmps94
  go_wp2_with (at_builtin; refine append_ints rfl _ _ rfl w.heap.size _ 0 0 [] A n c xs _ rfl rfl (own_empty _ _ (Nat.le_refl _) _ rfl) (HR.out.below (by repeat (first | exact Below.refl _ _ | (refine below_drewN ?_ _) | (refine Below.drew ?_) | (refine Below.alloc ?_ (by first | exact Nat.le_refl _ | (simp; done) | (simp; omega) | omega) _) | (refine Below.setCell ?_ (by first | exact Nat.le_refl _ | (simp; done) | (simp; omega) | omega) _) | (refine Below.trans ?_ (Below.mono (by assumption) (by first | exact Nat.le_refl _ | (simp; done) | (simp; omega) | omega)))))) (by omega) (by simp) ?_; intro A' c' w1 ho' hb' hg'; replace ho' := hide ho'; replace hb' := hide hb'; clear hg')
  rw [show (0 + n) = n by omega] at *
  go_ret
  refine RetO.of ?_ ?_ rfl
  · have := ho'.out; simpa using this
  · exact Below.trans (by repeat (first | exact Below.refl _ _ | (refine below_drewN ?_ _) | (refine Below.drew ?_) | (refine Below.alloc ?_ (by first | exact Nat.le_refl _ | (simp; done) | (simp; omega) | omega) _) | (refine Below.setCell ?_ (by first | exact Nat.le_refl _ | (simp; done) | (simp; omega) | omega) _) | (refine Below.trans ?_ (Below.mono (by assumption) (by first | exact Nat.le_refl _ | (simp; done) | (simp; omega) | omega))))) hb'.out

set_option maxHeartbeats 1600000 in
theorem l5Out_any (A : Option Addr) (n c : Nat) (xs : List Int) (p : Int) (w : World) (hr : RdI w A n xs) (hn : n ≤ 1000) :
    Calls Try.prog 93 #[.slice A n c, .int .i64 p] w (RetO w (outL xs p)) := by
  have hlen := hide hr.1
  have HR := hide hr
  clear hr
  go_enter Try.func93, Try.ntmps93
  go_wp2_with fail
  go_loopw [5, 6] (fun u i wr => ∃ (k m : Nat) (A' : Option Addr) (c' : Nat), k ≤ n ∧ m ≤ k ∧ i = .int .i64 k ∧ u = .slice A' m c' ∧ Hid (OwnI wr w.heap.size A' m c' (outL (xs.take k) p)) ∧ Hid (Below w.heap.size w wr)) (fun _ i _ => n - (intOf i).toNat)
  case atStart => exact ⟨0, 0, _, _, Nat.zero_le _, Nat.zero_le _, rfl, rfl, own_empty _ _ (Nat.le_refl _) _ rfl, (by repeat (first | exact Below.refl _ _ | (refine below_drewN ?_ _) | (refine Below.drew ?_) | (refine Below.alloc ?_ (by first | exact Nat.le_refl _ | (simp; done) | (simp; omega) | omega) _) | (refine Below.setCell ?_ (by first | exact Nat.le_refl _ | (simp; done) | (simp; omega) | omega) _) | (refine Below.trans ?_ (Below.mono (by assumption) (by first | exact Nat.le_refl _ | (simp; done) | (simp; omega) | omega)))))⟩
  case round =>
    obtain ⟨k, m, A', c', hk, hmk, rfl, rfl, HO, HB⟩ := hrel
    by_cases hlt : k < n
    · have hlt' : (k : Int) < (n : Int) := by omega
      obtain ⟨b, off, rfl, _, hc⟩ := (HR.out.below HB.out).at_ hlt
      obtain ⟨v, hv⟩ : ∃ v, Hid (xs.getD k 0 = v) := ⟨_, rfl⟩
      rw [hv.out] at hc
      have HE : Hid (outL (xs.take (k + 1)) p = outL (xs.take k) p ++ if (v != p) = true then [v] else []) := by
        unfold outL Hid
        rw [take_snocI xs k (by rw [hlen.out]; exact hlt), List.filter_append, hv.out]
        congr 1
        cases h : v != p <;> simp [h]
      cases hq : v != p
      · go_wp2
        go_roundw
        case rel => first | exact ⟨k + 1, m, A', c', by omega, by omega, by go_num, rfl, by rw [HE.out, hq]; simpa using HO, HB⟩ | ((repeat apply Exists.intro); refine ⟨?_, rfl⟩; exact ⟨k + 1, m, A', c', by omega, by omega, by go_num, rfl, by rw [HE.out, hq]; simpa using HO, HB⟩)
        case measure => first | (simp [intOf]; done) | (simp [intOf]; omega)
      · go_wp2_with (at_builtin; refine append_int rfl _ _ rfl w.heap.size A' m c' (outL (xs.take k) p) _ _ rfl rfl HO.out (by omega) HB.out.size ?_; intro A3 c3 w3 ho3 hb3 hg3; replace ho3 := hide ho3; replace hb3 := hide hb3; clear hg3)
        go_roundw
        case rel => first | exact ⟨k + 1, m + 1, A3, c3, by omega, by omega, by go_num, rfl, by rw [HE.out, hq]; exact ho3, HB.out.trans hb3.out⟩ | ((repeat apply Exists.intro); refine ⟨?_, rfl⟩; exact ⟨k + 1, m + 1, A3, c3, by omega, by omega, by go_num, rfl, by rw [HE.out, hq]; exact ho3, HB.out.trans hb3.out⟩)
        case measure => first | (simp [intOf]; done) | (simp [intOf]; omega)
    · have hkn : k = n := by omega
      subst hkn
      have HT : Hid (outL (xs.take k) p = outL xs p) := by
        unfold Hid
        rw [List.take_of_length_le (by rw [hlen.out]; exact Nat.le_refl _)]
      rw [HT.out] at HO
      go_wp2
      go_ret
      exact RetO.of HO.out HB.out rfl

theorem index_any (A : Option Addr) (n c : Nat) (xs : List Int) (x : Int) (w : World) (hr : RdI w A n xs) (hn : n ≤ 1048576) :
    Calls Try.prog 89 #[.slice A n c, .int .i64 x] w fun e w' => e = .returned (.int .i64 (idxOf xs x)) ∧ w = w' := by
  rcases Nat.eq_zero_or_pos n with h0 | h0
  · subst h0
    obtain rfl := hr.nil_of
    exact (Try.slices_Index_int_empty A c x w).mono fun e w' ⟨h1, h2⟩ => ⟨h1, h2.symm⟩
  · obtain ⟨b, off, rfl, _, _⟩ := hr.2 h0
    refine (Try.slices_Index_int b off n c xs x w (by rw [hr.1]; exact Nat.le_refl _) (by omega) hr.cellsAll).mono ?_
    rintro e w' ⟨h1, h2⟩
    rw [List.take_of_length_le (by rw [hr.1]; exact Nat.le_refl _)] at h1
    exact ⟨h1, h2.symm⟩
theorem delete_any (A : Option Addr) (n c base : Nat) (xs : List Int) (a : Nat) (w : World) (ho : OwnI w base A n c xs) (ha : a < n) :
    Calls Try.prog 97 #[.slice A n c, .int .i64 a, .int .i64 ((a : Int) + 1)] w fun e w' => e = .returned (.slice A (n - 1) c) ∧ OwnI w' base A (n - 1) c (xs.take a ++ xs.drop (a + 1)) ∧ Marked w w' A := by
  have hroom := ho.room
  obtain ⟨g, cap, e1, hg, hlt, _, hm, hl, hH⟩ := holds_of_ownsRow (enc := Value.int .i64) ho (by intro e; injection e with e1 e2 e3; omega)
  injection e1 with e3 _ e5
  subst e3 e5
  subst hl
  have := Try.slices_Delete_int g 0 c a (a + 1) xs w hH (by omega) (by unfold maxLen at hm; omega) (by omega) (by omega)
  refine (show Calls Try.prog 97 #[.slice (some ⟨g, 0, none⟩) xs.length c, .int .i64 a, .int .i64 ((a : Int) + 1)] w _ from this).mono ?_
  rintro e w' ⟨rfl, q, rfl⟩
  rw [show a + 1 - a = 1 by omega]
  obtain ⟨M, hM⟩ : ∃ M, xs.take a ++ xs.drop (a + 1) = M := ⟨_, rfl⟩
  have hMl : M.length = xs.length - 1 := by rw [← hM]; simp; omega
  rw [hM]
  refine ⟨rfl, ?_, ?_⟩
  · have := ownsRow_putRow (q := q) ho (k := xs.length - 1) (ys := M ++ List.replicate 1 0) (by simp; omega) (by omega)
    have hT : (M ++ List.replicate 1 (0 : Int)).take (xs.length - 1) = M := by rw [← hMl, List.take_left]
    rw [hT] at this
    exact this
  · have := grownBy_sortedI (w := w) (g := g) (n := q) (os := #[]) (M ++ List.replicate 1 0).toArray
    rwa [grow_empty] at this
end Go.Proofs.Ytbceekcfokgmpaa
