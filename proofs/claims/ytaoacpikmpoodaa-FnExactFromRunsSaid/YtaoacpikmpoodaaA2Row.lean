/- Slices of arrays of two numbers that come in: how one reads, the law's copy of it; for slices of at most 2^20 arrays. -/
import Derived.Test.YtaoacpikmpoodaaA2
namespace Go.Proofs.Ytaoacpikmpoodaa
open Go.RowKit Go.ChangeShapes Go.WideShapes Go.ChangeAt

theorem list_of {P : Nat → Int × Int → Prop} (n : Nat) (h : ∀ i, i < n → ∃ p, P i p) : ∃ xs : List (Int × Int), xs.length = n ∧ ∀ i, i < n → P i (xs.getD i (0, 0)) := by
  have h' : ∀ i : Fin n, ∃ p, P i.1 p := fun i => h i.1 i.2
  obtain ⟨f, hf⟩ := Classical.axiomOfChoice h'
  refine ⟨List.ofFn f, by simp, fun i hi => ?_⟩
  have : (List.ofFn f).getD i (0, 0) = f ⟨i, hi⟩ := by simp [List.getD_eq_getElem?_getD, hi]
  rw [this]
  exact hf ⟨i, hi⟩
theorem add_off (b off i : Nat) : (⟨b, off, none⟩ : Addr).add i = ⟨b, off + i, none⟩ := Addr.add_lit ..

/-- A slice of pairs that comes in. -/
def InP (w : World) (A : Option Addr) (n c : Nat) (xs : List (Int × Int)) : Prop := RdP w A n xs ∧ n ≤ c ∧ c ≤ maxLen
theorem row_of_pairs {H : Type} {enc : TypeId × Value → H} {W : World} {base : Nat} {spare : Nat → Bool} {held : Bool} {A : Option Addr} {n c : Nat} {d : DataW H} {p : List MemPlace}
    (h : DataW.Trod enc Try.prog W base spare held 41 (.slice A n c) d p) : ∃ xs, InP W A n c xs := by
  obtain ⟨fuel, hf⟩ := h
  rcases Go.Deep.open_slice Try.underlying41 hf with ⟨hcs, _⟩ | ⟨a, len, cap, m, n', D, Pl, hcs, hb, hl, hm, hmm, hx, hi⟩
  · simp [Value.cells] at hcs
    obtain ⟨rfl, rfl, rfl⟩ := hcs
    exact ⟨[], ⟨rfl, fun h => absurd h (by omega)⟩, Nat.le_refl _, Nat.zero_le _⟩
  · simp [Value.cells] at hcs
    obtain ⟨rfl, rfl, rfl⟩ := hcs
    have hnm : n ≤ m := by rw [hmm]; split <;> omega
    have hc2 : Try.prog.cellsOf 62 = 2 := by kernel_rfl
    have hc1 : Try.prog.cellsOf 3 = 1 := by kernel_rfl
    have key : ∀ i, i < n → ∃ p : Int × Int, W.cell? (a.add (i * 2)) = some (.int .i64 p.1) ∧ W.cell? (a.add (i * 2 + 1)) = some (.int .i64 p.2) := by
      intro i hin
      obtain ⟨cs', hcs', ht'⟩ := hi i (by omega)
      rw [hc2] at hcs'
      obtain ⟨_, hcl, hat⟩ := World.cells?_some hcs'
      obtain ⟨ys, m', _, _, _, hyl, hyf⟩ := DataW.trod_array Try.underlying62 ht'
      obtain ⟨z0, z1, rfl⟩ : ∃ z0 z1, ys = [z0, z1] := by
        match ys, hyl with
        | [z0, z1], _ => exact ⟨z0, z1, rfl⟩
      have h0 : _ = some z0 := hyf 0 (by omega)
      have h1 : _ = some z1 := hyf 1 (by omega)
      match cs', hcl with
      | [c0, c1], _ =>
        rw [show Try.prog.cellsOf _ = 1 from hc1] at h0 h1
        obtain ⟨x, e0, _, _⟩ := DataW.trod_int Try.underlying3 h0
        obtain ⟨y, e1, _, _⟩ := DataW.trod_int Try.underlying3 h1
        simp at e0 e1
        subst e0 e1
        refine ⟨(x, y), ?_, ?_⟩
        · have := hat 0 (by omega); simpa [Go.Deep.add_add] using this
        · have := hat 1 (by omega); simpa [Go.Deep.add_add] using this
    obtain ⟨xs, hxl, hxs⟩ := list_of n key
    refine ⟨xs, ⟨hxl, fun hn => ?_⟩, hl, hm⟩
    obtain ⟨b, off, spot⟩ := a
    have h0 := (hxs 0 hn).1
    have hspot : spot = none := by simpa [Addr.add] using World.cell?_spot h0
    subst hspot
    refine ⟨b, off, rfl, ?_, fun j hj => ?_⟩
    · have := World.block_lt_of_cell? _ _ h0
      simpa [Addr.add] using this
    · have := hxs j hj
      rw [add_off, add_off] at this
      exact ⟨this.1, by rw [Nat.add_assoc]; exact this.2⟩

theorem szIntA2S_any (A : Option Addr) (n c : Nat) (w : World) (hn : n ≤ 1048576) :
    Calls Try.prog 43 #[.slice A n c, .int .i64 1048576] w fun e w' => e = .returned (.int .i64 (1048576 - (n : Int))) ∧ w = w' := by
  go_enter Try.func43, Try.ntmps43
  go_wp2
  go_ret
  exact ⟨rfl, rfl⟩
theorem szIntA2S_great (A : Option Addr) (n c : Nat) (w : World) (hn : 1048576 < n) (hm : n ≤ maxLen) :
    Calls Try.prog 43 #[.slice A n c, .int .i64 1048576] w fun e w' => e = .returned (.int .i64 (-1)) ∧ w = w' := by
  unfold maxLen at hm
  go_enter Try.func43, Try.ntmps43
  go_wp2
  go_ret
  exact ⟨rfl, rfl⟩

theorem flatP_zero (n : Nat) : (madeCells (Value.agg #[.int .i64 0, .int .i64 0]).cells (n * 2)).toList = flatP (List.replicate n (0, 0)) := by
  apply List.ext_getElem?
  intro j
  by_cases hj : j < n * 2
  · have h1 : (madeCells (Value.agg #[.int .i64 0, .int .i64 0]).cells (n * 2)).toList[j]? = some (.int .i64 0) := by
      have hm : j % 2 = 0 ∨ j % 2 = 1 := by omega
      rcases hm with hm | hm <;> simp [madeCells, Value.cells, hj, hm]
    have hd : j = (j / 2) * 2 ∨ j = (j / 2) * 2 + 1 := by omega
    have hg := flatP_get (List.replicate n ((0 : Int), (0 : Int))) (j / 2) (by simp; omega)
    have hz : (List.replicate n ((0 : Int), (0 : Int))).getD (j / 2) (0, 0) = (0, 0) := by
      simp [List.getD_eq_getElem?_getD, List.getElem?_replicate]
      split <;> rfl
    rw [hz] at hg
    rw [h1]
    rcases hd with hd | hd
    · rw [hd]; exact hg.1.symm
    · rw [hd]; exact hg.2.symm
  · rw [List.getElem?_eq_none (by simp [madeCells]; omega), List.getElem?_eq_none (by rw [flatP_len]; simp; omega)]

set_option maxHeartbeats 800000 in
theorem toIntA2_any (x y : Int) (w : World) :
    Calls Try.prog 74 #[.agg #[.int .i64 x, .int .i64 y]] w fun e w' => e = .returned (.agg #[.int .i64 x, .int .i64 y]) ∧ Below w.heap.size w w' := by
  go_enter Try.func74, Try.ntmps74
  go_wp2_with fail
  go_loopw [4] (fun i wr => (i = .int .i64 0 ∧ wr = ((w.alloc (.cells #[.int .i64 x, .int .i64 y] 62)).alloc (.cells #[.int .i64 0, .int .i64 0] 62)).alloc (.cells #[.int .i64 0, .int .i64 0] 62)) ∨ (i = .int .i64 1 ∧ wr = ((w.alloc (.cells #[.int .i64 x, .int .i64 y] 62)).alloc (.cells #[.int .i64 0, .int .i64 0] 62)).alloc (.cells #[.int .i64 x, .int .i64 0] 62)) ∨ (i = .int .i64 2 ∧ wr = ((w.alloc (.cells #[.int .i64 x, .int .i64 y] 62)).alloc (.cells #[.int .i64 0, .int .i64 0] 62)).alloc (.cells #[.int .i64 x, .int .i64 y] 62))) (fun i _ => 2 - (intOf i).toNat)
  case atStart => exact .inl ⟨rfl, rfl⟩
  case round =>
    rcases hrel with ⟨rfl, rfl⟩ | ⟨rfl, rfl⟩ | ⟨rfl, rfl⟩
    · go_wp2
      go_roundw
      case rel => first | exact .inr (.inl ⟨rfl, rfl⟩) | exact .inr (.inl ⟨rfl, trivial⟩)
      case measure => simp [intOf]
    · go_wp2
      go_roundw
      case rel => first | exact .inr (.inr ⟨rfl, rfl⟩) | exact .inr (.inr ⟨rfl, trivial⟩)
      case measure => simp [intOf]
    · go_wp2
      refine bodyPost_ret (v := .agg #[.int .i64 x, .int .i64 y]) (by simp [results, Try.results74, go_sem]) rfl ⟨rfl, (by repeat (first | exact Below.refl _ _ | (refine below_drewN ?_ _) | (refine Below.drew ?_) | (refine Below.alloc ?_ (by first | exact Nat.le_refl _ | (simp; done) | (simp; omega) | omega) _) | (refine Below.setCell ?_ (by first | exact Nat.le_refl _ | (simp; done) | (simp; omega) | omega) _) | (refine Below.trans ?_ (Below.mono (by assumption) (by first | exact Nat.le_refl _ | (simp; done) | (simp; omega) | omega)))))⟩

set_option maxHeartbeats 800000 in
theorem toIntA2S_any (A : Option Addr) (n c : Nat) (xs : List (Int × Int)) (w : World) (hr : RdP w A n xs) (hn : n ≤ 1048576) :
    Calls Try.prog 45 #[.slice A n c] w fun e w' => ∃ A' c', e = .returned (.slice A' n c') ∧ OwnP 62 w' w.heap.size A' n c' xs ∧ Below w.heap.size w w' := by
  obtain ⟨i0, hi, hz0, hz1, hz2⟩ := info_parts info_a2
  have hlen := hide hr.1
  have HR := hide hr
  clear hr
  go_enter Try.func45, Try.ntmps45
  go_wp2_with (at_make; refine wpList_make_full _ rfl _ _ _ rfl w.heap.size 62 i0 (.agg #[.int .i64 0, .int .i64 0]) 2 Try.underlying41 hi hz0 hz1 _ _ _ _ n rfl rfl rfl rfl (by rw [hz2]; omega) (by unfold maxLen; omega) (by simp) ?_; intro w1 hown hgrow)
  go_loopw [4] (fun i wr => ∃ k : Nat, k ≤ n ∧ i = .int .i64 k ∧ Hid (wr.ownsRow w.heap.size 62 2 (.slice (some ⟨w.heap.size, 0, none⟩) n n) n (flatP (xs.take k ++ List.replicate (n - k) (0, 0)))) ∧ Hid (Below w.heap.size w wr)) (fun i _ => n - (intOf i).toNat)
  case atStart => exact ⟨0, Nat.zero_le _, rfl, by rw [flatP_zero] at hown; simpa [Hid] using hown, (Below.refl _ w).grown hgrow (Nat.le_refl _) (fun k h => by cases h)⟩
  case round =>
    obtain ⟨k, hk, rfl, HO, HB⟩ := hrel
    clear hown hgrow
    by_cases hlt : k < n
    · obtain ⟨b, off, rfl, hb, hc, hc'⟩ := (HR.out).at_ hlt
      have hlt' : (k : Int) < (n : Int) := by omega
      have hc1 : wr.cell? ⟨b, off + k * 2, none⟩ = some (.int .i64 (xs.getD k (0, 0)).1) := (HB.out.cell (p := ⟨b, off + k * 2, none⟩) hb).trans hc
      have hc2 : wr.cell? ⟨b, off + k * 2 + 1, none⟩ = some (.int .i64 (xs.getD k (0, 0)).2) := (HB.out.cell (p := ⟨b, off + k * 2 + 1, none⟩) hb).trans hc'
      obtain ⟨x, hx⟩ : ∃ x, Hid ((xs.getD k (0, 0)).1 = x) := ⟨_, rfl⟩
      obtain ⟨y, hy⟩ : ∃ y, Hid ((xs.getD k (0, 0)).2 = y) := ⟨_, rfl⟩
      rw [hx.out] at hc1
      rw [hy.out] at hc2
      clear hc hc' hb
      go_wp2_with fail
      refine (toIntA2_any _ _ _).mono ?_
      rintro e w2 ⟨rfl, hb⟩
      have HO2 : OwnP 62 w2 w.heap.size (some ⟨w.heap.size, 0, none⟩) n n (xs.take k ++ List.replicate (n - k) (0, 0)) := OwnP.below (T := 62) HO.out hb
      have hcell : w2.cell? ⟨w.heap.size, k * 2, none⟩ = some (.int .i64 0) ∧ w2.cell? ⟨w.heap.size, k * 2 + 1, none⟩ = some (.int .i64 0) := by
        have hg := flatP_get (xs.take k ++ List.replicate (n - k) (0, 0)) k (by simp [hlen.out]; omega)
        have hz : (xs.take k ++ List.replicate (n - k) (0, 0)).getD k (0, 0) = (0, 0) := by
          simp [List.getD_eq_getElem?_getD, List.getElem?_append_right, hlen.out, Nat.min_eq_left hk, List.getElem?_replicate]
          split <;> rfl
        rw [hz] at hg
        exact ⟨(World.ownsRow.cellAt HO2 _ (by omega)).trans hg.1, (World.ownsRow.cellAt HO2 _ (by omega)).trans hg.2⟩
      obtain ⟨d1, d2⟩ := hcell
      have f1 := World.ownsRow.frozenAt HO2 (k * 2)
      have f2 := World.ownsRow.frozenAt HO2 (k * 2 + 1)
      have HS := hide (World.ownsRow.stored (World.ownsRow.stored HO2 (k * 2) (.int .i64 x)).1 (k * 2 + 1) (.int .i64 y))
      replace HO2 := hide HO2
      have HB2 := hide (HB.out.trans (hb.mono HB.out.size))
      clear hb
      go_wp2
      go_roundw
      case rel => first | exact ⟨k + 1, by omega, by go_num, by
        have := HS.out.1
        rw [← hx.out, ← hy.out, copyP_step xs n k hlen.out hlt] at this
        rw [← hx.out, ← hy.out]
        exact this, (HB2.out.setCell (Nat.le_refl _) _).setCell (Nat.le_refl _) _⟩ | ((repeat apply Exists.intro); refine ⟨?_, rfl⟩; exact ⟨k + 1, by omega, by go_num, by
        have := HS.out.1
        rw [← hx.out, ← hy.out, copyP_step xs n k hlen.out hlt] at this
        rw [← hx.out, ← hy.out]
        exact this, (HB2.out.setCell (Nat.le_refl _) _).setCell (Nat.le_refl _) _⟩)
      case measure => simp [intOf]; omega
    · have hkn : k = n := by omega
      subst hkn
      go_wp2
      go_ret
      refine ⟨_, _, rfl, ?_, HB.out⟩
      have := HO.out
      simpa [OwnP, List.take_of_length_le (Nat.le_of_eq hlen.out)] using this

end Go.Proofs.Ytaoacpikmpoodaa
