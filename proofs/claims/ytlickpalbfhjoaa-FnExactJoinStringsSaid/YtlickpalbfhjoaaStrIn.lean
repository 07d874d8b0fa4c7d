/- Slices of texts that come in: the law's measure of their sizes and its copy; for rows of at most 2^20 texts. -/
import Derived.Test.YtlickpalbfhjoaaStrs
import Derived.SliceStrings
namespace Go.Proofs.Ytlickpalbfhjoaa
open Go.RowKit Go.ChangeShapes Go.WideShapes Go.ChangeAt

/-- A slice of texts that comes in. -/
def InS (w : World) (A : Option Addr) (n c : Nat) (xs : List ByteArray) : Prop :=
  RdS w A n xs ∧ n ≤ c ∧ c ≤ maxLen ∧ ∀ x ∈ xs, x.size ≤ maxLen
theorem row_of_strings {H : Type} {enc : TypeId × Value → H} {W : World} {base : Nat} {spare : Nat → Bool} {held : Bool} {A : Option Addr} {n c : Nat} {d : DataW H} {p : List MemPlace}
    (h : DataW.Trod enc Try.prog W base spare held 22 (.slice A n c) d p) : ∃ xs, InS W A n c xs := by
  obtain ⟨fuel, hf⟩ := h
  rcases open_strings Try.underlying22 Try.underlying9 (by kernel_rfl) hf with ⟨hcs, _⟩ | ⟨x, l, c', zs, hcs, _, hl, hm, hz, _, hcell, hwz⟩
  · simp [Value.cells] at hcs
    obtain ⟨rfl, rfl, rfl⟩ := hcs
    exact ⟨[], RdS.nil _ _, Nat.le_refl _, Nat.zero_le _, fun x hx => by cases hx⟩
  · simp [Value.cells] at hcs
    obtain ⟨rfl, rfl, rfl⟩ := hcs
    have hz' : n ≤ zs.length := by rw [hz]; split <;> omega
    refine ⟨zs.take n, ⟨by simp; omega, fun hn => ?_⟩, hl, hm, fun y hy => hwz y (List.mem_of_mem_take hy)⟩
    obtain ⟨b, off, spot⟩ := x
    have h0 := hcell 0 (by omega)
    have hspot : spot = none := by simpa [Addr.add] using World.cell?_spot h0
    subst hspot
    refine ⟨b, off, rfl, ?_, fun j hj => ?_⟩
    · have := World.block_lt_of_cell? _ _ h0
      simpa [Addr.add] using this
    · have := hcell j (by omega)
      rw [Addr.add_lit] at this
      rw [this]
      simp [List.getD_eq_getElem?_getD, hj]

/-- The sizes of the texts, summed. -/
def sumLen (xs : List ByteArray) : Nat := (xs.map ByteArray.size).sum
theorem take_snocS (xs : List ByteArray) (k : Nat) (hk : k < xs.length) : xs.take (k + 1) = xs.take k ++ [xs.getD k ByteArray.empty] := by
  rw [List.take_succ_eq_append_getElem hk]
  simp [List.getD_eq_getElem?_getD, List.getElem?_eq_getElem hk]
theorem sumLen_snoc (xs : List ByteArray) (k : Nat) (hk : k < xs.length) : sumLen (xs.take (k + 1)) = sumLen (xs.take k) + (xs.getD k ByteArray.empty).size := by
  rw [take_snocS xs k hk]
  simp [sumLen]
theorem sumLen_take_le (xs : List ByteArray) (k : Nat) : sumLen (xs.take k) ≤ sumLen xs := by
  have : sumLen xs = sumLen (xs.take k) + sumLen (xs.drop k) := by
    conv => lhs; rw [← List.take_append_drop k xs]
    unfold sumLen
    rw [List.map_append, List.sum_append]
  omega
theorem sumLen_all (xs : List ByteArray) (n : Nat) (h : xs.length = n) : sumLen (xs.take n) = sumLen xs := by
  rw [List.take_of_length_le (by omega)]

/-- What is left of L, or -1. -/
def szV (n : Nat) (xs : List ByteArray) (L : Nat) : Int := if n + sumLen xs ≤ L then (L : Int) - n - sumLen xs else -1
theorem szV_yes {n : Nat} {xs : List ByteArray} {L : Nat} (h : n + sumLen xs ≤ L) : szV n xs L = (L : Int) - n - sumLen xs := if_pos h
theorem szV_no {n : Nat} {xs : List ByteArray} {L : Nat} (h : ¬ n + sumLen xs ≤ L) : szV n xs L = -1 := if_neg h
set_option maxHeartbeats 800000 in
theorem szStringS_any (A : Option Addr) (n c L : Nat) (xs : List ByteArray) (w : World) (hr : RdS w A n xs) (hL : L ≤ 1048576) (hn : n ≤ maxLen) (hx : ∀ x ∈ xs, x.size ≤ maxLen) :
    Calls Try.prog 10 #[.slice A n c, .int .i64 L] w fun e w' => e = .returned (.int .i64 (szV n xs L)) ∧ w = w' := by
  have hlen := hide hr.1
  have HR := hide hr
  replace hx := hide hx
  unfold maxLen at hn
  clear hr
  by_cases h0 : n ≤ L
  · go_enter Try.func10, Try.ntmps10
    go_wp2
    go_loop [1, 5] (fun q i => ∃ k s : Nat, k ≤ n ∧ i = .int .i64 k ∧ q = .int .i64 ((L : Int) - n - s) ∧ n + s ≤ L ∧ Hid (s = sumLen (xs.take k))) (fun _ i => n - (intOf i).toNat)
    case atStart => exact ⟨0, 0, Nat.zero_le _, rfl, by simp, by omega, rfl⟩
    case round =>
      obtain ⟨k, s, hk, rfl, rfl, hs, HS⟩ := hrel
      by_cases hlt : k < n
      · obtain ⟨b, off, rfl, _, hc⟩ := (HR.out).at_ hlt
        have hlt' : (k : Int) < (n : Int) := by omega
        have hmem : xs.getD k ByteArray.empty ∈ xs := by
          rw [List.getD_eq_getElem?_getD, List.getElem?_eq_getElem (by rw [hlen.out]; exact hlt)]
          exact List.getElem_mem _
        have hxs := hx.out _ hmem
        unfold maxLen at hxs
        have HN := hide (sumLen_snoc xs k (by rw [hlen.out]; exact hlt))
        have HT := hide (sumLen_take_le xs (k + 1))
        generalize xs.getD k ByteArray.empty = x at hc hxs HN hmem
        clear hmem
        by_cases hle : n + s + x.size ≤ L
        · go_wp2
          go_round
          case rel => first | exact ⟨k + 1, s + x.size, by omega, by go_num, by go_num, by omega, by unfold Hid; rw [HN.out, HS.out]⟩ | ((repeat apply Exists.intro); refine ⟨?_, rfl⟩; exact ⟨k + 1, s + x.size, by omega, by go_num, by go_num, by omega, by unfold Hid; rw [HN.out, HS.out]⟩)
          case measure => first | (simp [intOf]; done) | (simp [intOf]; omega)
        · have HF : Hid (¬ n + sumLen xs ≤ L) := by
            have h1 := HT.out; have h2 := HN.out; have h3 := HS.out
            unfold Hid
            omega
          go_wp2
          go_ret
          exact ⟨ret_int (szV_no HF.out).symm, rfl⟩
      · obtain rfl : k = n := by omega
        have HF : Hid (s = sumLen xs) := by have := HS.out; rwa [sumLen_all xs k hlen.out] at this
        go_wp2
        go_ret
        exact ⟨ret_int (by rw [szV_yes (by rw [← HF.out]; exact hs), ← HF.out]), rfl⟩
  · go_enter Try.func10, Try.ntmps10
    go_wp2
    go_ret
    exact ⟨ret_int (szV_no (by omega)).symm, rfl⟩

/-- The texts of a row of which the first k are copied. -/
theorem copy_stepS (xs : List ByteArray) (n k : Nat) (hn : xs.length = n) (hk : k < n) :
    (((xs.take k ++ List.replicate (n - k) ByteArray.empty).map Value.string).set k (.string (xs.getD k ByteArray.empty))) = (xs.take (k + 1) ++ List.replicate (n - (k + 1)) ByteArray.empty).map Value.string := by
  rw [← List.map_set]
  congr 1
  have e : n - k = (n - (k + 1)) + 1 := by omega
  have hl : (xs.take k).length = k := by simp; omega
  rw [List.set_append_right _ _ (by omega), e, List.replicate_succ, hl, Nat.sub_self, List.set_cons_zero, take_snocS xs k (by omega)]
  simp only [List.append_assoc, List.cons_append, List.nil_append]

set_option maxHeartbeats 800000 in
theorem toStringS_any (A : Option Addr) (n c : Nat) (xs : List ByteArray) (w : World) (hr : RdS w A n xs) (hn : n ≤ 1048576) :
    Calls Try.prog 12 #[.slice A n c] w fun e w' => ∃ A' c', e = .returned (.slice A' n c') ∧ OwnS w' w.heap.size A' n c' xs ∧ Below w.heap.size w w' := by
  obtain ⟨i0, hi, hz0, hz1, hz2⟩ := info_parts info_string
  have hlen := hide hr.1
  have HR := hide hr
  clear hr
  go_enter Try.func12, Try.ntmps12
  go_wp2_with (at_make; refine wpList_make_full _ rfl _ _ _ rfl w.heap.size 9 i0 (.string ByteArray.empty) 1 Try.underlying22 hi hz0 hz1 _ _ _ _ n rfl rfl rfl rfl (by rw [hz2]; omega) (by unfold maxLen; omega) (by simp) ?_; intro w1 hown hgrow)
  go_loopw [4] (fun i wr => ∃ k : Nat, k ≤ n ∧ i = .int .i64 k ∧ Hid (wr.ownsRow w.heap.size 9 1 (.slice (some ⟨w.heap.size, 0, none⟩) n n) n ((xs.take k ++ List.replicate (n - k) ByteArray.empty).map Value.string)) ∧ Hid (Below w.heap.size w wr)) (fun i _ => n - (intOf i).toNat)
  case atStart => exact ⟨0, Nat.zero_le _, rfl, by simpa [toList_madeCells_one, Value.cells, Hid] using hown, (Below.refl _ w).grown hgrow (Nat.le_refl _) (fun k h => by cases h)⟩
  case round =>
    obtain ⟨k, hk, rfl, HO, HB⟩ := hrel
    clear hown hgrow
    by_cases hlt : k < n
    · obtain ⟨b, off, rfl, hb, hc⟩ := (HR.out).at_ hlt
      have hc1 : wr.cell? ⟨b, off + k, none⟩ = some (.string (xs.getD k ByteArray.empty)) := (HB.out.cell (p := ⟨b, off + k, none⟩) hb).trans hc
      have hc2 : wr.cell? ⟨w.heap.size, k, none⟩ = some (.string ByteArray.empty) := by
        rw [World.ownsRow.cellAt HO.out k (by omega)]
        rw [getD_mapS (by simp [hlen.out]; omega)]
        simp [List.getD_eq_getElem?_getD, List.getElem?_append_right, hlen.out, Nat.min_eq_left hk, List.getElem?_replicate]
        split <;> rfl
      have hf2 := World.ownsRow.frozenAt HO.out k
      have HS := hide (World.ownsRow.stored HO.out k (.string (xs.getD k ByteArray.empty)))
      clear hc hb
      go_wp2
      go_roundw
      case rel => exact ⟨k + 1, by omega, by go_num, by have := HS.out.1; rw [copy_stepS xs n k hlen.out hlt] at this; exact this, (HB.out).setCell (Nat.le_refl _) _⟩
      case measure => simp [intOf]; omega
    · have hkn : k = n := by omega
      subst hkn
      go_wp2
      go_ret
      refine ⟨_, _, rfl, ?_, HB.out⟩
      have := HO.out
      simpa [OwnS, List.take_of_length_le (Nat.le_of_eq hlen.out)] using this
end Go.Proofs.Ytlickpalbfhjoaa
