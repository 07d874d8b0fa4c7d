/- CountsOf: the reference and the program count the same; for slices of at most 2^20 numbers that can be read. -/
import Derived.Test.YtbceekcfokgmpaaReqs
import Derived.StillTailTactics
import Derived.RegionTactic
namespace Go.Proofs.Ytbceekcfokgmpaa
open Go.RowKit

/-- How often each number below n is in a list. -/
def cnt (n : Nat) (xs : List Int) : List Int := (List.range n).map fun (j : Nat) => ((xs.filter fun x => x == (j : Int)).length : Int)
theorem cnt_len (n : Nat) (xs : List Int) : (cnt n xs).length = n := by simp [cnt]
theorem cnt_nil (n : Nat) : cnt n [] = List.replicate n 0 := by
  apply List.ext_getElem?
  intro j
  simp only [cnt, List.getElem?_map, List.getElem?_replicate]
  by_cases hj : j < n <;> simp [hj]
theorem cnt_getD (n : Nat) (xs : List Int) (j : Nat) (hj : j < n) : (cnt n xs).getD j 0 = ((xs.filter fun x => x == (j : Int)).length : Int) := by
  simp [cnt, List.getD_eq_getElem?_getD, hj]
theorem cnt_snoc (n : Nat) (xs : List Int) (p : Nat) (hp : p < n) : (cnt n xs).set p ((cnt n xs).getD p 0 + 1) = cnt n (xs ++ [(p : Int)]) := by
  apply List.ext_getElem?
  intro j
  rw [List.getElem?_set, cnt_len, cnt_getD n xs p hp]
  by_cases e : p = j
  · subst e
    simp [cnt, hp, List.filter_append]
  · simp only [if_neg e]
    by_cases hj : j < n
    · have hne : ¬ (p : Int) = (j : Int) := by omega
      simp [cnt, hj, List.filter_append, hne]
    · simp [cnt, hj]
theorem cnt_bd (n : Nat) (xs : List Int) (p : Nat) : 0 ≤ (cnt n xs).getD p 0 ∧ (cnt n xs).getD p 0 ≤ xs.length := by
  by_cases hp : p < n
  · rw [cnt_getD n xs p hp]
    have := List.length_filter_le (fun x => x == (p : Int)) xs
    omega
  · have : (cnt n xs).getD p 0 = 0 := by simp [List.getD_eq_getElem?_getD, cnt, hp]
    omega
theorem take_snocI (xs : List Int) (k : Nat) (hk : k < xs.length) : xs.take (k + 1) = xs.take k ++ [xs.getD k 0] := by
  rw [List.take_succ_eq_append_getElem hk]
  simp [List.getD_eq_getElem?_getD, List.getElem?_eq_getElem hk]
theorem belowB_get {q : Int} {xs : List Int} (h : belowB q xs = true) (k : Nat) (hk : k < xs.length) : 0 ≤ xs.getD k 0 ∧ xs.getD k 0 ≤ q - 1 := by
  unfold belowB at h
  rw [List.all_eq_true] at h
  have := h (xs[k]) (List.getElem_mem hk)
  rw [List.getD_eq_getElem?_getD, List.getElem?_eq_getElem hk]
  simpa using this
theorem reqB_parts {q : Int} {xs : List Int} (h : reqB q xs = true) : 1 ≤ q ∧ q ≤ 8 ∧ xs.length ≤ 60 ∧ belowB q xs = true := by
  unfold reqB at h
  simp at h
  exact ⟨h.1.1, h.1.2, h.2.1, h.2.2⟩

def countsOfV (q : Int) (xs : List Int) : List Int × Bool := if reqB q xs = true then (cnt q.toNat xs, true) else ([], false)
theorem countsOfV_len (q : Int) (xs : List Int) (_ : xs.length ≤ 1048576) : (countsOfV q xs).1.length ≤ 1048576 := by
  unfold countsOfV
  split
  · rename_i h
    have := reqB_parts h
    simp [cnt_len]
    omega
  · simp

set_option maxHeartbeats 1600000 in
theorem l3Counts_any (A : Option Addr) (n c : Nat) (xs : List Int) (m : Nat) (w : World) (hr : RdI w A n xs) (hn : n ≤ 1048576) (hm : m ≤ 1000) (hb : ∀ k, k < xs.length → 0 ≤ xs.getD k 0 ∧ xs.getD k 0 < m) :
    Calls Try.prog 63 #[.int .i64 m, .slice A n c] w fun e w' => ∃ A' c', e = .returned (.slice A' m c') ∧ OwnI w' w.heap.size A' m c' (cnt m xs) ∧ Below w.heap.size w w' := by
  obtain ⟨i0, hi, hz0, hz1, hz2⟩ := info_parts info_int
  have hlen := hide hr.1
  have HR := hide hr
  have HX := hide hb
  clear hr hb
  go_enter Try.func63, Try.ntmps63
  go_wp2_with (at_make; refine wpList_make_full _ rfl _ _ _ rfl w.heap.size 3 i0 (.int .i64 0) 1 Try.underlying22 hi hz0 hz1 _ _ _ _ m rfl rfl rfl rfl (by rw [hz2]; omega) (by unfold maxLen; omega) (by simp) ?_; intro w1 hown hgrow)
  go_loopw [6] (fun i wr => ∃ k : Nat, k ≤ n ∧ i = .int .i64 k ∧ Hid (OwnI wr w.heap.size (some ⟨w.heap.size, 0, none⟩) m m (cnt m (xs.take k))) ∧ Hid (Below w.heap.size w wr)) (fun i _ => n - (intOf i).toNat)
  case atStart => exact ⟨0, Nat.zero_le _, rfl, by simpa [toList_madeCells_one, Value.cells, Hid, OwnI, cnt_nil] using hown, (Below.refl _ w).grown hgrow (Nat.le_refl _) (fun k h => by cases h)⟩
  case round =>
    obtain ⟨k, hk, rfl, HO, HB⟩ := hrel
    clear hown hgrow
    by_cases hlt : k < n
    · obtain ⟨b, off, rfl, hbb, hc⟩ := (HR.out).at_ hlt
      have hlt' : (k : Int) < (n : Int) := by omega
      obtain ⟨x1, x2⟩ := HX.out k (by rw [hlen.out]; exact hlt)
      obtain ⟨p, hp⟩ := Int.eq_ofNat_of_zero_le x1
      have HP := hide hp
      rw [hp] at x2 hc
      clear hp x1
      have hpm : p < m := by omega
      have hpm' : (p : Int) < (m : Int) := by omega
      have hc1 : wr.cell? ⟨b, off + k, none⟩ = some (.int .i64 p) := (HB.out.cell (p := ⟨b, off + k, none⟩) hbb).trans hc
      have hc2 : wr.cell? ⟨w.heap.size, p, none⟩ = some (.int .i64 ((cnt m (xs.take k)).getD p 0)) := by
        rw [World.ownsRow.cellAt HO.out p (by omega)]
        exact getD_map (by rw [cnt_len]; exact hpm)
      have hv := cnt_bd m (xs.take k) p
      have hl : (xs.take k).length ≤ 1048576 := by simp; omega
      obtain ⟨v, HV⟩ : ∃ v, Hid ((cnt m (xs.take k)).getD p 0 = v) := ⟨_, rfl⟩
      rw [HV.out] at hc2 hv
      have hv1 := hv.1
      have hv2 : v ≤ 1048576 := by omega
      have hf2 := World.ownsRow.frozenAt HO.out p
      have HS := hide (World.ownsRow.stored HO.out p (.int .i64 (v + 1)))
      clear hc hbb hv hl
      go_wp2_with fail
      go_region
      all_goals go_wp2
      go_roundw
      case rel => first | exact ⟨k + 1, by omega, by go_num, by
        have := HS.out.1
        rw [← List.map_set, ← HV.out, cnt_snoc m _ p hpm, ← HP.out, ← take_snocI xs k (by rw [hlen.out]; exact hlt)] at this
        rw [← HV.out]
        exact this, (HB.out.setCell (Nat.le_refl _) _).drew⟩ | ((repeat apply Exists.intro); refine ⟨?_, rfl⟩; exact ⟨k + 1, by omega, by go_num, by
        have := HS.out.1
        rw [← List.map_set, ← HV.out, cnt_snoc m _ p hpm, ← HP.out, ← take_snocI xs k (by rw [hlen.out]; exact hlt)] at this
        rw [← HV.out]
        exact this, (HB.out.setCell (Nat.le_refl _) _).drew⟩)
      case measure => simp [intOf]; omega
    · have hkn : k = n := by omega
      subst hkn
      go_wp2
      go_ret
      refine ⟨_, _, rfl, ?_, HB.out⟩
      have := HO.out
      rwa [List.take_of_length_le (by rw [hlen.out]; exact Nat.le_refl _)] at this

end Go.Proofs.Ytbceekcfokgmpaa
