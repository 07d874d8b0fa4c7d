/- The text of a list of numbers by the program: the numbers' texts, joined; for lists of at most 2^20 numbers; the premise: Go's table of powers of ten. -/
import Derived.Test.YtlickpalbfhjoaaDoorReqT
namespace Go.Proofs.YtlickpalbfhjoaaDoor
open Go.RowKit

theorem OwnS.room {w : World} {base : Nat} {A : Option Addr} {n c : Nat} {xs : List ByteArray} (h : OwnS w base A n c xs) : n ≤ c := by
  rcases h.2 with ⟨h1, h0⟩ | ⟨g, cap, cur, hv, hg, hh, hn, _⟩
  · omega
  · injection hv with _ _ h3
    omega
set_option maxRecDepth 100000 in
set_option maxHeartbeats 800000 in
theorem spaced_any (A : Option Addr) (n c : Nat) (xs : List Int) (w : World) (hr : RdI w A n xs) (hn : n ≤ 1048576) (h0 : 0 < n) (hx : In64 xs) (ht : Tab w) :
    Calls Tryd.prog 77 #[.slice A n c] w fun e w' => e = .returned (.string (textTo xs (n - 1))) ∧ Below w.heap.size w w' := by
  have hlen := hide hr.1
  have HR := hide hr
  clear hr
  replace ht := hide ht
  go_enter Tryd.func77, Tryd.ntmps77
  go_wp2
  go_loopw [3, 9] (fun o i wr => ∃ (k cc : Nat) (A2 : Option Addr), k ≤ n ∧ i = .int .i64 k ∧ o = .slice A2 k cc ∧ Hid (OwnS wr w.heap.size A2 k cc ((xs.take k).map numText)) ∧ Hid (Below w.heap.size w wr)) (fun _ i _ => n - (intOf i).toNat)
  case atStart => exact ⟨0, 0, _, Nat.zero_le _, rfl, rfl, ownS_empty _ _ (Nat.le_refl _) _ rfl, (by repeat (first | exact Below.refl _ _ | (refine below_drewN ?_ _) | (refine Below.drew ?_) | (refine Below.alloc ?_ (by first | exact Nat.le_refl _ | (simp; done) | (simp; omega) | omega) _) | (refine Below.setCell ?_ (by first | exact Nat.le_refl _ | (simp; done) | (simp; omega) | omega) _) | (refine Below.trans ?_ (Below.mono (by assumption) (by first | exact Nat.le_refl _ | (simp; done) | (simp; omega) | omega)))))⟩
  case round =>
    obtain ⟨k, cc, A2, hk, rfl, rfl, HO, HB⟩ := hrel
    by_cases hlt : k < n
    · obtain ⟨b, off, rfl, hb0, hc⟩ := (HR.out).at_ hlt
      have hxk := hx k (by rw [hlen.out]; exact hlt)
      have h4 : ∀ w1, Tab w1 → Calls Tryd.prog 42 #[.int .i64 (xs.getD k 0)] w1 fun e w' => e = .returned (.string (numText (xs.getD k 0))) ∧ Below w1.heap.size w1 w' := fun w1 h => dec_any _ (by omega) (by omega) w1 h
      have htr := hide (ht.out.below HB.out)
      have HT : Hid ((xs.take (k + 1)).map numText = (xs.take k).map numText ++ [numText (xs.getD k 0)]) := by
        unfold Hid
        rw [List.take_succ_eq_append_getElem (by rw [hlen.out]; exact hlt), List.map_append]
        simp [List.getD_eq_getElem?_getD, List.getElem?_eq_getElem (show k < xs.length by rw [hlen.out]; exact hlt)]
      have hc1 : wr.cell? ⟨b, off + k, none⟩ = some (.int .i64 (xs.getD k 0)) := (HB.out.cell (p := ⟨b, off + k, none⟩) hb0).trans hc
      generalize numText (xs.getD k 0) = t at h4 HT
      generalize xs.getD k 0 = x at hc1 h4
      clear hxk hc hb0
      replace h4 := hide (h4 wr htr.out)
      have hlt' : (k : Int) < (n : Int) := by omega
      go_wp2_with (first
        | (go_at_call 42; refine h4.out.mono ?_; rintro e w1 ⟨rfl, hb⟩; have HO1 := hide (HO.out.below hb); have HB1 := hide (HB.out.trans (hb.mono HB.out.size)); clear hb)
        | (at_builtin; refine append_str rfl _ _ rfl w.heap.size A2 k cc ((xs.take k).map numText) t _ rfl rfl HO1.out (by omega) HB1.out.size ?_; intro A' c' w1 ho' hb' hg'; replace ho' := hide ho'; replace hb' := hide hb'; clear hg'))
      go_roundw
      case rel => first | exact ⟨k + 1, c', A', by omega, by go_num, rfl, by rw [HT.out]; exact ho', HB1.out.trans hb'.out⟩ | ((repeat apply Exists.intro); refine ⟨?_, rfl⟩; exact ⟨k + 1, c', A', by omega, by go_num, rfl, by rw [HT.out]; exact ho', HB1.out.trans hb'.out⟩)
      case measure => first | (simp [intOf]; done) | (simp [intOf]; omega)
    · obtain rfl : k = n := by omega
      have hroom := HO.out.room
      obtain ⟨b, off, rfl, hb0, _⟩ := HO.out.rd.at_ h0
      have e1 : (xs.take k).map numText = xs.map numText := by rw [List.take_of_length_le (by rw [hlen.out]; exact Nat.le_refl _)]
      rw [e1] at HO
      have hml : (xs.map numText).length = k := by rw [List.length_map]; exact hlen.out
      have hj := join_text xs (by rw [hlen.out]; exact h0)
      have hsz := textTo_size xs hx (k - 1) (by rw [hlen.out]; omega)
      have hcells : ∀ (j : Nat) y, (xs.map numText)[j]? = some y → wr.cell? ⟨b, off + j, none⟩ = some (.string y) := fun j y hy => by
        have hjl : j < k := by rw [← hml]; exact (List.getElem?_eq_some_iff.1 hy).1
        obtain ⟨b2, off2, e2, _, hc2⟩ := HO.out.rd.at_ hjl
        cases e2
        rw [hc2, List.getD_eq_getElem?_getD, hy]
        rfl
      have hJ := Tryd.strings_Join b off cc (xs.map numText) ⟨#[32]⟩ wr hcells hb0 (by omega) (by omega) (by
        rw [show (⟨#[32]⟩ : ByteArray).data.toList = [32] from rfl, hj, hlen.out]
        have : (textTo xs (k - 1)).data.toList.length = (textTo xs (k - 1)).size := by simp
        omega)
      rw [show (⟨#[32]⟩ : ByteArray).data.toList = [32] from rfl, hj, hlen.out, hml] at hJ
      have e3 : (⟨(textTo xs (k - 1)).data.toList.toArray⟩ : ByteArray) = textTo xs (k - 1) := by simp
      rw [e3] at hJ
      replace hJ := hide hJ
      clear hcells hsz hj e3 e1
      go_wp2_with (go_at_call 87; refine hJ.out.mono ?_; rintro e w1 ⟨rfl, hb⟩; have HB1 := hide (HB.out.trans (hb.mono HB.out.size)); clear hb)
      go_ret
      exact ⟨rfl, HB1.out⟩
theorem requestsText_any (A : Option Addr) (n c : Nat) (xs : List Int) (w : World) (hr : RdI w A n xs) (hn : n ≤ 1048576) (hx : In64 xs) (ht : Tab w) :
    Calls Tryd.prog 54 #[.slice A n c] w fun e w' => e = .returned (.string (reqText xs)) ∧ Below w.heap.size w w' := by
  unfold reqText
  rw [hr.1]
  by_cases h0 : n = 0
  · subst h0
    go_enter Tryd.func54, Tryd.ntmps54
    go_wp2
    go_ret
    exact ⟨rfl, Below.refl _ _⟩
  · rw [if_neg h0]
    have h1 := hide (spaced_any A n c xs w hr hn (by omega) hx ht)
    have hn0 : (0 : Int) < (n : Int) := by omega
    replace h0 := hide h0
    clear hr ht
    go_enter Tryd.func54, Tryd.ntmps54
    go_wp2_with (go_at_call 77; refine h1.out.mono ?_; rintro e w1 ⟨rfl, hb⟩)
    go_ret
    exact ⟨rfl, hb⟩
end Go.Proofs.YtlickpalbfhjoaaDoor
