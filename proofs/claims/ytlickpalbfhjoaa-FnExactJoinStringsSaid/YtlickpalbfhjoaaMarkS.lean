/- The law's comparison and marks over slices of texts: for slices of at most 2^20 texts that the call has made itself. -/
import Derived.Test.YtlickpalbfhjoaaMarkT
import Derived.Lib.SlicesS
import Derived.Deep.RegionHeld3
namespace Go.Proofs.Ytlickpalbfhjoaa
open Go.RowKit

theorem eqStringS_same (A A' : Option Addr) (n c c' : Nat) (xs : List ByteArray) (w : World) (h1 : RdS w A n xs) (h2 : RdS w A' n xs) (hn : n ≤ 9223372036854775807) :
    Calls Try.prog 7 #[.slice A n c, .slice A' n c'] w fun e w' => e = .returned (.bool true) ∧ ∃ m, w' = w.drewN m := by
  have H1 := hide h1
  have H2 := hide h2
  clear h1 h2
  go_enter Try.func7, Try.ntmps7
  go_wp2
  go_loopw [5] (fun i wr => ∃ k : Nat, k ≤ n ∧ i = .int .i64 k ∧ ∃ m, Hid (wr = w.drewN m)) (fun i _ => n - (intOf i).toNat)
  case atStart => exact ⟨0, Nat.zero_le _, rfl, 0, rfl⟩
  case round =>
    obtain ⟨k, hk, rfl, m, HW⟩ := hrel
    obtain rfl := HW.out
    by_cases hlt : k < n
    · obtain ⟨b, off, rfl, _, hc1⟩ := (H1.out).at_ hlt
      obtain ⟨b', off', rfl, _, hc2⟩ := (H2.out).at_ hlt
      have hlt' : (k : Int) < (n : Int) := by omega
      generalize xs.getD k ByteArray.empty = x at hc1 hc2
      go_wp2
      go_quiet (fail)
      go_wp2
      go_roundw
      case rel => exact ⟨k + 1, by omega, by go_num, m + _, rfl⟩
      case measure => simp [intOf]; omega
    · go_wp2
      go_ret
      exact ⟨rfl, m, rfl⟩

/-- Only the block of one slice has been written. -/
def MarkedS (w w' : World) (A : Option Addr) : Prop := w.grownBy w' (A.map (·.block))
theorem OwnS.drewN {w : World} {base : Nat} {A : Option Addr} {n c : Nat} {xs : List ByteArray} (h : OwnS w base A n c xs) (m : Nat) : OwnS (w.drewN m) base A n c xs := h
/-- Two slices lie in different blocks. -/
def SepS (A A' : Option Addr) : Prop := ∀ a a', A = some a → A' = some a' → a.block ≠ a'.block
theorem SepS.symm {A A' : Option Addr} (h : SepS A A') : SepS A' A := fun a a' e e' he => h a' a e' e he.symm
theorem sepS_new {w w' : World} {base base' : Nat} {A A' : Option Addr} {n c n' c' : Nat} {xs ys : List ByteArray} (h : OwnS w base A n c xs) (h' : OwnS w' base' A' n' c' ys) (hb : w.heap.size ≤ base' := by exact Nat.le_refl _) : SepS A A' := fun a a' e e' he => by
  have := (h.lt a e).2
  have := (h'.lt a' e').1
  omega
theorem OwnS.marked {w w' : World} {base : Nat} {A A' : Option Addr} {n c : Nat} {xs : List ByteArray} (h : OwnS w base A n c xs) (hm : MarkedS w w' A') (hs : SepS A A') : OwnS w' base A n c xs := by
  refine World.ownsRow.kept h hm ?_
  cases A with
  | none => exact .inl rfl
  | some a =>
    right
    cases A' with
    | none => simp [Value.ownBlock]
    | some a' => simpa [Value.ownBlock] using hs a a' rfl rfl
theorem OwnS.marks {w w' : World} {base : Nat} {A : Option Addr} {n c : Nat} {xs : List ByteArray} (h : OwnS w base A n c xs) (hm : MarkedS w w' A) (hb : base ≤ w.heap.size) : Below base w w' := by
  refine ⟨hm.os, hm.tape, hm.output, hm.size, fun k hk => hm.block k (by omega) ?_⟩
  cases A with
  | none => simp
  | some a => have := (h.lt a rfl).1; simp; omega
theorem below_marked {w w' : World} (h : Below w.heap.size w w') (A : Option Addr) : MarkedS w w' A := ⟨h.os, h.tape, h.output, h.size, fun k hk _ => h.block k hk⟩

/-- The marks k, k + 1, .. -/
def marksS (k : Nat) (n : Nat) : List ByteArray := (List.range n).map fun j => markB (k + j)
theorem marksS_len (k n : Nat) : (marksS k n).length = n := by simp [marksS]
theorem marksS_getD (k n j : Nat) (h : j < n) : (marksS k n).getD j ByteArray.empty = markB (k + j) := by simp [marksS, List.getD_eq_getElem?_getD, h]
theorem mark_stepS (k : Nat) (xs : List ByteArray) (n j : Nat) (hn : xs.length = n) (hj : j < n) :
    ((marksS k j ++ xs.drop j).map Value.string).set j (.string (markB (k + j))) = (marksS k (j + 1) ++ xs.drop (j + 1)).map Value.string := by
  rw [← List.map_set]
  congr 1
  rw [List.set_append_right _ _ (by simp [marksS_len]), marksS_len, Nat.sub_self, List.drop_eq_getElem_cons (by omega), List.set_cons_zero]
  simp [marksS, List.range_succ]

set_option maxHeartbeats 800000 in
theorem markStringS_any (A : Option Addr) (n c base : Nat) (k : Nat) (xs : List ByteArray) (w : World) (ho : OwnS w base A n c xs) (hk' : k ≤ 2000000) (hn : n ≤ 1048577) :
    Calls Try.prog 8 #[.slice A n c, .int .i64 k] w fun e w' => e = .returned (.int .i64 (((k + n : Nat)) : Int)) ∧ OwnS w' base A n c (marksS k n) ∧ MarkedS w w' A := by
  have hlen := hide ho.len
  have HO := hide ho
  clear ho
  go_enter Try.func8, Try.ntmps8
  go_wp2
  go_loopw [1, 5] (fun q i wr => ∃ j : Nat, j ≤ n ∧ i = .int .i64 j ∧ q = .int .i64 ((k + j : Nat) : Int) ∧ Hid (OwnS wr base A n c (marksS k j ++ xs.drop j)) ∧ Hid (MarkedS w wr A)) (fun _ i _ => n - (intOf i).toNat)
  case atStart => exact ⟨0, Nat.zero_le _, rfl, by simp, by simpa [marksS] using HO, ⟨rfl, rfl, rfl, Nat.le_refl _, fun _ _ _ => rfl⟩⟩
  case round =>
    obtain ⟨j, hj, rfl, rfl, HJ, HM⟩ := hrel
    by_cases hlt : j < n
    · obtain ⟨g, cap, hv, _⟩ := World.ownsRow.form HJ.out (by omega)
      have hA : A = some ⟨g, 0, none⟩ := by injection hv
      have hcap : c = cap := by injection hv
      subst hA
      subst hcap
      clear hv
      have hkj : k + j ≤ 4000000 := by omega
      have HT := hide (fun w => markText_any (k + j) hkj w)
      go_wp2_with (go_at_call 16; refine (HT.out _).mono ?_; rintro e w1 ⟨rfl, hb⟩; have HJ1 := hide (HJ.out.below hb); have HM1 := hide (grown_trans HM.out (below_marked hb _)); (obtain ⟨v0, hc2⟩ : ∃ v0, w1.cell? ⟨g, j, none⟩ = some (.string v0) := by (rw [World.ownsRow.cellAt HJ1.out j (by omega)]; exact ⟨_, getD_mapS (by simp [marksS_len, hlen.out]; omega)⟩)); have hf2 := World.ownsRow.frozenAt HJ1.out j; have HS := hide (World.ownsRow.stored HJ1.out j (.string (markB (k + j)))); clear hb)
      go_roundw
      case rel => exact ⟨j + 1, by omega, by go_num, by go_num, by have := HS.out.1; rw [mark_stepS k xs n j hlen.out hlt] at this; exact this, grown_trans HM1.out HS.out.2⟩
      case measure => first | (simp [intOf]; done) | (simp [intOf]; omega)
    · have hjn : j = n := by omega
      subst hjn
      go_wp2
      go_ret
      refine ⟨rfl, ?_, HM.out⟩
      have := HJ.out
      rwa [List.drop_of_length_le (by rw [hlen.out]; exact Nat.le_refl _), List.append_nil] at this

set_option maxHeartbeats 1600000 in
theorem heldStringS_any (A : Option Addr) (n c : Nat) (k : Nat) (w : World) (h : RdS w A n (marksS k n)) (hk' : k ≤ 2000000) (hn : n ≤ 1048577) :
    Calls Try.prog 9 #[.slice A n c, .int .i64 k] w fun e w' => e = .returned (.int .i64 (((k + n : Nat)) : Int)) ∧ Below w.heap.size w w' := by
  have HR := hide h
  clear h
  have hB0 := hide (Below.refl w.heap.size w)
  go_enter Try.func9, Try.ntmps9
  go_wp2
  go_loopw [1, 5] (fun q i wr => ∃ j : Nat, j ≤ n ∧ i = .int .i64 j ∧ q = .int .i64 ((k + j : Nat) : Int) ∧ Hid (Below w.heap.size w wr)) (fun _ i _ => n - (intOf i).toNat)
  case atStart => exact ⟨0, Nat.zero_le _, rfl, by simp, hB0⟩
  case round =>
    obtain ⟨j, hj, rfl, rfl, HB⟩ := hrel
    by_cases hlt : j < n
    · obtain ⟨b, off, rfl, hb0, hc⟩ := (HR.out).at_ hlt
      rw [marksS_getD k n j hlt] at hc
      have hkj : k + j ≤ 4000000 := by omega
      have e0 : ((k + j : Nat) : Int) = (k : Int) + (j : Int) := by omega
      obtain ⟨x, hx⟩ : ∃ x, x = markB (k + j) := ⟨_, rfl⟩
      have HT : ∀ w, Calls Try.prog 16 #[.int .i64 ((k : Int) + (j : Int))] w fun e w' => e = .returned (.string x) ∧ Below w.heap.size w w' := fun w => by
        have := markText_any (k + j) hkj w
        rw [e0, ← hx] at this
        exact this
      rw [← hx] at hc
      clear hx e0
      replace HT := hide HT
      have q0 : wr.cell? ⟨b, off + j, none⟩ = some (.string x) := (HB.out.cell (p := ⟨b, off + j, none⟩) hb0).trans hc
      have hbl : b < wr.heap.size := Nat.lt_of_lt_of_le hb0 HB.out.size
      have mkS := hide (fun (w' : World) (h : Kept wr.heap.size wr w') => (⟨(h.cells _ _ hbl).trans q0, h⟩ : w'.cell? ⟨b, off + j, none⟩ = some (.string x) ∧ Kept wr.heap.size wr w'))
      have HK := Kept.start (Nat.le_refl wr.heap.size)
      clear hc hb0
      go_wp2_with fail
      go_region_held3 (fun w' => w'.cell? ⟨b, off + j, none⟩ = some (.string x) ∧ Kept wr.heap.size wr w')
        (first | exact mkS.out _ HK | exact mkS.out _ HK.drew)
        (first
          | (go_at_call 16; refine (HT.out _).mono ?_; rintro e w1 ⟨rfl, hb⟩; go_must (have HK := Kept.step (by first | exact HK | exact HK.drew) hb)))
      all_goals go_wp2_with fail
      all_goals go_roundw
      all_goals first
        | exact ⟨j + 1, by omega, by go_num, by go_num, HK.below HB.out HB.out.size⟩
        | exact ⟨j + 1, by omega, by go_num, by go_num, HK.drew.below HB.out HB.out.size⟩
        | (simp [intOf]; done)
        | (simp [intOf]; omega)
    · have hjn : j = n := by omega
      subst hjn
      go_wp2
      go_ret
      exact ⟨rfl, HB.out⟩
end Go.Proofs.Ytlickpalbfhjoaa
