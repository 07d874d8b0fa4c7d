/- The text of a list of numbers: the reference's loop; what strings.Join hands back is the same; for lists of at most 2^20 numbers. -/
import Derived.Test.YtlickpalbfhjoaaDoorSeal
import Derived.Test.YtlickpalbfhjoaaDoorReqs
import Derived.Test.YtlickpalbfhjoaaDoorStrs
import Derived.Lib.Join
namespace Go.Proofs.YtlickpalbfhjoaaDoor
open Go.RowKit

/-- The text of the first k + 1 numbers. -/
def textTo (xs : List Int) : Nat → ByteArray
  | 0 => numText (xs.getD 0 0)
  | k + 1 => textTo xs k ++ ⟨#[32]⟩ ++ numText (xs.getD (k + 1) 0)
def reqText (xs : List Int) : ByteArray := if xs.length = 0 then ⟨#[110, 111, 110, 101]⟩ else textTo xs (xs.length - 1)
def In64 (xs : List Int) : Prop := ∀ j, j < xs.length → -1000000000 ≤ xs.getD j 0 ∧ xs.getD j 0 ≤ 1000000000
theorem textTo_size (xs : List Int) (h : In64 xs) : ∀ k, k < xs.length → (textTo xs k).size ≤ 22 * (k + 1)
  | 0, hk => by
    have := h 0 hk
    have := numText_size (xs.getD 0 0) (by omega)
    simp only [textTo]; omega
  | k + 1, hk => by
    have := h (k + 1) hk
    have h1 := numText_size (xs.getD (k + 1) 0) (by omega)
    have h2 := textTo_size xs h k (by omega)
    have h3 : (⟨#[32]⟩ : ByteArray).size = 1 := rfl
    simp only [textTo, ByteArray.size_append, h3]
    omega
theorem bytes_app (a b : ByteArray) : (a ++ b).data.toList = a.data.toList ++ b.data.toList := by
  rw [ByteArray.data_append]; simp
theorem textTo_bytes (x : Int) (r : List Int) : ∀ k, k ≤ r.length → (textTo (x :: r) k).data.toList = (numText x).data.toList ++ (((r.take k).map fun y => 32 :: (numText y).data.toList)).flatten
  | 0, _ => by simp [textTo]
  | k + 1, h => by
    have ih := textTo_bytes x r k (by omega)
    have e : (x :: r).getD (k + 1) 0 = r[k] := by simp [List.getD_eq_getElem?_getD, List.getElem?_eq_getElem (show k < r.length by omega)]
    simp only [textTo, bytes_app, ih, e]
    rw [List.take_succ_eq_append_getElem (by omega)]
    simp only [List.map_append, List.map_cons, List.map_nil, List.flatten_append, List.flatten_cons, List.flatten_nil, List.append_nil, List.append_assoc]
    rfl
theorem join_text (xs : List Int) (h : 0 < xs.length) : Lib.join ((xs.map numText).map (·.data.toList)) [32] = (textTo xs (xs.length - 1)).data.toList := by
  cases xs with
  | nil => simp at h
  | cons x r =>
    rw [show (x :: r).length - 1 = r.length by simp, textTo_bytes x r r.length (Nat.le_refl _), List.take_length]
    simp only [List.map_cons]
    rw [Lib.join_cons]
    unfold Lib.joinTail
    congr 2
    simp

set_option maxRecDepth 100000 in
set_option maxHeartbeats 800000 in
theorem l3Text_any (A : Option Addr) (n c : Nat) (xs : List Int) (w : World) (hr : RdI w A n xs) (hn : n ≤ 1048576) (hx : In64 xs) :
    Calls Tryd.prog 52 #[.slice A n c] w fun e w' => e = .returned (.string (reqText xs)) ∧ Below w.heap.size w w' := by
  have hlen := hide hr.1
  have HR := hide hr
  unfold reqText
  rw [hr.1]
  clear hr
  by_cases h0 : n = 0
  · subst h0
    go_enter Tryd.func52, Tryd.ntmps52
    go_wp2
    go_ret
    exact ⟨rfl, Below.refl _ _⟩
  · rw [if_neg h0]
    obtain ⟨b, off, rfl, hb0, hc⟩ := (HR.out).at_ (k := 0) (by omega)
    rw [Nat.add_zero] at hc
    have hx0 := hx 0 (by rw [hlen.out]; omega)
    have h3 : ∀ w, Calls Tryd.prog 40 #[.int .i64 (xs.getD 0 0)] w fun e w' => e = .returned (.string (textTo xs 0)) ∧ ∃ m, w' = w.drewN m := fun w => l1Num_any _ (by omega) (by omega) w
    have hn0 : (0 : Int) < (n : Int) := by omega
    generalize xs.getD 0 0 = x0 at hc h3
    replace h0 := hide h0
    go_enter Tryd.func52, Tryd.ntmps52
    go_wp2_with (go_at_call 40; refine (h3 _).mono ?_; rintro e w1 ⟨rfl, m, rfl⟩)
    go_loopw [3, 4] (fun u i wr => ∃ k : Nat, k + 1 ≤ n ∧ i = .int .i64 ((k + 1 : Nat) : Int) ∧ u = .string (textTo xs k) ∧ ∃ m, Hid (wr = w.drewN m)) (fun _ i _ => n - (intOf i).toNat)
    case atStart => exact ⟨0, by have := h0.out; omega, rfl, rfl, _, rfl⟩
    case round =>
      obtain ⟨k, hk, rfl, rfl, m2, HW⟩ := hrel
      obtain rfl := HW.out
      clear hc h3
      by_cases hlt : k + 1 < n
      · obtain ⟨b', off', e', hb1, hc1⟩ := (HR.out).at_ hlt
        cases e'
        have hxk := hx (k + 1) (by rw [hlen.out]; exact hlt)
        have h4 := fun w => l1Num_any (xs.getD (k + 1) 0) (by omega) (by omega) w
        have s1 := numText_size (xs.getD (k + 1) 0) (by omega)
        have s2 := textTo_size xs hx k (by rw [hlen.out]; omega)
        have HT : Hid (textTo xs (k + 1) = textTo xs k ++ ⟨#[32]⟩ ++ numText (xs.getD (k + 1) 0)) := rfl
        change ∀ w, Calls _ _ _ w fun e w' => e = .returned (.string (numText (xs.getD (k + 1) 0))) ∧ ∃ m, w' = w.drewN m at h4
        generalize numText (xs.getD (k + 1) 0) = t at h4 s1 HT
        generalize xs.getD (k + 1) 0 = x at hc1 h4
        obtain ⟨u, hu⟩ : ∃ u, u = textTo xs k := ⟨_, rfl⟩
        rw [← hu] at s2 HT ⊢
        clear hu hxk
        have c1 : ¬ (9223372036854775807 < u.size + 1) := by omega
        have c2 : ¬ (9223372036854775807 < u.size + 1 + t.size) := by omega
        have c3 : (⟨#[32]⟩ : ByteArray).size = 1 := rfl
        have hc2 : w.cell? ⟨b, off + (k + 1), none⟩ = some (.int .i64 x) := hc1
        have hlt' : ((k : Int) + 1) < (n : Int) := by omega
        go_wp2_with (go_at_call 40; refine (h4 _).mono ?_; rintro e w1 ⟨rfl, m3, rfl⟩)
        go_roundw
        case rel => first | exact ⟨k + 1, by omega, by go_num, by rw [HT.out], _, rfl⟩ | ((repeat apply Exists.intro); refine ⟨?_, rfl⟩; exact ⟨k + 1, by omega, by go_num, by rw [HT.out], _, rfl⟩)
        case measure => first | (simp [intOf]; done) | (simp [intOf]; omega)
      · obtain rfl : n = k + 1 := by omega
        go_wp2
        go_ret
        exact ⟨rfl, below_drewN (Below.refl _ _) _⟩
end Go.Proofs.YtlickpalbfhjoaaDoor
