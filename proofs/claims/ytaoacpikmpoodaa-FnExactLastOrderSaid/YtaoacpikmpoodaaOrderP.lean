/- The items of a sequence by their last places, the last first: the reference's loop (l4Order); for slices of at most 2^20 numbers. -/
import Derived.Test.YtaoacpikmpoodaaReqs
import Derived.Test.YtaoacpikmpoodaaShelf
namespace Go.Proofs.Ytaoacpikmpoodaa
open Go.RowKit Go.Lib

def hasO (xs : List Int) (x : Int) : Bool := xs.contains x
theorem nil_ofO {w : World} {A : Option Addr} {xs : List Int} (h : RdI w A 0 xs) : xs = [] := List.length_eq_zero_iff.1 h.1
theorem cellsO {w : World} {b off n : Nat} {xs : List Int} (h : RdI w (some ⟨b, off, none⟩) n xs) : ∀ j, j < xs.length → w.cell? ⟨b, off + j, none⟩ = some (.int .i64 (xs.getD j 0)) := by
  intro j hj
  obtain ⟨b', off', e, _, hc⟩ := h.at_ (k := j) (by rw [← h.1]; exact hj)
  cases e
  exact hc
theorem containsO_any (A : Option Addr) (n c : Nat) (xs : List Int) (x : Int) (w : World) (hr : RdI w A n xs) (hn : n ≤ 1048576) :
    Calls Try.prog 72 #[.slice A n c, .int .i64 x] w fun e w' => e = .returned (.bool (hasO xs x)) ∧ w = w' := by
  rcases Nat.eq_zero_or_pos n with h0 | h0
  · subst h0
    obtain rfl := nil_ofO hr
    exact (Try.slices_Contains_int_empty A c x w).mono fun e w' ⟨h1, h2⟩ => ⟨h1, h2.symm⟩
  · obtain ⟨b, off, rfl, _, _⟩ := hr.2 h0
    refine (Try.slices_Contains_int b off n c xs x w (by rw [hr.1]; exact Nat.le_refl _) (by omega) (cellsO hr)).mono ?_
    rintro e w' ⟨h1, h2⟩
    rw [List.take_of_length_le (by rw [hr.1]; exact Nat.le_refl _)] at h1
    exact ⟨h1, h2.symm⟩
theorem getD_memO {xs : List Int} {k : Nat} (h : k < xs.length) : xs.getD k 0 ∈ xs := by
  rw [List.getD_eq_getElem?_getD, List.getElem?_eq_getElem h]
  exact List.getElem_mem h
theorem has_no (xs : List Int) (x : Int) (h : ∀ j, j < xs.length → xs.getD j 0 ≠ x) : hasO xs x = false := by
  unfold hasO
  rw [Bool.eq_false_iff]
  intro hc
  rw [List.contains_iff_mem] at hc
  obtain ⟨j, hj, rfl⟩ := List.getElem_of_mem hc
  exact h j hj (by rw [List.getD_eq_getElem?_getD, List.getElem?_eq_getElem hj]; rfl)
theorem has_yes (xs : List Int) (x : Int) (j : Nat) (hj : j < xs.length) (h : xs.getD j 0 = x) : hasO xs x = true := by
  unfold hasO
  rw [List.contains_iff_mem, ← h]
  exact getD_memO hj
set_option maxHeartbeats 800000 in
theorem l1HasO_any (A : Option Addr) (n c : Nat) (xs : List Int) (x : Int) (w : World) (hr : RdI w A n xs) (hn : n ≤ 1048576) :
    Calls Try.prog 82 #[.slice A n c, .int .i64 x] w fun e w' => e = .returned (.bool (hasO xs x)) ∧ w = w' := by
  have hlen := hide hr.1
  have HR := hide hr
  clear hr
  go_enter Try.func82, Try.ntmps82
  go_wp2_with fail
  go_loop [5] (fun i => ∃ k : Nat, k ≤ n ∧ i = .int .i64 k ∧ Hid (∀ j, j < k → xs.getD j 0 ≠ x)) (fun i => n - (intOf i).toNat)
  case atStart => exact ⟨0, Nat.zero_le _, rfl, fun j hj => absurd hj (Nat.not_lt_zero _)⟩
  case round =>
    obtain ⟨k, hk, rfl, HA⟩ := hrel
    by_cases hlt : k < n
    · have hlt' : (k : Int) < (n : Int) := by omega
      obtain ⟨b, off, rfl, _, hc⟩ := (HR.out).at_ hlt
      obtain ⟨v, hv⟩ : ∃ v, Hid (xs.getD k 0 = v) := ⟨_, rfl⟩
      rw [hv.out] at hc
      by_cases hxv : v = x
      · have HF := hide (has_yes xs x k (by rw [hlen.out]; exact hlt) (by rw [hv.out]; exact hxv))
        have hq : (v == x) = true := by simpa using hxv
        clear hxv
        go_wp2
        go_ret
        exact ⟨ret_bool HF.out.symm, rfl⟩
      · have HA2 : Hid (∀ j, j < k + 1 → xs.getD j 0 ≠ x) := fun j hj => by
          by_cases e : j < k
          · exact HA.out j e
          · obtain rfl : j = k := by omega
            rw [hv.out]
            exact hxv
        have hq : (v == x) = false := by simpa using hxv
        clear hxv
        go_wp2
        go_round
        case rel => first | exact ⟨k + 1, by omega, by go_num, HA2⟩ | ((repeat apply Exists.intro); refine ⟨?_, rfl⟩; exact ⟨k + 1, by omega, by go_num, HA2⟩)
        case measure => first | (simp [intOf]; done) | (simp [intOf]; omega)
    · have hkn : k = n := by omega
      subst hkn
      have HF := hide (has_no xs x (by rw [hlen.out]; exact HA.out))
      go_wp2
      go_ret
      exact ⟨ret_bool HF.out.symm, rfl⟩

/-- One item more, if it is new. -/
def ordStep (l : List Int) (x : Int) : List Int := if hasO l x = true then l else l ++ [x]
theorem ord_old {l : List Int} {x : Int} (h : hasO l x = true) : ordStep l x = l := by unfold ordStep; rw [if_pos h]
theorem ord_new {l : List Int} {x : Int} (h : hasO l x = false) : ordStep l x = l ++ [x] := by unfold ordStep; rw [h]; rfl
theorem ordStep_len (l : List Int) (x : Int) : (ordStep l x).length ≤ l.length + 1 := by unfold ordStep; split <;> simp
/-- What the last k items leave. -/
def ordTo (xs : List Int) (k : Nat) : List Int := (xs.reverse.take k).foldl ordStep []
theorem ordTo_snoc (xs : List Int) (k m : Nat) (h : xs.length = m + (k + 1)) : ordTo xs (k + 1) = ordStep (ordTo xs k) (xs.getD m 0) := by
  unfold ordTo
  rw [List.take_succ_eq_append_getElem (by simp; omega), List.foldl_append]
  simp only [List.foldl_cons, List.foldl_nil]
  congr 1
  rw [List.getElem_reverse, List.getD_eq_getElem?_getD, List.getElem?_eq_getElem (by omega)]
  simp only [Option.getD_some]
  congr 1
  omega
theorem ordTo_len (xs : List Int) : ∀ k, (ordTo xs k).length ≤ k
  | 0 => by simp [ordTo]
  | k + 1 => by
    by_cases h : k < xs.length
    · rw [ordTo_snoc xs k (xs.length - (k + 1)) (by omega)]
      have := ordTo_len xs k
      have := ordStep_len (ordTo xs k) (xs.getD (xs.length - (k + 1)) 0)
      omega
    · have e : ordTo xs (k + 1) = ordTo xs k := by
        unfold ordTo
        rw [List.take_of_length_le (by simp; omega), List.take_of_length_le (by simp; omega)]
      rw [e]
      have := ordTo_len xs k
      omega
/-- A slice of its own that a function hands back. -/
def RetP (w : World) (ys : List Int) (e : Ending) (w' : World) : Prop :=
  ∃ A c, e = .returned (.slice A ys.length c) ∧ OwnI w' w.heap.size A ys.length c ys ∧ Below w.heap.size w w'
theorem RetP.of {w w' : World} {xs ys : List Int} {A : Option Addr} {n c : Nat} (ho : OwnI w' w.heap.size A n c ys) (hb : Below w.heap.size w w') (h : xs = ys) : RetP w xs (.returned (.slice A n c)) w' := by
  subst h
  have := ho.len
  subst this
  exact ⟨A, c, rfl, ho, hb⟩

set_option maxRecDepth 100000 in
set_option maxHeartbeats 1600000 in
theorem l4Order_any (A : Option Addr) (n c : Nat) (xs : List Int) (w : World) (hr : RdI w A n xs) (hn : n ≤ 1048576) :
    Calls Try.prog 70 #[.slice A n c] w (RetP w (ordTo xs n)) := by
  have hlen := hide hr.1
  have HR := hide hr
  clear hr
  go_enter Try.func70, Try.ntmps70
  go_wp2
  go_loopw [3, 4] (fun o i wr => ∃ (k q cc : Nat) (A2 : Option Addr), k ≤ n ∧ q ≤ k ∧ i = .int .i64 ((n : Int) - 1 - k) ∧ o = .slice A2 q cc ∧ Hid (OwnI wr w.heap.size A2 q cc (ordTo xs k)) ∧ Hid (Below w.heap.size w wr)) (fun _ i _ => (intOf i + 1).toNat)
  case atStart => exact ⟨0, 0, 0, _, Nat.zero_le _, Nat.le_refl _, by simp, rfl, own_empty _ _ (Nat.le_refl _) _ rfl, (by repeat (first | exact Below.refl _ _ | (refine below_drewN ?_ _) | (refine Below.drew ?_) | (refine Below.alloc ?_ (by first | exact Nat.le_refl _ | (simp; done) | (simp; omega) | omega) _) | (refine Below.setCell ?_ (by first | exact Nat.le_refl _ | (simp; done) | (simp; omega) | omega) _) | (refine Below.trans ?_ (Below.mono (by assumption) (by first | exact Nat.le_refl _ | (simp; done) | (simp; omega) | omega)))))⟩
  case round =>
    obtain ⟨k, q, cc, A2, hk, hq, rfl, rfl, HO, HB⟩ := hrel
    by_cases hlt : k < n
    · obtain ⟨m, hm⟩ : ∃ m, n = m + (k + 1) := ⟨n - (k + 1), by omega⟩
      have e0 : (n : Int) - 1 - (k : Int) = (m : Int) := by omega
      rw [e0]
      have hmn : m < n := by omega
      obtain ⟨b, off, rfl, hb0, hc⟩ := (HR.out).at_ hmn
      have hmn' : (m : Int) < (n : Int) := by omega
      have hc1 : wr.cell? ⟨b, off + m, none⟩ = some (.int .i64 (xs.getD m 0)) := (HB.out.cell (p := ⟨b, off + m, none⟩) hb0).trans hc
      have HS := hide (ordTo_snoc xs k m (by rw [hlen.out]; exact hm))
      have kh := fun w' (h : RdI w' A2 q (ordTo xs k)) => l1HasO_any A2 q cc (ordTo xs k) (xs.getD m 0) w' h (by omega)
      have HE := hide e0
      replace hm := hide hm
      clear hc hb0 e0
      cases hh : hasO (ordTo xs k) (xs.getD m 0)
      · have HS2 := hide (HS.out.trans (ord_new hh))
        rw [hh] at kh
        generalize xs.getD m 0 = x at hc1 kh HS2
        replace kh := hide kh
        clear hh HS
        go_wp2_with (first
          | (go_at_call 82; refine (kh.out _ HO.out.rd).mono ?_; rintro e w1 ⟨rfl, rfl⟩)
          | (at_builtin; refine append_int rfl _ _ rfl w.heap.size A2 q cc (ordTo xs k) x _ rfl rfl HO.out (by omega) HB.out.size ?_; intro A3 c3 w3 ho3 hb3 hg3; replace ho3 := hide ho3; replace hb3 := hide hb3; clear hg3))
        go_roundw
        case rel => first | exact ⟨k + 1, q + 1, c3, A3, by omega, by omega, by (have := HE.out; congr 1; omega), rfl, by rw [HS2.out]; exact ho3, HB.out.trans hb3.out⟩ | ((repeat apply Exists.intro); refine ⟨?_, rfl⟩; exact ⟨k + 1, q + 1, c3, A3, by omega, by omega, by (have := HE.out; congr 1; omega), rfl, by rw [HS2.out]; exact ho3, HB.out.trans hb3.out⟩)
        case measure => first | (simp [intOf]; done) | (simp [intOf]; omega)
      · have HS2 := hide (HS.out.trans (ord_old hh))
        rw [hh] at kh
        generalize xs.getD m 0 = x at hc1 kh HS2
        replace kh := hide kh
        clear hh HS
        go_wp2_with (first
          | (go_at_call 82; refine (kh.out _ HO.out.rd).mono ?_; rintro e w1 ⟨rfl, rfl⟩))
        go_roundw
        case rel => first | exact ⟨k + 1, q, cc, A2, by omega, by omega, by (have := HE.out; congr 1; omega), rfl, by rw [HS2.out]; exact HO, HB⟩ | ((repeat apply Exists.intro); refine ⟨?_, rfl⟩; exact ⟨k + 1, q, cc, A2, by omega, by omega, by (have := HE.out; congr 1; omega), rfl, by rw [HS2.out]; exact HO, HB⟩)
        case measure => first | (simp [intOf]; done) | (simp [intOf]; omega)
    · obtain rfl : k = n := by omega
      have e0 : (k : Int) - 1 - (k : Int) = -1 := by omega
      rw [e0]
      clear e0
      go_wp2
      go_ret
      exact RetP.of HO.out HB.out rfl
end Go.Proofs.Ytaoacpikmpoodaa
