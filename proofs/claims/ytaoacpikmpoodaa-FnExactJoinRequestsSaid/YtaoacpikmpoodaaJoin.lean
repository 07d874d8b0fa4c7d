/- JoinRequests: the reference and the program return the same; for slices of at most 2^20 numbers that can be read. -/
import Derived.Test.YtaoacpikmpoodaaCounts
import Derived.Test.YtaoacpikmpoodaaAppend
namespace Go.Proofs.Ytaoacpikmpoodaa
open Go.RowKit
def joinOk (q : Int) (xs ys : List Int) : Bool := reqB q xs && (reqB q ys && decide (xs.length + ys.length ≤ 60))
def joinRequestsV (q : Int) (xs ys : List Int) : List Int × Bool := if joinOk q xs ys = true then (xs ++ ys, true) else ([], false)
theorem joinRequestsV_len (q : Int) (xs ys : List Int) (_ : xs.length ≤ 1048576) (_ : ys.length ≤ 1048576) : (joinRequestsV q xs ys).1.length ≤ 1048576 := by
  unfold joinRequestsV
  split
  · rename_i h
    simp [joinOk] at h
    show (xs ++ ys).length ≤ 1048576
    rw [List.length_append]
    omega
  · simp
theorem l1Own_any (A : Option Addr) (n c : Nat) (xs : List Int) (w : World) (hr : RdI w A n xs) (hn : n ≤ 1048576) :
    Calls Try.prog 68 #[.slice A n c] w (RetO w xs) := by
  have HR := hide hr
  clear hr
  go_enter Try.func68, Try.ntmps68
  go_wp2_with (at_builtin; refine append_ints rfl _ _ rfl w.heap.size _ 0 0 [] A n c xs _ rfl rfl (own_empty _ _ (Nat.le_refl _) _ rfl) (HR.out.below (by repeat (first | exact Below.refl _ _ | (refine below_drewN ?_ _) | (refine Below.drew ?_) | (refine Below.alloc ?_ (by first | exact Nat.le_refl _ | (simp; done) | (simp; omega) | omega) _) | (refine Below.setCell ?_ (by first | exact Nat.le_refl _ | (simp; done) | (simp; omega) | omega) _) | (refine Below.trans ?_ (Below.mono (by assumption) (by first | exact Nat.le_refl _ | (simp; done) | (simp; omega) | omega)))))) (by omega) (by simp) ?_; intro A' c' w1 ho' hb' hg'; replace ho' := hide ho'; replace hb' := hide hb'; clear hg')
  rw [show (0 + n) = n by omega] at *
  go_ret
  refine RetO.of ?_ ?_ rfl
  · have := ho'.out; simpa using this
  · exact Below.trans (by repeat (first | exact Below.refl _ _ | (refine below_drewN ?_ _) | (refine Below.drew ?_) | (refine Below.alloc ?_ (by first | exact Nat.le_refl _ | (simp; done) | (simp; omega) | omega) _) | (refine Below.setCell ?_ (by first | exact Nat.le_refl _ | (simp; done) | (simp; omega) | omega) _) | (refine Below.trans ?_ (Below.mono (by assumption) (by first | exact Nat.le_refl _ | (simp; done) | (simp; omega) | omega))))) hb'.out

set_option maxHeartbeats 1600000 in
theorem grow_any (n : Nat) (w : World) (hn : n ≤ 1048576) :
    Calls Try.prog 81 #[.slice none 0 0, .int .i64 n] w fun e w' => ∃ A c, e = .returned (.slice A 0 c) ∧ OwnI w' w.heap.size A 0 c [] ∧ w.grownBy w' none := by
  by_cases h0 : n = 0
  · subst h0
    go_enter Try.func81, Try.ntmps81
    go_wp2
    go_ret
    exact ⟨none, 0, rfl, OwnI.nil _ _, ⟨rfl, rfl, rfl, Nat.le_refl _, fun k _ _ => rfl⟩⟩
  · obtain ⟨i0, hi, hz0, hz1, hz2⟩ := info_parts info_int
    have hp : (n : Int) > 0 := by omega
    have hrz : ∀ ty, (Builtin.append_ #[22, 3] ty #[.slice none 0 0, .int .i64 (n : Int)]).run Try.prog w =
        .ok (.slice (some ⟨w.heap.size, 0, none⟩) n (grownCap w n 0 3)) (w.drew.alloc (.cells (Builtin.zeroCells (Value.int .i64 0).cells n ++ Builtin.zeroCells (Value.int .i64 0).cells (grownCap w n 0 3 - n)) 3)) := fun ty => by
      have h := Lib.run_append_grow_zeros w 22 3 ty 3 i0 (.int .i64 0) .i64 .i64 Try.underlying22 Try.underlying3 hi hz0 none 0 0 [] (run_firstCells_none w.drew i0.size 0 0 0) n (by omega) (by omega) (by omega) (by omega) (by rw [hz2]; omega) (by rw [Nat.zero_add]; exact growslice_fits (by omega) (by rw [hz2]; omega))
      simpa using h
    have hGn : n ≤ grownCap w n 0 3 := grownCap_ge w _ _ _
    have hGm : grownCap w n 0 3 ≤ maxLen := grownCap_le_maxLen w n 0 3 (by unfold maxLen; omega)
    have hO := World.ownsRow_made (e := 3) (size := 1) (base := w.heap.size) w.drew (Builtin.zeroCells (Value.int .i64 0).cells n ++ Builtin.zeroCells (Value.int .i64 0).cells (grownCap w n 0 3 - n)) (grownCap w n 0 3) (Nat.le_refl _) hGm (by rw [Array.size_append, size_zeroCells, size_zeroCells, show (Value.int .i64 0).cells.size = 1 from rfl]; omega)
    obtain ⟨G, hG⟩ : ∃ G, G = grownCap w n 0 3 := ⟨_, rfl⟩
    obtain ⟨C, hC⟩ : ∃ C, C = (Builtin.zeroCells (Value.int .i64 0).cells n ++ Builtin.zeroCells (Value.int .i64 0).cells (grownCap w n 0 3 - n)) := ⟨_, rfl⟩
    rw [← hC] at hrz hO
    rw [← hG] at hrz hO hGn hGm
    have hG63 : G ≤ 9223372036854775807 := by unfold maxLen at hGm; omega
    clear hG hC
    replace hO := hide hO
    have hH : (w.drew.alloc (.cells C 3)).heap.size = w.heap.size + 1 := by simp
    go_enter Try.func81, Try.ntmps81
    go_wp2_with (at_builtin; refine Lib.wpList_append_run _ rfl _ _ _ _ rfl _ _ rfl rfl _ _ (hrz _) ?_)
    all_goals go_ret
    all_goals exact ⟨_, _, rfl, hO.out, grownBy_trans (b := w.drew) ⟨rfl, rfl, rfl, Nat.le_refl _, fun k _ _ => rfl⟩ (World.grownBy_alloc w.drew _ _)⟩

set_option maxHeartbeats 1600000 in
theorem concat_any (A : Option Addr) (n c : Nat) (xs : List Int) (A2 : Option Addr) (n2 c2 : Nat) (ys : List Int) (B : Nat) (w : World) (hB : B < w.heap.size) (h0 : w.cell? ⟨B, 0, none⟩ = some (.slice A n c)) (h1 : w.cell? ⟨B, 1, none⟩ = some (.slice A2 n2 c2))
    (hr : RdI w A n xs) (hr2 : RdI w A2 n2 ys) (hn : n + n2 ≤ 1048576) :
    Calls Try.prog 69 #[.slice (some ⟨B, 0, none⟩) 2 2] w (RetO w (xs ++ ys)) := by
  have HR := hide hr
  have HR2 := hide hr2
  clear hr hr2
  go_enter Try.func69, Try.ntmps69
  go_wp2_with fail
  go_loop [3, 5, 11] (fun s _ i => (i = .int .i64 0 ∧ s = .int .i64 0) ∨ (i = .int .i64 1 ∧ s = .int .i64 n) ∨ (i = .int .i64 2 ∧ s = .int .i64 ((n + n2 : Nat) : Int))) (fun _ _ i => 2 - (intOf i).toNat)
  case atStart => exact .inl ⟨rfl, rfl⟩
  case round =>
    rcases hrel with ⟨rfl, rfl⟩ | ⟨rfl, rfl⟩ | ⟨rfl, rfl⟩
    · have e0 : ¬ (n : Int) < 0 := by omega
      go_wp2_with fail
      go_round
      case rel => exact .inr (.inl ⟨rfl, rfl⟩)
      case measure => first | (simp [intOf]; done) | (simp [intOf]; omega)
    · have e0 : ¬ ((n + n2 : Nat) : Int) < 0 := by omega
      go_wp2_with fail
      go_round
      case rel => exact .inr (.inr ⟨rfl, rfl⟩)
      case measure => first | (simp [intOf]; done) | (simp [intOf]; omega)
    · have h0d := h0
      go_wp2_with (go_at_call 81; refine (grow_any _ _ hn).mono ?_; rintro e w1 ⟨A1, c1, rfl, ho1, hg1⟩; replace ho1 := hide ho1; have hb1 : Hid (Below w.heap.size w w1) := ⟨hg1.os, hg1.tape, hg1.output, hg1.size, fun k hk => hg1.block k hk (by simp)⟩; clear hg1)
      go_loopw [6, 8, 27] (fun u _ i wr => ∃ (k m : Nat) (zs : List Int) (A' : Option Addr) (c' : Nat), i = .int .i64 k ∧ u = .slice A' m c' ∧ Hid ((k = 0 ∧ m = 0 ∧ zs = []) ∨ (k = 1 ∧ m = n ∧ zs = xs) ∨ (k = 2 ∧ m = n + n2 ∧ zs = xs ++ ys)) ∧ Hid (OwnI wr w.heap.size A' m c' zs) ∧ Hid (Below w.heap.size w wr)) (fun _ _ i _ => 2 - (intOf i).toNat)
      case atStart => exact ⟨0, 0, [], _, _, rfl, rfl, .inl ⟨rfl, rfl, rfl⟩, ho1, hb1⟩
      case round =>
        obtain ⟨k, m, zs, A', c', rfl, rfl, HC, HO, HB⟩ := hrel
        have q0 := (HB.out.cell (p := ⟨B, 0, none⟩) hB).trans h0
        have q1 := (HB.out.cell (p := ⟨B, 1, none⟩) hB).trans h1
        rcases HC.out with ⟨rfl, rfl, rfl⟩ | ⟨rfl, rfl, rfl⟩ | ⟨rfl, rfl, rfl⟩
        · go_wp2_with (at_builtin; refine append_ints rfl _ _ rfl w.heap.size _ 0 _ [] A n c xs _ rfl rfl HO.out (HR.out.below HB.out) (by omega) HB.out.size ?_; intro A3 c3 w3 ho3 hb3 hg3; replace ho3 := hide ho3; replace hb3 := hide hb3; clear hg3)
          go_roundw
          case rel => first | exact ⟨1, n, xs, A3, c3, rfl, by simp, .inr (.inl ⟨rfl, rfl, rfl⟩), by have := ho3.out; simpa [Hid] using this, HB.out.trans hb3.out⟩ | ((repeat apply Exists.intro); refine ⟨?_, rfl⟩; exact ⟨1, n, xs, A3, c3, rfl, by simp, .inr (.inl ⟨rfl, rfl, rfl⟩), by have := ho3.out; simpa [Hid] using this, HB.out.trans hb3.out⟩)
          case measure => first | (simp [intOf]; done) | (simp [intOf]; omega)
        · go_wp2_with (at_builtin; refine append_ints rfl _ _ rfl w.heap.size _ m _ zs A2 n2 c2 ys _ rfl rfl HO.out (HR2.out.below HB.out) (by omega) HB.out.size ?_; intro A3 c3 w3 ho3 hb3 hg3; replace ho3 := hide ho3; replace hb3 := hide hb3; clear hg3)
          go_roundw
          case rel => first | exact ⟨2, m + n2, zs ++ ys, A3, c3, rfl, rfl, .inr (.inr ⟨rfl, rfl, rfl⟩), ho3, HB.out.trans hb3.out⟩ | ((repeat apply Exists.intro); refine ⟨?_, rfl⟩; exact ⟨2, m + n2, zs ++ ys, A3, c3, rfl, rfl, .inr (.inr ⟨rfl, rfl, rfl⟩), ho3, HB.out.trans hb3.out⟩)
          case measure => first | (simp [intOf]; done) | (simp [intOf]; omega)
        · go_wp2
          go_ret
          exact RetO.of HO.out HB.out rfl
set_option maxHeartbeats 3200000 in
theorem spec_JoinRequests (q : Int) (A : Option Addr) (n c : Nat) (xs : List Int) (A2 : Option Addr) (n2 c2 : Nat) (ys : List Int) (w : World) (_ : -9223372036854775808 ≤ q) (_ : q ≤ 9223372036854775807) (hr : RdI w A n xs) (hn : n ≤ 1048576) (_ : ∀ x ∈ xs, -9223372036854775808 ≤ x ∧ x ≤ 9223372036854775807) (hr2 : RdI w A2 n2 ys) (hn2 : n2 ≤ 1048576) (_ : ∀ x ∈ ys, -9223372036854775808 ≤ x ∧ x ≤ 9223372036854775807) :
    Calls Try.prog 34 #[.int .i64 q, .slice A n c, .slice A2 n2 c2] w (RetI w (joinRequestsV q xs ys)) := by
  cases h1 : reqB q xs
  · have HV := hide (show joinRequestsV q xs ys = ([], false) by unfold joinRequestsV joinOk; rw [h1]; rfl)
    replace h1 := hide h1
    go_enter Try.func34, Try.ntmps34
    go_wp2_with fail
    refine (l3Good_any _ _ _ xs _ _ (hr.below (by repeat (first | exact Below.refl _ _ | (refine below_drewN ?_ _) | (refine Below.drew ?_) | (refine Below.alloc ?_ (by first | exact Nat.le_refl _ | (simp; done) | (simp; omega) | omega) _) | (refine Below.setCell ?_ (by first | exact Nat.le_refl _ | (simp; done) | (simp; omega) | omega) _) | (refine Below.trans ?_ (Below.mono (by assumption) (by first | exact Nat.le_refl _ | (simp; done) | (simp; omega) | omega)))))) hn).mono ?_
    rintro e w1 ⟨rfl, rfl⟩
    rw [h1.out]
    go_wp2
    go_ret2
    exact RetI.of (own_empty _ _ (Nat.le_refl _) _ rfl) (by repeat (first | exact Below.refl _ _ | (refine below_drewN ?_ _) | (refine Below.drew ?_) | (refine Below.alloc ?_ (by first | exact Nat.le_refl _ | (simp; done) | (simp; omega) | omega) _) | (refine Below.setCell ?_ (by first | exact Nat.le_refl _ | (simp; done) | (simp; omega) | omega) _) | (refine Below.trans ?_ (Below.mono (by assumption) (by first | exact Nat.le_refl _ | (simp; done) | (simp; omega) | omega))))) HV.out
  · cases h2 : reqB q ys
    · have HV := hide (show joinRequestsV q xs ys = ([], false) by unfold joinRequestsV joinOk; rw [h1, h2]; rfl)
      replace h1 := hide h1
      replace h2 := hide h2
      go_enter Try.func34, Try.ntmps34
      go_wp2_with fail
      refine (l3Good_any _ _ _ xs _ _ (hr.below (by repeat (first | exact Below.refl _ _ | (refine below_drewN ?_ _) | (refine Below.drew ?_) | (refine Below.alloc ?_ (by first | exact Nat.le_refl _ | (simp; done) | (simp; omega) | omega) _) | (refine Below.setCell ?_ (by first | exact Nat.le_refl _ | (simp; done) | (simp; omega) | omega) _) | (refine Below.trans ?_ (Below.mono (by assumption) (by first | exact Nat.le_refl _ | (simp; done) | (simp; omega) | omega)))))) hn).mono ?_
      rintro e w1 ⟨rfl, rfl⟩
      rw [h1.out]
      go_wp2_with fail
      refine (l3Good_any _ _ _ ys _ _ (hr2.below (by repeat (first | exact Below.refl _ _ | (refine below_drewN ?_ _) | (refine Below.drew ?_) | (refine Below.alloc ?_ (by first | exact Nat.le_refl _ | (simp; done) | (simp; omega) | omega) _) | (refine Below.setCell ?_ (by first | exact Nat.le_refl _ | (simp; done) | (simp; omega) | omega) _) | (refine Below.trans ?_ (Below.mono (by assumption) (by first | exact Nat.le_refl _ | (simp; done) | (simp; omega) | omega)))))) hn2).mono ?_
      rintro e w1 ⟨rfl, rfl⟩
      rw [h2.out]
      go_wp2
      go_ret2
      exact RetI.of (own_empty _ _ (Nat.le_refl _) _ rfl) (by repeat (first | exact Below.refl _ _ | (refine below_drewN ?_ _) | (refine Below.drew ?_) | (refine Below.alloc ?_ (by first | exact Nat.le_refl _ | (simp; done) | (simp; omega) | omega) _) | (refine Below.setCell ?_ (by first | exact Nat.le_refl _ | (simp; done) | (simp; omega) | omega) _) | (refine Below.trans ?_ (Below.mono (by assumption) (by first | exact Nat.le_refl _ | (simp; done) | (simp; omega) | omega))))) HV.out
    · by_cases h3 : n + n2 ≤ 60
      · have HV := hide (show joinRequestsV q xs ys = (xs ++ ys, true) by unfold joinRequestsV joinOk; rw [h1, h2, hr.1, hr2.1]; simp [h3])
        replace h1 := hide h1
        replace h2 := hide h2
        have h3' : ((n : Int) + (n2 : Int)) ≤ 60 := by omega
        have HX := hide hr
        have HY := hide hr2
        go_enter Try.func34, Try.ntmps34
        go_wp2_with fail
        refine (l3Good_any _ _ _ xs _ _ (hr.below (by repeat (first | exact Below.refl _ _ | (refine below_drewN ?_ _) | (refine Below.drew ?_) | (refine Below.alloc ?_ (by first | exact Nat.le_refl _ | (simp; done) | (simp; omega) | omega) _) | (refine Below.setCell ?_ (by first | exact Nat.le_refl _ | (simp; done) | (simp; omega) | omega) _) | (refine Below.trans ?_ (Below.mono (by assumption) (by first | exact Nat.le_refl _ | (simp; done) | (simp; omega) | omega)))))) hn).mono ?_
        rintro e w1 ⟨rfl, rfl⟩
        rw [h1.out]
        go_wp2_with fail
        refine (l3Good_any _ _ _ ys _ _ (hr2.below (by repeat (first | exact Below.refl _ _ | (refine below_drewN ?_ _) | (refine Below.drew ?_) | (refine Below.alloc ?_ (by first | exact Nat.le_refl _ | (simp; done) | (simp; omega) | omega) _) | (refine Below.setCell ?_ (by first | exact Nat.le_refl _ | (simp; done) | (simp; omega) | omega) _) | (refine Below.trans ?_ (Below.mono (by assumption) (by first | exact Nat.le_refl _ | (simp; done) | (simp; omega) | omega)))))) hn2).mono ?_
        rintro e w1 ⟨rfl, rfl⟩
        rw [h2.out]
        clear hr hr2
        skip
        go_wp2_with (first | (go_at_call 68; refine (l1Own_any _ _ _ xs _ HX.out hn).mono ?_; rintro e w3 ⟨A3, c3, rfl, ho3, hb3⟩; rw [HX.out.1] at ho3 ⊢; replace ho3 := hide ho3; replace hb3 := hide hb3) | (at_builtin; refine append_ints rfl _ _ rfl w.heap.size _ n _ xs A2 n2 c2 ys _ rfl rfl ho3.out (HY.out.below hb3.out) (by omega) hb3.out.size ?_; intro A4 c4 w4 ho4 hb4 hg4; replace ho4 := hide ho4; replace hb4 := hide hb4; clear hg4))
        go_ret2
        exact RetI.of ho4.out (hb3.out.trans hb4.out) HV.out
      · have HV := hide (show joinRequestsV q xs ys = ([], false) by unfold joinRequestsV joinOk; rw [h1, h2, hr.1, hr2.1]; simp; omega)
        replace h1 := hide h1
        replace h2 := hide h2
        have h3' : ¬ ((n : Int) + (n2 : Int)) ≤ 60 := by omega
        go_enter Try.func34, Try.ntmps34
        go_wp2_with fail
        refine (l3Good_any _ _ _ xs _ _ (hr.below (by repeat (first | exact Below.refl _ _ | (refine below_drewN ?_ _) | (refine Below.drew ?_) | (refine Below.alloc ?_ (by first | exact Nat.le_refl _ | (simp; done) | (simp; omega) | omega) _) | (refine Below.setCell ?_ (by first | exact Nat.le_refl _ | (simp; done) | (simp; omega) | omega) _) | (refine Below.trans ?_ (Below.mono (by assumption) (by first | exact Nat.le_refl _ | (simp; done) | (simp; omega) | omega)))))) hn).mono ?_
        rintro e w1 ⟨rfl, rfl⟩
        rw [h1.out]
        go_wp2_with fail
        refine (l3Good_any _ _ _ ys _ _ (hr2.below (by repeat (first | exact Below.refl _ _ | (refine below_drewN ?_ _) | (refine Below.drew ?_) | (refine Below.alloc ?_ (by first | exact Nat.le_refl _ | (simp; done) | (simp; omega) | omega) _) | (refine Below.setCell ?_ (by first | exact Nat.le_refl _ | (simp; done) | (simp; omega) | omega) _) | (refine Below.trans ?_ (Below.mono (by assumption) (by first | exact Nat.le_refl _ | (simp; done) | (simp; omega) | omega)))))) hn2).mono ?_
        rintro e w1 ⟨rfl, rfl⟩
        rw [h2.out]
        go_wp2
        go_ret2
        exact RetI.of (own_empty _ _ (Nat.le_refl _) _ rfl) (by repeat (first | exact Below.refl _ _ | (refine below_drewN ?_ _) | (refine Below.drew ?_) | (refine Below.alloc ?_ (by first | exact Nat.le_refl _ | (simp; done) | (simp; omega) | omega) _) | (refine Below.setCell ?_ (by first | exact Nat.le_refl _ | (simp; done) | (simp; omega) | omega) _) | (refine Below.trans ?_ (Below.mono (by assumption) (by first | exact Nat.le_refl _ | (simp; done) | (simp; omega) | omega))))) HV.out

set_option maxHeartbeats 3200000 in
theorem impl_JoinRequests (q : Int) (A : Option Addr) (n c : Nat) (xs : List Int) (A2 : Option Addr) (n2 c2 : Nat) (ys : List Int) (w : World) (_ : -9223372036854775808 ≤ q) (_ : q ≤ 9223372036854775807) (hr : RdI w A n xs) (hn : n ≤ 1048576) (_ : ∀ x ∈ xs, -9223372036854775808 ≤ x ∧ x ≤ 9223372036854775807) (hr2 : RdI w A2 n2 ys) (hn2 : n2 ≤ 1048576) (_ : ∀ x ∈ ys, -9223372036854775808 ≤ x ∧ x ≤ 9223372036854775807) :
    Calls Try.prog 35 #[.int .i64 q, .slice A n c, .slice A2 n2 c2] w (RetI w (joinRequestsV q xs ys)) := by
  cases h1 : reqB q xs
  · have HV := hide (show joinRequestsV q xs ys = ([], false) by unfold joinRequestsV joinOk; rw [h1]; rfl)
    replace h1 := hide h1
    go_enter Try.func35, Try.ntmps35
    go_wp2_with fail
    refine (isRequests_any _ _ _ xs _ _ hr hn).mono ?_
    rintro e w1 ⟨rfl, hb1⟩
    rw [h1.out]
    go_wp2
    go_ret2
    exact RetI.of (OwnI.nil _ _) hb1 HV.out
  · cases h2 : reqB q ys
    · have HV := hide (show joinRequestsV q xs ys = ([], false) by unfold joinRequestsV joinOk; rw [h1, h2]; rfl)
      replace h1 := hide h1
      replace h2 := hide h2
      go_enter Try.func35, Try.ntmps35
      go_wp2_with fail
      refine (isRequests_any _ _ _ xs _ _ hr hn).mono ?_
      rintro e w1 ⟨rfl, hb1⟩
      rw [h1.out]
      go_wp2_with fail
      refine (isRequests_any _ _ _ ys _ _ (hr2.below hb1) hn2).mono ?_
      rintro e w2 ⟨rfl, hb2⟩
      rw [h2.out]
      replace hb2 := hide (hb1.trans (hb2.mono hb1.size))
      clear hb1
      go_wp2
      go_ret2
      exact RetI.of (OwnI.nil _ _) hb2.out HV.out
    · by_cases h3 : n + n2 ≤ 60
      · have HV := hide (show joinRequestsV q xs ys = (xs ++ ys, true) by unfold joinRequestsV joinOk; rw [h1, h2, hr.1, hr2.1]; simp [h3])
        replace h1 := hide h1
        replace h2 := hide h2
        have h3' : ((n : Int) + (n2 : Int)) ≤ 60 := by omega
        have HX := hide hr
        have HY := hide hr2
        go_enter Try.func35, Try.ntmps35
        go_wp2_with fail
        refine (isRequests_any _ _ _ xs _ _ hr hn).mono ?_
        rintro e w1 ⟨rfl, hb1⟩
        rw [h1.out]
        go_wp2_with fail
        refine (isRequests_any _ _ _ ys _ _ (hr2.below hb1) hn2).mono ?_
        rintro e w2 ⟨rfl, hb2⟩
        rw [h2.out]
        replace hb2 := hide (hb1.trans (hb2.mono hb1.size))
        clear hb1
        have hz0 : w.heap.size ≤ w2.heap.size := hb2.out.size
        clear hr hr2
        go_wp2_with fail
        refine (concat_any A n c xs A2 n2 c2 ys w2.heap.size _ (by simp) (by go_simp) (by go_simp) ((HX.out.below hb2.out).below (Below.alloc (Below.refl _ _) (Nat.le_refl _) _)) ((HY.out.below hb2.out).below (Below.alloc (Below.refl _ _) (Nat.le_refl _) _)) (by omega)).mono ?_
        rintro e w3 ⟨A3, c3, rfl, ho3, hb3⟩
        rw [List.length_append, HX.out.1, HY.out.1] at ho3 ⊢
        have ho4 := hide (ho3.more (base' := w.heap.size) (by simp; omega))
        have hb4 := hide (hb2.out.trans ((Below.alloc (Below.refl w2.heap.size w2) (Nat.le_refl _) (.cells #[.slice A n c, .slice A2 n2 c2] 22)).trans (hb3.mono (by simp)) |>.mono hz0))
        clear ho3 hb3
        go_wp2
        go_ret2
        exact RetI.of ho4.out hb4.out HV.out
      · have HV := hide (show joinRequestsV q xs ys = ([], false) by unfold joinRequestsV joinOk; rw [h1, h2, hr.1, hr2.1]; simp; omega)
        replace h1 := hide h1
        replace h2 := hide h2
        have h3' : ¬ ((n : Int) + (n2 : Int)) ≤ 60 := by omega
        go_enter Try.func35, Try.ntmps35
        go_wp2_with fail
        refine (isRequests_any _ _ _ xs _ _ hr hn).mono ?_
        rintro e w1 ⟨rfl, hb1⟩
        rw [h1.out]
        go_wp2_with fail
        refine (isRequests_any _ _ _ ys _ _ (hr2.below hb1) hn2).mono ?_
        rintro e w2 ⟨rfl, hb2⟩
        rw [h2.out]
        replace hb2 := hide (hb1.trans (hb2.mono hb1.size))
        clear hb1
        go_wp2
        go_ret2
        exact RetI.of (OwnI.nil _ _) hb2.out HV.out

end Go.Proofs.Ytaoacpikmpoodaa
