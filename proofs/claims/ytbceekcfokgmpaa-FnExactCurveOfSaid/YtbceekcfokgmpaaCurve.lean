/- CurveOf: the reference and the program return the same; for slices of at most 2^20 numbers that can be read. -/
import Derived.Test.YtbceekcfokgmpaaDistF
namespace Go.Proofs.Ytbceekcfokgmpaa
open Go.RowKit
/-- Whether a stack distance is a fault with k + 1 places. -/
def farB (k : Nat) (d : Int) : Bool := d == 0 || decide ((k : Int) + 1 < d)
def curAt (ds : List Int) (k : Nat) : Int := ((ds.filter (farB k)).length : Int)
def curL (ds : List Int) (m : Nat) : List Int := (List.range m).map (curAt ds)
theorem curL_len (ds : List Int) (m : Nat) : (curL ds m).length = m := by simp [curL]
theorem curL_snoc (ds : List Int) (m : Nat) : curL ds (m + 1) = curL ds m ++ [curAt ds m] := by simp [curL, List.range_succ]
theorem curL_get (ds : List Int) (m j : Nat) (h : j < m) : (curL ds m).getD j 0 = curAt ds j := by simp [curL, List.getD, h]
theorem curAt_snoc (ds : List Int) (d : Int) (k : Nat) : curAt (ds ++ [d]) k = curAt ds k + if farB k d = true then 1 else 0 := by
  unfold curAt
  rw [List.filter_append]
  cases h : farB k d <;> simp [h]
theorem curL_nil (m : Nat) : curL [] m = List.replicate m 0 := by
  refine List.ext_getElem? fun j => ?_
  rcases Nat.lt_or_ge j m with h | h
  · simp [curL, curAt, h]
  · rw [List.getElem?_eq_none (by simp [curL]; omega), List.getElem?_eq_none (by simp; omega)]
theorem made_own (w1 : World) (base g m : Nat) (h : w1.ownsRow base 3 1 (.slice (some ⟨g, 0, none⟩) m m) m (madeCells (Value.int .i64 0).cells (m * 1)).toList) : OwnI w1 base (some ⟨g, 0, none⟩) m m (curL [] m) := by
  rw [curL_nil]
  simpa [toList_madeCells_one, Value.cells, OwnI] using h
theorem curAt_bd (ds : List Int) (k : Nat) : 0 ≤ curAt ds k ∧ curAt ds k ≤ ds.length := by
  unfold curAt
  have := List.length_filter_le (farB k) ds
  omega
def curveOfV (q : Int) (xs : List Int) : List Int × Bool := if reqB q xs = true then (curL (distL xs xs.length) 6, true) else ([], false)
theorem curveOfV_len (q : Int) (xs : List Int) (_ : xs.length ≤ 1048576) : (curveOfV q xs).1.length ≤ 1048576 := by
  unfold curveOfV
  split
  · simp [curL_len]
  · simp
/-- The counts after one more number, of which the first j are done. -/
def mixL (ds : List Int) (d : Int) (j : Nat) : List Int := (List.range 6).map fun i => if i < j then curAt (ds ++ [d]) i else curAt ds i
theorem mixL_zero (ds : List Int) (d : Int) : mixL ds d 0 = curL ds 6 := by simp [mixL, curL]
theorem mixL_six (ds : List Int) (d : Int) : mixL ds d 6 = curL (ds ++ [d]) 6 := by
  unfold mixL curL
  refine List.map_congr_left fun i hi => ?_
  rw [if_pos (List.mem_range.1 hi)]
theorem mixL_get (ds : List Int) (d : Int) (j : Nat) (h : j < 6) : (mixL ds d j).getD j 0 = curAt ds j := by simp [mixL, List.getD, h]
theorem mixL_len (ds : List Int) (d : Int) (j : Nat) : (mixL ds d j).length = 6 := by simp [mixL]
theorem mixL_same (ds : List Int) (d : Int) (j : Nat) (h : farB j d = false) : mixL ds d (j + 1) = mixL ds d j := by
  unfold mixL
  refine List.map_congr_left fun i _ => ?_
  by_cases e : i = j
  · subst e
    rw [if_pos (by omega), if_neg (by omega), curAt_snoc, h]
    simp
  · by_cases h2 : i < j
    · rw [if_pos (by omega), if_pos h2]
    · rw [if_neg (by omega), if_neg h2]
theorem mixL_more (ds : List Int) (d : Int) (j : Nat) (h : farB j d = true) : mixL ds d (j + 1) = (mixL ds d j).set j (curAt ds j + 1) := by
  refine List.ext_getElem? fun i => ?_
  rw [List.getElem?_set, mixL_len]
  rcases Nat.lt_or_ge i 6 with hi | hi
  · by_cases e : j = i
    · subst e
      rw [if_pos rfl, if_pos hi]
      simp [mixL, hi, curAt_snoc, h]
    · rw [if_neg e]
      by_cases h2 : i < j
      · simp [mixL, hi, h2, show i < j + 1 by omega]
      · simp [mixL, hi, h2, show ¬ i < j + 1 by omega]
  · rw [List.getElem?_eq_none (by rw [mixL_len]; exact hi)]
    split
    · rw [if_neg (by omega)]
    · rw [List.getElem?_eq_none (by rw [mixL_len]; exact hi)]

set_option maxHeartbeats 3200000 in
theorem spec_CurveOf (q : Int) (A : Option Addr) (n c : Nat) (xs : List Int) (w : World) (_ : -9223372036854775808 ≤ q) (_ : q ≤ 9223372036854775807) (hr : RdI w A n xs) (hn : n ≤ 1048576) (_ : ∀ x ∈ xs, -9223372036854775808 ≤ x ∧ x ≤ 9223372036854775807) (hroom : n ≤ c) :
    Calls Try.prog 34 #[.int .i64 q, .slice A n c] w (RetI w (curveOfV q xs)) := by
  cases hg : reqB q xs
  · have HV := hide (show curveOfV q xs = ([], false) by unfold curveOfV; rw [hg]; rfl)
    replace hg := hide hg
    go_enter Try.func34, Try.ntmps34
    go_wp2_with (go_at_call 40; refine (l3Good_any _ _ _ xs _ _ (RdI.below hr (by repeat (first | exact Below.refl _ _ | (refine below_drewN ?_ _) | (refine Below.drew ?_) | (refine Below.alloc ?_ (by first | exact Nat.le_refl _ | (simp; done) | (simp; omega) | omega) _) | (refine Below.setCell ?_ (by first | exact Nat.le_refl _ | (simp; done) | (simp; omega) | omega) _) | (refine Below.trans ?_ (Below.mono (by assumption) (by first | exact Nat.le_refl _ | (simp; done) | (simp; omega) | omega)))))) hn).mono ?_; rintro e w1 ⟨rfl, rfl⟩; rw [hg.out])
    go_ret2
    exact RetI.of (own_empty _ _ (Nat.le_refl _) _ rfl) (by repeat (first | exact Below.refl _ _ | (refine below_drewN ?_ _) | (refine Below.drew ?_) | (refine Below.alloc ?_ (by first | exact Nat.le_refl _ | (simp; done) | (simp; omega) | omega) _) | (refine Below.setCell ?_ (by first | exact Nat.le_refl _ | (simp; done) | (simp; omega) | omega) _) | (refine Below.trans ?_ (Below.mono (by assumption) (by first | exact Nat.le_refl _ | (simp; done) | (simp; omega) | omega))))) HV.out
  · obtain ⟨q1, q2, q3, q4⟩ := reqB_parts hg
    have hl := hr.1
    have HV := hide (show curveOfV q xs = (curL (distL xs n) 6, true) by unfold curveOfV; rw [hg, hl]; rfl)
    replace hg := hide hg
    have hn2 : n ≤ 60 := by omega
    replace hl := hide hl
    replace q4 := hide q4
    have HR := hide hr
    go_enter Try.func34, Try.ntmps34
    go_wp2_with fail
    refine (l3Good_any _ _ _ xs _ _ (hr.below (by repeat (first | exact Below.refl _ _ | (refine below_drewN ?_ _) | (refine Below.drew ?_) | (refine Below.alloc ?_ (by first | exact Nat.le_refl _ | (simp; done) | (simp; omega) | omega) _) | (refine Below.setCell ?_ (by first | exact Nat.le_refl _ | (simp; done) | (simp; omega) | omega) _) | (refine Below.trans ?_ (Below.mono (by assumption) (by first | exact Nat.le_refl _ | (simp; done) | (simp; omega) | omega)))))) hn).mono ?_
    rintro e w1 ⟨rfl, rfl⟩
    rw [hg.out]
    clear hr
    go_wp2_with (go_at_call 53; refine (l4Distances_any _ _ _ xs _ (HR.out.below ((Below.refl _ _).alloc (Nat.le_refl _) _)) (by omega) hroom).mono ?_; rintro e w1 ⟨AN, cN, rfl, hoN, hbN⟩; replace hoN := hide hoN; replace hbN := hide hbN)
    obtain ⟨ds, hds⟩ : ∃ ds, Hid (distL xs n = ds) := ⟨_, rfl⟩
    have hdl : Hid (ds.length = n) := by rw [← hds.out]; exact distL_len _ _
    rw [hds.out] at hoN HV
    have hz1 : w.heap.size + 1 ≤ w1.heap.size := by have := hbN.out.size; simpa using this
    have HB1 : Hid (Below w.heap.size w w1) := ((Below.refl _ _).alloc (Nat.le_refl _) _).trans (hbN.out.mono (by simp))
    have HO1 : Hid (OwnI w1 w.heap.size (some ⟨w.heap.size, 0, none⟩) 0 0 (curL ds 0)) := (own_empty w w.heap.size (Nat.le_refl _) _ rfl).below hbN.out
    have HNs := hide (hoN.out.lt)
    go_loopw [6, 8, 9, 10] (fun u i _ _ wr => ∃ (k : Nat) (A' : Option Addr) (c' : Nat), k ≤ 6 ∧ i = .int .i64 ((k : Int) + 1) ∧ u = .slice A' k c' ∧ Hid (OwnI wr w.heap.size A' k c' (curL ds k)) ∧ Hid (Sep A' AN) ∧ Hid (OwnI wr (w.heap.size + 1) AN n cN ds) ∧ Hid (Below w.heap.size w wr)) (fun _ i _ _ _ => 7 - (intOf i).toNat)
    case atStart => exact ⟨0, _, _, Nat.zero_le _, rfl, rfl, HO1, fun a a' e e' he => by
      injection e with e
      subst e
      have := HNs.out a' e'
      simp at this he
      omega, hide (by have := hoN.out; simpa using this), HB1⟩
    case round =>
      obtain ⟨k, A', c', hk, rfl, rfl, HO, HS, HN, HB⟩ := hrel
      by_cases hlt : k < 6
      · have hlt' : (k : Int) + 1 ≤ 6 := by omega
        have HD := hide HN.out.rd
        obtain ⟨wo, rfl⟩ : ∃ wo : World, wo = wr := ⟨_, rfl⟩
        go_wp2_with fail
        go_loop [9, 10] (fun s i => ∃ j : Nat, j ≤ n ∧ i = .int .i64 j ∧ s = .int .i64 (curAt (ds.take j) k)) (fun _ i => n - (intOf i).toNat)
        case atStart => exact ⟨0, Nat.zero_le _, rfl, by simp [curAt]⟩
        case round =>
          obtain ⟨j, hj, rfl, rfl⟩ := hrel
          by_cases hjn : j < n
          · have hjn' : (j : Int) < (n : Int) := by omega
            obtain ⟨b, off, rfl, _, hc⟩ := HD.out.at_ hjn
            obtain ⟨d, hd⟩ : ∃ d, Hid (ds.getD j 0 = d) := ⟨_, rfl⟩
            rw [hd.out] at hc
            obtain ⟨s, hs⟩ : ∃ s, Hid (curAt (ds.take j) k = s) := ⟨_, rfl⟩
            have hsb := curAt_bd (ds.take j) k
            have hsl : (ds.take j).length ≤ j := List.length_take_le _ _
            rw [hs.out] at hsb
            obtain ⟨hs1, hs2⟩ := hsb
            have hs3 : s ≤ 60 := by omega
            have HT : Hid (curAt (ds.take (j + 1)) k = s + if farB k d = true then 1 else 0) := by
              unfold Hid
              rw [take_snocI ds j (by rw [hdl.out]; exact hjn), curAt_snoc, hs.out, hd.out]
            clear hsl
            rw [hs.out]
            by_cases h0 : d = 0
            · subst h0
              have HF : Hid (farB k 0 = true) := by simp [farB, Hid]
              go_wp2
              go_round
              case rel => first | exact ⟨j + 1, by omega, by go_num, by rw [HT.out, if_pos HF.out]⟩ | ((repeat apply Exists.intro); refine ⟨?_, rfl⟩; exact ⟨j + 1, by omega, by go_num, by rw [HT.out, if_pos HF.out]⟩)
              case measure => first | (simp [intOf]; done) | (simp [intOf]; omega)
            · have h0' : (d == 0) = false := by simpa using h0
              by_cases h1 : (k : Int) + 1 < d
              · have HF : Hid (farB k d = true) := by simp [farB, Hid, h1]
                clear h0
                go_wp2
                go_round
                case rel => first | exact ⟨j + 1, by omega, by go_num, by rw [HT.out, if_pos HF.out]⟩ | ((repeat apply Exists.intro); refine ⟨?_, rfl⟩; exact ⟨j + 1, by omega, by go_num, by rw [HT.out, if_pos HF.out]⟩)
                case measure => first | (simp [intOf]; done) | (simp [intOf]; omega)
              · have HF : Hid (farB k d = false) := by simp [farB, Hid, h1, h0]
                clear h0
                go_wp2
                go_round
                case rel => first | exact ⟨j + 1, by omega, by go_num, by rw [HT.out, HF.out]; simp⟩ | ((repeat apply Exists.intro); refine ⟨?_, rfl⟩; exact ⟨j + 1, by omega, by go_num, by rw [HT.out, HF.out]; simp⟩)
                case measure => first | (simp [intOf]; done) | (simp [intOf]; omega)
          · obtain rfl : j = n := by omega
            have HE : Hid (curAt (ds.take j) k = curAt ds k) := by
              unfold Hid
              rw [List.take_of_length_le (by rw [hdl.out]; exact Nat.le_refl _)]
            rw [HE.out]
            go_wp2_with (at_builtin; refine append_int_lies rfl _ _ rfl w.heap.size A' k c' (curL ds k) _ _ rfl rfl HO.out (by omega) HB.out.size ?_; intro A2 c2 w2 ho' hb' hg' hl'; have HN2 := hide (HN.out.marked hg' HS.out.symm); have HS2 := hide (sep_lies hl' HS.out HN.out.lt); clear hl'; replace ho' := hide ho'; replace hb' := hide hb'; clear hg')
            go_roundw
            case rel => first | exact ⟨k + 1, A2, c2, by omega, by go_num, rfl, by have := ho'.out; rw [curL_snoc]; exact this, HS2, HN2, HB.out.trans hb'.out⟩ | ((repeat apply Exists.intro); refine ⟨?_, rfl⟩; exact ⟨k + 1, A2, c2, by omega, by go_num, rfl, by have := ho'.out; rw [curL_snoc]; exact this, HS2, HN2, HB.out.trans hb'.out⟩)
            case measure => first | (simp [intOf]; done) | (simp [intOf]; omega)
      · obtain rfl : k = 6 := by omega
        go_wp2
        go_ret2
        exact RetI.of HO.out HB.out HV.out

set_option maxHeartbeats 3200000 in
theorem impl_CurveOf (q : Int) (A : Option Addr) (n c : Nat) (xs : List Int) (w : World) (_ : -9223372036854775808 ≤ q) (_ : q ≤ 9223372036854775807) (hr : RdI w A n xs) (hn : n ≤ 1048576) (_ : ∀ x ∈ xs, -9223372036854775808 ≤ x ∧ x ≤ 9223372036854775807) (hroom : n ≤ c) :
    Calls Try.prog 35 #[.int .i64 q, .slice A n c] w (RetI w (curveOfV q xs)) := by
  cases hg : reqB q xs
  · have HV := hide (show curveOfV q xs = ([], false) by unfold curveOfV; rw [hg]; rfl)
    replace hg := hide hg
    go_enter Try.func35, Try.ntmps35
    go_wp2_with (go_at_call 42; refine (isRequests_any _ _ _ xs _ _ hr hn).mono ?_; rintro e w1 ⟨rfl, hb⟩; rw [hg.out])
    go_ret2
    exact RetI.of (OwnI.nil _ _) hb HV.out
  · obtain ⟨q1, q2, q3, q4⟩ := reqB_parts hg
    have hl := hr.1
    have HV := hide (show curveOfV q xs = (curL (distL xs n) 6, true) by unfold curveOfV; rw [hg, hl]; rfl)
    replace hg := hide hg
    have hn2 : n ≤ 60 := by omega
    replace hl := hide hl
    replace q4 := hide q4
    go_enter Try.func35, Try.ntmps35
    go_wp2_with fail
    refine (isRequests_any _ _ _ xs _ _ hr hn).mono ?_
    rintro e wa ⟨rfl, hba⟩
    rw [hg.out]
    have HR := hide (hr.below hba)
    have HBA := hide hba
    have hza := hba.size
    clear hr hba
    obtain ⟨i0, hi, hz0, hz1, hz2⟩ := info_parts info_int
    go_wp2_with (first
      | (at_make; refine wpList_make_full _ rfl _ _ _ rfl wa.heap.size 3 i0 (.int .i64 0) 1 Try.underlying22 hi hz0 hz1 _ _ _ _ 6 rfl rfl rfl rfl (by rw [hz2]; omega) (by unfold maxLen; omega) (by simp) ?_; intro w1 hown hgrow; have HM := hide (show OwnI w1 wa.heap.size (some ⟨wa.heap.size, 0, none⟩) 6 6 (curL [] 6) from made_own _ _ _ 6 hown); have HB1 := hide (show Below wa.heap.size wa w1 from (Below.refl _ wa).grown hgrow (Nat.le_refl _) (fun k h => by cases h)); clear hown hgrow)
      | (go_at_call 54; refine (stackDistances_any _ _ _ xs _ (HR.out.below HB1.out) (by omega) hroom).mono ?_; rintro e w2 ⟨A2, c2, rfl, ho, hb⟩; have HO2 := hide ho; have HB2 := hide hb; clear ho hb))
    obtain ⟨ds, hds⟩ : ∃ ds, Hid (distL xs n = ds) := ⟨_, rfl⟩
    have hdl : Hid (ds.length = n) := by rw [← hds.out]; exact distL_len _ _
    rw [hds.out] at HO2 HV
    have HM2 := hide (HM.out.below HB2.out)
    have HS2 := hide (sep_new HM.out HO2.out)
    have HBz := hide (HB1.out.trans (HB2.out.mono HB1.out.size))
    go_loopw [8, 9, 18, 23, 24] (fun _ _ i _ _ wr => ∃ k : Nat, k ≤ n ∧ i = .int .i64 k ∧ Hid (OwnI wr wa.heap.size (some ⟨wa.heap.size, 0, none⟩) 6 6 (curL (ds.take k) 6)) ∧ Hid (OwnI wr w1.heap.size A2 n c2 ds) ∧ Hid (Below wa.heap.size wa wr)) (fun _ _ i _ _ _ => n - (intOf i).toNat)
    case atStart => exact ⟨0, Nat.zero_le _, rfl, HM2, HO2, HBz⟩
    case round =>
      obtain ⟨k, hk, rfl, HO, HD, HB⟩ := hrel
      by_cases hlt : k < n
      · have hlt' : (k : Int) < (n : Int) := by omega
        obtain ⟨b, off, rfl, hbb, hc⟩ := (HD.out.rd).at_ hlt
        obtain ⟨d, hd⟩ : ∃ d, Hid (ds.getD k 0 = d) := ⟨_, rfl⟩
        rw [hd.out] at hc
        have HTK : Hid (curL (ds.take (k + 1)) 6 = mixL (ds.take k) d 6) := by
          unfold Hid
          rw [take_snocI ds k (by rw [hdl.out]; exact hlt), mixL_six, hd.out]
        have HM0 : Hid (OwnI wr wa.heap.size (some ⟨wa.heap.size, 0, none⟩) 6 6 (mixL (ds.take k) d 0)) := by rw [mixL_zero]; exact HO
        have hsl : (ds.take k).length ≤ 60 := by
          have : (ds.take k).length ≤ k := List.length_take_le _ _
          omega
        obtain ⟨wo, rfl⟩ : ∃ wo : World, wo = wr := ⟨_, rfl⟩
        go_wp2_with fail
        go_loopw [9, 24] (fun _ i wr => ∃ j : Nat, j ≤ 6 ∧ i = .int .i64 j ∧ Hid (OwnI wr wa.heap.size (some ⟨wa.heap.size, 0, none⟩) 6 6 (mixL (ds.take k) d j)) ∧ Hid (OwnI wr w1.heap.size (some ⟨b, off, none⟩) n c2 ds) ∧ Hid (Below wa.heap.size wa wr)) (fun _ i _ => 6 - (intOf i).toNat)
        case atStart => exact ⟨0, Nat.zero_le _, rfl, HM0, HD, HB⟩
        case round =>
          obtain ⟨j, hj, rfl, HX, HDx, HBx⟩ := hrel
          by_cases hj6 : j < 6
          · have hj6' : (j : Int) < 6 := by omega
            obtain ⟨v, hv⟩ : ∃ v, Hid (curAt (ds.take k) j = v) := ⟨_, rfl⟩
            have hvb := curAt_bd (ds.take k) j
            rw [hv.out] at hvb
            obtain ⟨hv1, hv2⟩ := hvb
            have hv3 : v ≤ 60 := by omega
            have hc2 : wr.cell? ⟨wa.heap.size, j, none⟩ = some (.int .i64 v) := by
              rw [World.ownsRow.cellAt HX.out j (by omega), getD_map (by rw [mixL_len]; exact hj6), mixL_get _ _ _ hj6, hv.out]
            have hf2 := World.ownsRow.frozenAt HX.out j
            have HS := hide (World.ownsRow.stored HX.out j (.int .i64 (v + 1)))
            have HDs := hide (HDx.out.marked (A' := some ⟨wa.heap.size, 0, none⟩) HS.out.2 HS2.out.symm)
            by_cases h0 : d = 0
            · subst h0
              have HF : Hid (mixL (ds.take k) 0 (j + 1) = (mixL (ds.take k) 0 j).set j (v + 1)) := by
                unfold Hid
                rw [mixL_more _ _ _ (by simp [farB]), hv.out]
              go_wp2
              go_roundw
              case rel => first | exact ⟨j + 1, by omega, by go_num, by have := HS.out.1; rw [← List.map_set, ← HF.out] at this; exact this, HDs, HBx.out.setCell (Nat.le_refl _) _⟩ | ((repeat apply Exists.intro); refine ⟨?_, rfl⟩; exact ⟨j + 1, by omega, by go_num, by have := HS.out.1; rw [← List.map_set, ← HF.out] at this; exact this, HDs, HBx.out.setCell (Nat.le_refl _) _⟩)
              case measure => first | (simp [intOf]; done) | (simp [intOf]; omega)
            · have h0' : (d == 0) = false := by simpa using h0
              by_cases h1 : (j : Int) + 1 < d
              · have HF : Hid (mixL (ds.take k) d (j + 1) = (mixL (ds.take k) d j).set j (v + 1)) := by
                  unfold Hid
                  rw [mixL_more _ _ _ (by simp [farB, h1]), hv.out]
                clear h0
                go_wp2
                go_roundw
                case rel => first | exact ⟨j + 1, by omega, by go_num, by have := HS.out.1; rw [← List.map_set, ← HF.out] at this; exact this, HDs, HBx.out.setCell (Nat.le_refl _) _⟩ | ((repeat apply Exists.intro); refine ⟨?_, rfl⟩; exact ⟨j + 1, by omega, by go_num, by have := HS.out.1; rw [← List.map_set, ← HF.out] at this; exact this, HDs, HBx.out.setCell (Nat.le_refl _) _⟩)
                case measure => first | (simp [intOf]; done) | (simp [intOf]; omega)
              · have HF : Hid (mixL (ds.take k) d (j + 1) = mixL (ds.take k) d j) := mixL_same _ _ _ (by simp [farB, h1, h0])
                clear h0
                go_wp2
                go_roundw
                case rel => first | exact ⟨j + 1, by omega, by go_num, by rw [HF.out]; exact HX, HDx, HBx⟩ | ((repeat apply Exists.intro); refine ⟨?_, rfl⟩; exact ⟨j + 1, by omega, by go_num, by rw [HF.out]; exact HX, HDx, HBx⟩)
                case measure => first | (simp [intOf]; done) | (simp [intOf]; omega)
          · obtain rfl : j = 6 := by omega
            rw [← HTK.out] at HX
            go_wp2
            go_roundw
            case rel => first | exact ⟨k + 1, by omega, by go_num, HX, HDx, HBx⟩ | ((repeat apply Exists.intro); refine ⟨?_, rfl⟩; exact ⟨k + 1, by omega, by go_num, HX, HDx, HBx⟩)
            case measure => first | (simp [intOf]; done) | (simp [intOf]; omega)
      · have hkn : k = n := by omega
        subst hkn
        go_wp2
        go_ret2
        have := HO.out
        rw [List.take_of_length_le (by rw [hdl.out]; exact Nat.le_refl _)] at this
        exact RetI.of (this.more hza) (HBA.out.trans (HB.out.mono hza)) HV.out
end Go.Proofs.Ytbceekcfokgmpaa
