/- LastOrder by the program; for slices of at most 2^20 numbers. -/
import Derived.Test.YtaoacpikmpoodaaOrderI
namespace Go.Proofs.Ytaoacpikmpoodaa
open Go.RowKit Go.Shelf
attribute [local go_sem] Oper.semAt_some

def ordOf (pre : List (Nat × Int)) : List Int := (pre.map (·.2)).foldl ordStep []
theorem ordOf_snoc (pre : List (Nat × Int)) (x : Nat × Int) : ordOf (pre ++ [x]) = ordStep (ordOf pre) x.2 := by simp [ordOf]
theorem ordOf_len (pre : List (Nat × Int)) : (ordOf pre).length ≤ pre.length := by
  have h : ∀ (l acc : List Int), (l.foldl ordStep acc).length ≤ acc.length + l.length := by
    intro l
    induction l with
    | nil => intro acc; simp
    | cons x l ih =>
      intro acc
      have := ih (ordStep acc x)
      have := ordStep_len acc x
      simp only [List.foldl_cons, List.length_cons]
      omega
  have := h (pre.map (·.2)) []
  simpa [ordOf] using this
theorem upto_back (zs : List Int) : (uptoB (backF zs) zs.length).map (·.2) = zs.reverse := by
  apply List.ext_getElem
  · simp [uptoB]
  · intro i h1 h2
    have hi : i < zs.length := by simpa using h2
    simp only [uptoB, List.map_map, List.getElem_map, List.getElem_range, Function.comp_apply, backF, List.getElem_reverse]
    rw [List.getD_eq_getElem?_getD, List.getElem?_eq_getElem (by omega)]
    rfl
theorem ordOf_all (zs : List Int) : ordOf (uptoB (backF zs) zs.length) = ordTo zs zs.length := by
  unfold ordOf ordTo
  rw [upto_back, List.take_of_length_le (by simp)]

set_option maxHeartbeats 1000000 in
theorem back0_in (F : Fence) (n : Nat) (hf : F.fn 83) (hro : F.round = none) (l Bs : Nat) (A : Option Addr) (c : Nat) (J : List (Nat × Int) → World → Prop) (W : World) (hBs : Boxed W Bs 22 (.slice A 0 c)) (h0 : J [] W) :
    CallsIn F n Try.prog 83 #[.func (.yield l) #[] #[], .pointer (some ⟨Bs, 0, none⟩)] W fun e W' => (∃ v, e = .returned v) ∧ J [] W' := by
  have hc0 := hBs.cell
  replace hBs := hide hBs
  refine callsIn_of_wp Try.func83 rfl hf ?_ hro
  simp only [Try.ntmps83, List.size_toArray, List.length_cons, List.length_nil, Nat.reduceAdd, Nat.reduceSub, Array.replicate_succ, Array.replicate_zero, List.push_toArray, List.append_toArray, List.nil_append, List.cons_append]
  gi_wp2
  gi_loopw [3] (fun i wr => i = .int .i64 (-1) ∧ J [] wr) (fun _ _ => 0)
  case atStart => exact ⟨rfl, h0⟩
  case round =>
    obtain ⟨rfl, hJs⟩ := hrel
    gi_wp2
    go_end0
    exact ⟨⟨_, rfl⟩, hJs⟩
set_option maxHeartbeats 1000000 in
theorem back_in (F : Fence) (n : Nat) (hf : F.fn 71) (hro : F.round = none) (A : Option Addr) (len cap : Nat) (w : World) :
    CallsIn F n Try.prog 71 #[.slice A len cap] w fun e w' => e = .returned (.func (.func 83) #[] #[.pointer (some ⟨w.heap.size, 0, none⟩)]) ∧ w' = w.alloc (.cells #[.slice A len cap] 22) := by
  refine callsIn_of_wp Try.func71 rfl hf ?_ hro
  simp only [Try.ntmps71, List.size_toArray, List.length_cons, List.length_nil, Nat.reduceAdd, Nat.reduceSub, Array.replicate_succ, Array.replicate_zero, List.push_toArray, List.append_toArray, List.nil_append, List.cons_append]
  gi_wp2
  go_ret
  exact ⟨rfl, rfl⟩
/-- slices.Backward hands back a value that goes over the items from the last one on. -/
theorem back_stops (F : Fence) (n : Nat) (hf : F.fn 83) (hro : F.round = none) (hn : 1 ≤ n) (Bs n₀ : Nat) (A : Option Addr) (len cap : Nat) (zs : List Int) (w : World) (hr : RdI w A len zs) (hreach : len ≤ 1048576) (hA : ∀ a, A = some a → 0 < len → a.block < n₀)
    (hBs : Boxed w Bs 22 (.slice A len cap)) :
    SeqStopsK F n Try.prog 83 #[.pointer (some ⟨Bs, 0, none⟩)] (fun x : Nat × Int => #[Value.int .i64 (x.1 : Int), Value.int .i64 x.2]) (KpB n₀ Bs 22) (fun ys => ys = uptoB (backF zs) zs.length) (fun _ => True) len w := fun l J Jx W hW _ _ hY h0 => by
  have hB : Boxed W Bs 22 (.slice A len cap) := (hW.block Bs hBs.lt).trans hBs
  have hl := hr.1
  rcases Nat.eq_zero_or_pos len with e0 | e0
  · subst e0
    obtain rfl : zs = [] := List.length_eq_zero_iff.1 hl
    exact (back0_in F n hf hro l Bs A cap J W hB h0).mono fun e W' ⟨he, hj⟩ => ⟨he, .inl ⟨_, rfl, hj⟩⟩
  · obtain ⟨b, off, rfl, hbl, hc⟩ := hr.2 e0
    subst hl
    refine (back1_in F n hf hro hn l Bs n₀ b off cap zs hreach (hA _ rfl e0) J Jx hY W hB (fun j hj => (hW.cell (p := ⟨b, off + j, none⟩) hbl).trans (hc j hj)) h0).mono ?_
    rintro e W' ⟨he, ⟨ys, rfl, hj⟩ | ⟨pre, _, hj⟩⟩
    · exact ⟨he, .inl ⟨_, rfl, hj⟩⟩
    · exact ⟨he, .inr ⟨_, trivial, hj⟩⟩

def lastOrderV (q : Int) (xs : List Int) : List Int × Bool := if reqB q xs = true then (ordTo xs xs.length, true) else ([], false)
theorem lastOrderV_len (q : Int) (xs : List Int) (h : xs.length ≤ 1048576) : (lastOrderV q xs).1.length ≤ 1048576 := by
  unfold lastOrderV
  split
  · exact Nat.le_trans (ordTo_len _ _) h
  · simp

set_option maxRecDepth 100000 in
set_option maxHeartbeats 4000000 in
theorem impl_LastOrder (q : Int) (A : Option Addr) (n c : Nat) (xs : List Int) (w : World) (_ : -9223372036854775808 ≤ q) (_ : q ≤ 9223372036854775807) (hr : RdI w A n xs) (hn : n ≤ 1048576) (_ : ∀ x ∈ xs, -9223372036854775808 ≤ x ∧ x ≤ 9223372036854775807) :
    Calls Try.prog 37 #[.int .i64 q, .slice A n c] w (RetI w (lastOrderV q xs)) := by
  obtain ⟨i0, hi, hz0, hz1, hz2⟩ := info_parts info_int
  have h1 := isRequests_any A n c xs q w hr hn
  cases hg : reqB q xs
  · have HV : Hid (lastOrderV q xs = ([], false)) := by unfold Hid lastOrderV; rw [hg]; rfl
    rw [hg] at h1
    clear hg
    clear hr
    go_enter Try.func37, Try.ntmps37
    go_wp2_with (go_at_call 65; refine h1.mono ?_; rintro e w1 ⟨rfl, hb⟩)
    go_ret2
    exact RetI.of (OwnI.nil _ _) hb HV.out
  · have HV : Hid (lastOrderV q xs = (ordTo xs xs.length, true)) := by unfold Hid lastOrderV; rw [hg]; rfl
    rw [hg] at h1
    clear hg
    refine (callsIn_wide (n := 3)).1 ?_
    refine callsIn_of_wp_marks Try.func37 rfl trivial ?_ rfl
    simp only [Try.ntmps37, List.size_toArray, List.length_cons, List.length_nil, Nat.reduceAdd, Nat.reduceSub, Array.replicate_succ, Array.replicate_zero, List.push_toArray, List.append_toArray, List.nil_append, List.cons_append]
    gi_wp2_with (first
      | (refine ⟨trivial, ?_⟩; gi_at_call 65; refine (callsIn_wide.2 h1).mono ?_; rintro e w1 ⟨rfl, hb⟩)
      | (refine ⟨trivial, ?_⟩; gi_at_call 71; refine (back_in Fence.wide _ trivial rfl _ _ _ _).mono ?_; rintro e w2 ⟨rfl, rfl⟩))
    have hz1' := hb.size
    have hB0 : Below w.heap.size w (((w1.alloc (.cells #[] 3)).alloc (.cells #[.slice (some ⟨w1.heap.size, 0, none⟩) 0 0] 22)).alloc (.cells #[.slice A n c] 22)) := ((hb.alloc hz1' _).alloc (by simp; omega) _).alloc (by simp; omega) _
    have bO := (Boxed.new (w1.alloc (.cells #[] 3)) 22 (.slice (some ⟨w1.heap.size, 0, none⟩) 0 0)).alloc (.cells #[.slice A n c] 22)
    have bS := Boxed.new ((w1.alloc (.cells #[] 3)).alloc (.cells #[.slice (some ⟨w1.heap.size, 0, none⟩) 0 0] 22)) 22 (.slice A n c)
    rw [World.size_alloc] at bO
    rw [World.size_alloc, World.size_alloc] at bS
    have r0 := (World.ownsRow.alloc (World.ownsRow.alloc (own_empty w1 w.heap.size hz1' #[] rfl) (.cells #[.slice (some ⟨w1.heap.size, 0, none⟩) 0 0] 22)) (.cells #[.slice A n c] 22))
    have hA : ∀ a, A = some a → 0 < n → a.block < w.heap.size := fun a e h0 => by
      obtain ⟨b, off, e2, hlt, _⟩ := hr.2 h0
      rw [e] at e2
      cases e2
      exact hlt
    refine wpIn_rangeFunc_ownG rfl (by omega) (gf := 83) (lb := #[.pointer (some ⟨w1.heap.size + 1 + 1, 0, none⟩)]) rfl trivial (enters_of Try.func83 (by kernel_rfl) rfl)
      (back_stops Fence.wide (3 - 1) trivial rfl (by omega) (w1.heap.size + 1 + 1) w.heap.size A n c xs _ (hr.below hB0) hn hA bS) (fun h k => kpB_t h k) (kpB_b (by simp; omega)) (Below.refl _ _) (fun _ => rfl)
      (fun pre W => (∃ v, Boxed W (w1.heap.size + 1) 22 v ∧ W.ownsRow w.heap.size 3 1 v (ordOf pre).length ((ordOf pre).map (Value.int .i64)) ∧ True) ∧ Below w.heap.size w W)
      (fun _ _ _ => False)
      (OwnFrom.and (Own.from (holdsRow_own w.heap.size (w1.heap.size + 1) 22 3 1 (fun pre => (ordOf pre).length) (fun pre => (ordOf pre).map (Value.int .i64)) (fun _ _ => True)) _) (ownFrom_below (Nat.le_refl _) (by simp; omega)))
      (fun _ _ _ _ _ hs _ _ => hs)
      ⟨⟨_, bO, r0, trivial⟩, hB0⟩
      (fun x => { tmps := #[.int .i64 q, .slice A n c, undef, undef, .slice none 0 0, .bool false, .pointer (some ⟨w1.heap.size + 1, 0, none⟩), undef, .int .i64 x.2, .int .i64 q, .slice A n c, .bool true, .bool false, .slice (some ⟨w1.heap.size, 0, none⟩) 0 0, .slice A n c, .func (.func 83) #[] #[.pointer (some ⟨w1.heap.size + 1 + 1, 0, none⟩)], .int .i64 (x.1 : Int), .int .i64 x.2, undef, undef, undef, undef, undef, undef, undef, undef, undef], defers := [] }) ?assign ?body ?done ?stop
    case assign =>
      intro l x W K hK
      gi_wp2
      exact hK
    case body =>
      rintro l pre x W ⟨⟨v, hv, hrow, _⟩, hB⟩ hlt
      have hc := hv.cell
      have hpl := ordOf_len pre
      obtain ⟨A2, c2, rfl, HO⟩ := own_form hrow
      have kc := containsO_any A2 (ordOf pre).length c2 (ordOf pre) x.2 W HO.rd (by omega)
      have HO' := hide HO
      cases hh : hasO (ordOf pre) x.2
      · rw [hh] at kc
        have HS : Hid (ordOf (pre ++ [x]) = ordOf pre ++ [x.2]) := by unfold Hid; rw [ordOf_snoc, ord_new hh]
        clear hh
        gi_wp2_with (first
          | (refine ⟨trivial, ?_⟩; gi_at_call 72; refine (CallsIn.inRound l (callsIn_wide.2 kc)).mono ?_; rintro e w' ⟨rfl, rfl⟩)
          | (gi_at_builtin; refine wpListIn_append_own _ rfl _ _ 22 rfl w.heap.size 3 i0 (.int .i64 0) 1 8 Try.underlying22 hi hz0 hz1 hz2 rfl (by decide) _ _ _ rfl (hrow.alloc _) ⟨W.heap.size, 0, none⟩ 1 1 [.int .i64 x.2] rfl rfl (cell_one_new _ _ _) (by simp [Value.oneCell']) (by unfold maxLen; omega) (by omega) (by have := hB.size; simp; omega) ?_; intro v' w5 hown' hgrow _; obtain ⟨g', cap', rfl⟩ := ownsRow_succ hown'; obtain ⟨hv1, hv2, hr2, hk2, hb2⟩ := hv.appended (by decide) hrow hB.size (by omega) hown' hgrow; have hkb : ∀ u, Boxed W (w1.heap.size + 1 + 1) 22 u → Boxed (w5.setCell ⟨w1.heap.size + 1, 0, none⟩ (.slice (some ⟨g', 0, none⟩) ((ordOf pre).length + 1) cap')) (w1.heap.size + 1 + 1) 22 u := fun u hu => ((hu.alloc _).kept hgrow (hu.not_row (by decide) hrow)).other (by omega) _; have hc1 := hv1.cell; have hf1 := hv1.frozen))
        exact ⟨hk2.from _, ⟨hb2, hkb⟩, ⟨_, hv2, by rw [HS.out]; simpa using hr2, trivial⟩, hB.trans hb2⟩
      · rw [hh] at kc
        have HS : Hid (ordOf (pre ++ [x]) = ordOf pre) := by unfold Hid; rw [ordOf_snoc, ord_old hh]
        clear hh
        gi_wp2_with (first
          | (refine ⟨trivial, ?_⟩; gi_at_call 72; refine (CallsIn.inRound l (callsIn_wide.2 kc)).mono ?_; rintro e w' ⟨rfl, rfl⟩))
        exact ⟨KeepsFrom.refl _ _, kpB_refl _ _ _ _, ⟨_, hv, by rw [HS.out]; exact hrow, trivial⟩, hB⟩
    case done =>
      rintro D ys W hD rfl ⟨⟨v, hv, hrow, _⟩, hB⟩ hK
      have hc := hv.cell
      obtain ⟨A2, c2, rfl, HO⟩ := own_form hrow
      gi_wp2
      refine ⟨by simp, .inl ⟨_, _, rfl, run_takeDeferred hK, ?_⟩⟩
      exact ⟨_, results_tmp2 rfl _ _ _, RetI.of (ownsRow_putObj hrow _ hK rfl) (hB.trans (belowK_b (w := w) (Nat.le_refl _) W D _ _ (by simp at hD; omega) hK rfl rfl)) (by rw [HV.out, ordOf_all])⟩
    case stop =>
      rintro D c pre W _ _ h _
      exact h.elim

set_option maxHeartbeats 1600000 in
theorem spec_LastOrder (q : Int) (A : Option Addr) (n c : Nat) (xs : List Int) (w : World) (_ : -9223372036854775808 ≤ q) (_ : q ≤ 9223372036854775807) (hr : RdI w A n xs) (hn : n ≤ 1048576) (_ : ∀ x ∈ xs, -9223372036854775808 ≤ x ∧ x ≤ 9223372036854775807) :
    Calls Try.prog 36 #[.int .i64 q, .slice A n c] w (RetI w (lastOrderV q xs)) := by
  have h1 := l3Good_any A n c xs q w hr hn
  cases hg : reqB q xs
  · have HV : Hid (lastOrderV q xs = ([], false)) := by unfold Hid lastOrderV; rw [hg]; rfl
    rw [hg] at h1
    clear hg hr
    go_enter Try.func36, Try.ntmps36
    go_wp2_with (go_at_call 63; refine h1.mono ?_; rintro e w1 ⟨rfl, rfl⟩)
    go_ret2
    exact RetI.of (own_empty _ _ (Nat.le_refl _) _ rfl) (by repeat (first | exact Below.refl _ _ | (refine below_drewN ?_ _) | (refine Below.drew ?_) | (refine Below.alloc ?_ (by first | exact Nat.le_refl _ | (simp; done) | (simp; omega) | omega) _) | (refine Below.setCell ?_ (by first | exact Nat.le_refl _ | (simp; done) | (simp; omega) | omega) _) | (refine Below.trans ?_ (Below.mono (by assumption) (by first | exact Nat.le_refl _ | (simp; done) | (simp; omega) | omega))))) HV.out
  · have HV : Hid (lastOrderV q xs = (ordTo xs n, true)) := by unfold Hid lastOrderV; rw [hg, hr.1]; rfl
    rw [hg] at h1
    have h2 := l4Order_any A n c xs w hr hn
    unfold RetP at h2
    replace h2 := hide h2
    clear hg hr
    go_enter Try.func36, Try.ntmps36
    go_wp2_with (first
      | (go_at_call 63; refine h1.mono ?_; rintro e w1 ⟨rfl, rfl⟩)
      | (go_at_call 70; refine h2.out.mono ?_; rintro e w1 ⟨A2, c2, rfl, ho, hb⟩; replace ho := hide ho; replace hb := hide hb))
    go_ret2
    exact RetI.of ho.out hb.out HV.out
end Go.Proofs.Ytaoacpikmpoodaa
