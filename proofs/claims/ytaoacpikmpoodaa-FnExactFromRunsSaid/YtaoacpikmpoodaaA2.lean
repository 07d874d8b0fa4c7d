/- The law's helpers over slices of arrays of two numbers: equal, marked, held, and an append of one; for slices of at most 2^20 arrays. -/
import Derived.Test.YtaoacpikmpoodaaPairs
import Derived.Deep.Slices
import Derived.Deep.RegionHeld3
namespace Go.Proofs.Ytaoacpikmpoodaa
open Go.RowKit Go.ChangeShapes Go.WideShapes Go.ChangeAt

theorem info_a2 : (Try.prog.info? 62).map (fun i => (i.zero, i.size, i.bytes)) = some (some (.agg #[.int .i64 0, .int .i64 0]), 2, 16) := by kernel_rfl

set_option maxHeartbeats 800000 in
theorem eqIntA2_same (x y : Int) (w : World) :
    Calls Try.prog 73 #[.agg #[.int .i64 x, .int .i64 y], .agg #[.int .i64 x, .int .i64 y]] w fun e w' => e = .returned (.bool true) ∧ Below w.heap.size w w' := by
  obtain ⟨W0, HW⟩ : ∃ W0, (w.alloc (.cells #[.int .i64 x, .int .i64 y] 62)).alloc (.cells #[.int .i64 x, .int .i64 y] 62) = W0 := ⟨_, rfl⟩
  have q0 : W0.cell? ⟨w.heap.size, 0, none⟩ = some (.int .i64 x) := by subst HW; go_simp
  have q1 : W0.cell? ⟨w.heap.size, 1, none⟩ = some (.int .i64 y) := by subst HW; go_simp
  have q2 : W0.cell? ⟨w.heap.size + 1, 0, none⟩ = some (.int .i64 x) := by subst HW; go_simp
  have q3 : W0.cell? ⟨w.heap.size + 1, 1, none⟩ = some (.int .i64 y) := by subst HW; go_simp
  have hB : Hid (Below w.heap.size w W0) := by subst HW; exact (by repeat (first | exact Below.refl _ _ | (refine below_drewN ?_ _) | (refine Below.drew ?_) | (refine Below.alloc ?_ (by first | exact Nat.le_refl _ | (simp; done) | (simp; omega) | omega) _) | (refine Below.setCell ?_ (by first | exact Nat.le_refl _ | (simp; done) | (simp; omega) | omega) _) | (refine Below.trans ?_ (Below.mono (by assumption) (by first | exact Nat.le_refl _ | (simp; done) | (simp; omega) | omega)))))
  replace HW := hide HW
  go_enter Try.func73, Try.ntmps73
  go_wp2
  rw [HW.out]
  go_loopw [5] (fun i wr => (i = .int .i64 0 ∨ i = .int .i64 1 ∨ i = .int .i64 2) ∧ ∃ m, Hid (wr = W0.drewN m)) (fun i _ => 2 - (intOf i).toNat)
  case atStart => exact ⟨.inl rfl, 0, rfl⟩
  case round =>
    obtain ⟨hi, m, HM⟩ := hrel
    obtain rfl := HM.out
    rcases hi with rfl | rfl | rfl
    · have hq : (x != x) = false := by simp
      go_wp2
      go_quiet (fail)
      go_wp2
      go_roundw
      case rel => first | exact ⟨.inr (.inl rfl), m + _, rfl⟩ | ((repeat apply Exists.intro); refine ⟨?_, rfl⟩; exact ⟨.inr (.inl rfl), m + _, rfl⟩)
      case measure => simp [intOf]
    · have hq : (y != y) = false := by simp
      go_wp2
      go_quiet (fail)
      go_wp2
      go_roundw
      case rel => first | exact ⟨.inr (.inr rfl), m + _, rfl⟩ | ((repeat apply Exists.intro); refine ⟨?_, rfl⟩; exact ⟨.inr (.inr rfl), m + _, rfl⟩)
      case measure => simp [intOf]
    · go_wp2
      go_ret
      exact ⟨rfl, below_drewN hB.out _⟩
set_option maxHeartbeats 800000 in
theorem eqIntA2S_same (A A' : Option Addr) (n c c' : Nat) (xs : List (Int × Int)) (w : World) (h1 : RdP w A n xs) (h2 : RdP w A' n xs) (hn : n ≤ 1048576) :
    Calls Try.prog 40 #[.slice A n c, .slice A' n c'] w fun e w' => e = .returned (.bool true) ∧ Below w.heap.size w w' := by
  have H1 := hide h1
  have H2 := hide h2
  clear h1 h2
  go_enter Try.func40, Try.ntmps40
  go_wp2
  go_loopw [5] (fun i wr => ∃ k : Nat, k ≤ n ∧ i = .int .i64 k ∧ Kept w.heap.size w wr) (fun i _ => n - (intOf i).toNat)
  case atStart => exact ⟨0, Nat.zero_le _, rfl, Kept.start (Nat.le_refl _)⟩
  case round =>
    obtain ⟨k, hk, rfl, HK⟩ := hrel
    by_cases hlt : k < n
    · obtain ⟨b, off, rfl, hb1, q0, q1⟩ := (H1.out).at_ hlt
      obtain ⟨b', off', rfl, hb2, q2, q3⟩ := (H2.out).at_ hlt
      have hlt' : (k : Int) < (n : Int) := by omega
      obtain ⟨x, hx⟩ : ∃ x, Hid ((xs.getD k (0, 0)).1 = x) := ⟨_, rfl⟩
      obtain ⟨y, hy⟩ : ∃ y, Hid ((xs.getD k (0, 0)).2 = y) := ⟨_, rfl⟩
      rw [hx.out] at q0 q2
      rw [hy.out] at q1 q3
      have mkS := hide (fun (w' : World) (h : Kept w.heap.size w w') => (⟨(h.cells _ _ hb1).trans q0, (h.cells _ _ hb1).trans q1, (h.cells _ _ hb2).trans q2, (h.cells _ _ hb2).trans q3, h⟩ : w'.cell? ⟨b, off + k * 2, none⟩ = some (.int .i64 x) ∧ w'.cell? ⟨b, off + k * 2 + 1, none⟩ = some (.int .i64 y) ∧ w'.cell? ⟨b', off' + k * 2, none⟩ = some (.int .i64 x) ∧ w'.cell? ⟨b', off' + k * 2 + 1, none⟩ = some (.int .i64 y) ∧ Kept w.heap.size w w'))
      clear q0 q1 q2 q3
      go_wp2_with fail
      go_region_held3 (fun w' => w'.cell? ⟨b, off + k * 2, none⟩ = some (.int .i64 x) ∧ w'.cell? ⟨b, off + k * 2 + 1, none⟩ = some (.int .i64 y) ∧ w'.cell? ⟨b', off' + k * 2, none⟩ = some (.int .i64 x) ∧ w'.cell? ⟨b', off' + k * 2 + 1, none⟩ = some (.int .i64 y) ∧ Kept w.heap.size w w')
        (first | exact mkS.out _ HK | exact mkS.out _ HK.drew)
        (first
          | (go_at_call 73; refine (eqIntA2_same _ _ _).mono ?_; rintro e w1 ⟨rfl, hb⟩; go_must (have HK := Kept.step (by first | assumption | exact HK.drew) hb)))
      go_wp2
      go_roundw
      case rel => first | exact ⟨k + 1, by omega, by go_num, HK⟩ | ((repeat apply Exists.intro); refine ⟨?_, rfl⟩; exact ⟨k + 1, by omega, by go_num, HK⟩)
      case measure => simp [intOf]; omega
    · go_wp2
      go_ret
      exact ⟨rfl, HK.1⟩

/-- The marks k, k + 1; k + 2, k + 3; .. -/
def marksP (k : Int) (n : Nat) : List (Int × Int) := (List.range n).map fun (j : Nat) => (k + 2 * (j : Int), k + 2 * (j : Int) + 1)
theorem marksP_len (k : Int) (n : Nat) : (marksP k n).length = n := by simp [marksP]
theorem marksP_getD (k : Int) (n j : Nat) (h : j < n) : (marksP k n).getD j (0, 0) = (k + 2 * (j : Int), k + 2 * (j : Int) + 1) := by simp [marksP, List.getD_eq_getElem?_getD, h]
theorem markP_step (k : Int) (xs : List (Int × Int)) (n j : Nat) (hn : xs.length = n) (hj : j < n) :
    ((flatP (marksP k j ++ xs.drop j)).set (j * 2) (.int .i64 (k + 2 * (j : Int)))).set (j * 2 + 1) (.int .i64 (k + 2 * (j : Int) + 1)) = flatP (marksP k (j + 1) ++ xs.drop (j + 1)) := by
  have hl : (flatP (marksP k j)).length = j * 2 := by rw [flatP_len, marksP_len]
  obtain ⟨p, hd⟩ : ∃ p, xs.drop j = p :: xs.drop (j + 1) := ⟨_, List.drop_eq_getElem_cons (by omega)⟩
  have hm : marksP k (j + 1) = marksP k j ++ [(k + 2 * (j : Int), k + 2 * (j : Int) + 1)] := by simp [marksP, List.range_succ]
  rw [hd, hm, flatP_append, flatP_append, flatP_append]
  rw [List.set_append_right _ _ (by omega), hl, Nat.sub_self, List.set_append_right _ _ (by omega), hl, show j * 2 + 1 - j * 2 = 1 by omega]
  simp [flatP]

set_option maxHeartbeats 800000 in
theorem markIntA2S_any (A : Option Addr) (n c base : Nat) (k : Int) (xs : List (Int × Int)) (w : World) (ho : OwnP 62 w base A n c xs) (hk : 0 ≤ k) (hk' : k ≤ 1000000000) (hn : n ≤ 1048576) :
    Calls Try.prog 41 #[.slice A n c, .int .i64 k] w fun e w' => e = .returned (.int .i64 (k + 2 * (n : Int))) ∧ OwnP 62 w' base A n c (marksP k n) ∧ Marked w w' A := by
  have hlen := hide ho.len
  have HO := hide ho
  clear ho
  go_enter Try.func41, Try.ntmps41
  go_wp2
  go_loopw [1, 5, 6] (fun q i _ wr => ∃ j : Nat, j ≤ n ∧ i = .int .i64 j ∧ q = .int .i64 (k + 2 * (j : Int)) ∧ Hid (OwnP 62 wr base A n c (marksP k j ++ xs.drop j)) ∧ Hid (Marked w wr A)) (fun _ i _ _ => n - (intOf i).toNat)
  case atStart => exact ⟨0, Nat.zero_le _, rfl, by simp, by simpa [marksP] using HO, ⟨rfl, rfl, rfl, Nat.le_refl _, fun _ _ _ => rfl⟩⟩
  case round =>
    obtain ⟨j, hj, rfl, rfl, HJ, HM⟩ := hrel
    by_cases hlt : j < n
    · obtain ⟨g, cap, hv, _⟩ := World.ownsRow.form HJ.out (by omega)
      have hA : A = some ⟨g, 0, none⟩ := by injection hv
      have hcap : c = cap := by injection hv
      subst hA
      subst hcap
      clear hv
      have hlt' : (j : Int) < (n : Int) := by omega
      obtain ⟨K, hK⟩ : ∃ K, Hid (k + 2 * (j : Int) = K) := ⟨_, rfl⟩
      have hKb : 0 ≤ K ∧ K ≤ 2000000000 := by rw [← hK.out]; omega
      have hK1 := hKb.1
      have hK2 := hKb.2
      have hlf : (flatP (marksP k j ++ xs.drop j)).length = n * 2 := by rw [flatP_len]; simp [marksP_len, hlen.out]; omega
      rw [hK.out]
      have HST := hide (markP_step k xs n j hlen.out hlt)
      rw [hK.out] at HST
      obtain ⟨wo, rfl⟩ : ∃ wo : World, wo = wr := ⟨_, rfl⟩
      obtain ⟨L, hL⟩ : ∃ L, flatP (marksP k j ++ xs.drop j) = L := ⟨_, rfl⟩
      have HJ0 : Hid (wo.ownsRow base 62 2 (.slice (some ⟨g, 0, none⟩) n c) n L) := by rw [← hL]; exact HJ
      rw [hL] at HST hlf
      clear hL HJ hKb
      go_wp2_with fail
      go_loopw [1, 6] (fun q t wx => (t = .int .i64 0 ∧ q = .int .i64 K ∧ Hid (wx.ownsRow base 62 2 (.slice (some ⟨g, 0, none⟩) n c) n L) ∧ Hid (Marked w wx (some ⟨g, 0, none⟩))) ∨ (t = .int .i64 1 ∧ q = .int .i64 (K + 1) ∧ Hid (wx.ownsRow base 62 2 (.slice (some ⟨g, 0, none⟩) n c) n (L.set (j * 2) (.int .i64 K))) ∧ Hid (Marked w wx (some ⟨g, 0, none⟩))) ∨ (t = .int .i64 2 ∧ q = .int .i64 (K + 2) ∧ Hid (wx.ownsRow base 62 2 (.slice (some ⟨g, 0, none⟩) n c) n ((L.set (j * 2) (.int .i64 K)).set (j * 2 + 1) (.int .i64 (K + 1)))) ∧ Hid (Marked w wx (some ⟨g, 0, none⟩)))) (fun _ t _ => 2 - (intOf t).toNat)
      case atStart => exact .inl ⟨rfl, rfl, HJ0, HM⟩
      case round =>
        rcases hrel with ⟨rfl, rfl, H1, H2⟩ | ⟨rfl, rfl, H1, H2⟩ | ⟨rfl, rfl, H1, H2⟩
        · have hc2 : ∃ v0, wr.cell? ⟨g, j * 2, none⟩ = some v0 := by
            rw [World.ownsRow.cellAt H1.out (j * 2) (by omega)]
            exact ⟨_, List.getElem?_eq_getElem (by omega)⟩
          obtain ⟨v0, hc2⟩ := hc2
          have hf2 := World.ownsRow.frozenAt H1.out (j * 2)
          have HS := hide (World.ownsRow.stored H1.out (j * 2) (.int .i64 K))
          go_wp2
          go_roundw
          case rel => first | exact .inr (.inl ⟨rfl, rfl, HS.out.1, grownBy_trans H2.out HS.out.2⟩) | ((repeat apply Exists.intro); refine ⟨?_, rfl⟩; exact .inr (.inl ⟨rfl, rfl, HS.out.1, grownBy_trans H2.out HS.out.2⟩))
          case measure => simp [intOf]
        · have hc2 : ∃ v0, wr.cell? ⟨g, j * 2 + 1, none⟩ = some v0 := by
            rw [World.ownsRow.cellAt H1.out (j * 2 + 1) (by omega)]
            exact ⟨_, List.getElem?_eq_getElem (by simp; omega)⟩
          obtain ⟨v0, hc2⟩ := hc2
          have hf2 := World.ownsRow.frozenAt H1.out (j * 2 + 1)
          have HS := hide (World.ownsRow.stored H1.out (j * 2 + 1) (.int .i64 (K + 1)))
          go_wp2
          go_roundw
          case rel => first | exact .inr (.inr ⟨rfl, by go_num, HS.out.1, grownBy_trans H2.out HS.out.2⟩) | ((repeat apply Exists.intro); refine ⟨?_, rfl⟩; exact .inr (.inr ⟨rfl, by go_num, HS.out.1, grownBy_trans H2.out HS.out.2⟩))
          case measure => simp [intOf]
        · rw [HST.out] at H1
          go_wp2
          go_roundw
          case rel => first | exact ⟨j + 1, by omega, by go_num, by rw [← hK.out]; go_num, H1, H2⟩ | ((repeat apply Exists.intro); refine ⟨?_, rfl⟩; exact ⟨j + 1, by omega, by go_num, by rw [← hK.out]; go_num, H1, H2⟩)
          case measure => simp [intOf]; omega
    · have hjn : j = n := by omega
      subst hjn
      go_wp2
      go_ret
      refine ⟨rfl, ?_, HM.out⟩
      have := HJ.out
      rwa [List.drop_of_length_le (by rw [hlen.out]; exact Nat.le_refl _), List.append_nil] at this

theorem heldIntA2S_any (A : Option Addr) (n c : Nat) (k : Int) (w : World) (h : RdP w A n (marksP k n)) (hk : 0 ≤ k) (hk' : k ≤ 1000000000) (hn : n ≤ 1048576) :
    Calls Try.prog 42 #[.slice A n c, .int .i64 k] w fun e w' => e = .returned (.int .i64 (k + 2 * (n : Int))) ∧ w = w' := by
  have HR := hide h
  clear h
  go_enter Try.func42, Try.ntmps42
  go_wp2
  go_loop [1, 5, 6] (fun q i _ => ∃ j : Nat, j ≤ n ∧ i = .int .i64 j ∧ q = .int .i64 (k + 2 * (j : Int))) (fun _ i _ => n - (intOf i).toNat)
  case atStart => exact ⟨0, Nat.zero_le _, rfl, by simp⟩
  case round =>
    obtain ⟨j, hj, rfl, rfl⟩ := hrel
    by_cases hlt : j < n
    · obtain ⟨b, off, rfl, _, hc1, hc2⟩ := (HR.out).at_ hlt
      rw [marksP_getD k n j hlt] at hc1 hc2
      have hlt' : (j : Int) < (n : Int) := by omega
      obtain ⟨K, hK⟩ : ∃ K, Hid (k + 2 * (j : Int) = K) := ⟨_, rfl⟩
      have hKb : 0 ≤ K ∧ K ≤ 2000000000 := by rw [← hK.out]; omega
      have hK1 := hKb.1
      have hK2 := hKb.2
      clear hKb
      have hc1' : w.cell? ⟨b, off + j * 2, none⟩ = some (.int .i64 K) := by rw [← hK.out]; exact hc1
      have hc2' : w.cell? ⟨b, off + j * 2 + 1, none⟩ = some (.int .i64 (K + 1)) := by rw [← hK.out]; exact hc2
      clear hc1 hc2
      rw [hK.out]
      have e1 : (K != K) = false := by simp
      have e2 : (K + 1 != K + 1) = false := by simp
      go_wp2_with fail
      go_loop [1, 6] (fun q t => (t = .int .i64 0 ∧ q = .int .i64 K) ∨ (t = .int .i64 1 ∧ q = .int .i64 (K + 1)) ∨ (t = .int .i64 2 ∧ q = .int .i64 (K + 2))) (fun _ t => 2 - (intOf t).toNat)
      case atStart => exact .inl ⟨rfl, rfl⟩
      case round =>
        rcases hrel with ⟨rfl, rfl⟩ | ⟨rfl, rfl⟩ | ⟨rfl, rfl⟩
        · go_wp2
          go_round
          case rel => exact .inr (.inl ⟨rfl, rfl⟩)
          case measure => simp [intOf]
        · go_wp2
          go_round
          case rel => exact .inr (.inr ⟨rfl, by go_num⟩)
          case measure => simp [intOf]
        · go_wp2
          go_round
          case rel => first | exact ⟨j + 1, by omega, by go_num, by rw [← hK.out]; go_num⟩ | ((repeat apply Exists.intro); refine ⟨?_, rfl⟩; exact ⟨j + 1, by omega, by go_num, by rw [← hK.out]; go_num⟩)
          case measure => simp [intOf]; omega
    · have hjn : j = n := by omega
      subst hjn
      go_wp2
      go_ret
      exact ⟨rfl, rfl⟩

/-- append(out, [2]int{x, y}). -/
theorem append_pair {ops : Array Oper} {rest : List Oper} {o : Oper} {a : Act} {Q : Exit → Act → World → Prop} (hgd : o.guard = none) (s x : Operand)
    (ho : o.op = .call { callee := .builtin .append, args := #[s, x], argTypes := #[41, 41] }) (base : Nat) (A : Option Addr) (n c : Nat) (xs : List (Int × Int)) (y z : Int) (w : World)
    (hs : a.eval s = .slice A n c) (hx : a.eval x = .slice (some ⟨w.heap.size, 0, none⟩) 1 1) (hown : OwnP 62 w base A n c xs) (hn : n ≤ 1048576) (hbase : base ≤ w.heap.size)
    (h : ∀ A' c' w', OwnP 62 w' base A' (n + 1) c' (xs ++ [(y, z)]) → Below base w w' → w.grownBy w' (A.map (·.block)) → wpList Try.prog ops Q rest (a.put o.dst (.slice A' (n + 1) c')) w') :
    wpList Try.prog ops Q (o :: rest) a (w.alloc (.cells #[.int .i64 y, .int .i64 z] 62)) := by
  obtain ⟨i0, hi, hz0, hz1, hz2⟩ := info_parts info_a2
  refine wpList_append_own _ hgd s x 41 ho base 62 i0 (.agg #[.int .i64 0, .int .i64 0]) 2 16 Try.underlying41 hi hz0 hz1 hz2 rfl (by decide) _ n (flatP xs) hs (World.ownsRow.alloc hown _) ⟨w.heap.size, 0, none⟩ 1 1 [.int .i64 y, .int .i64 z] hx rfl ?_ ?_ (by unfold maxLen; omega) (by omega) (by simp; omega) ?_
  · intro j u hj
    match j, hj with
    | 0, hj =>
      simp at hj
      subst hj
      simp [Addr.add_lit]
    | 1, hj =>
      simp at hj
      subst hj
      simp [Addr.add_lit]
  · simp [Value.oneCell']
  · intro v' w' ho' hg _
    rw [show flatP xs ++ [Value.int .i64 y, Value.int .i64 z] = flatP (xs ++ [(y, z)]) by simp [flatP]] at ho'
    obtain ⟨A', c', rfl, hO⟩ := ownP_form ho'
    have hg2 : w.grownBy w' (A.map (·.block)) := by
      have hA : (Value.slice A n c).ownBlock = A.map (·.block) := by cases A <;> rfl
      rw [hA] at hg
      exact grownBy_trans (World.grownBy_alloc w _ _) hg
    refine h A' c' w' hO ⟨hg2.os, hg2.tape, hg2.output, hg2.size, fun k hk => hg2.block k (by omega) ?_⟩ hg2
    cases A with
    | none => simp
    | some a => have := (hown.lt a rfl).1; simp; omega
/-- What a function that returns a slice of arrays of two and a bool hands back. -/
def RetP (w : World) (r : List (Int × Int) × Bool) (e : Ending) (w' : World) : Prop :=
  ∃ A c, e = .returned (.tuple #[.slice A r.1.length c, .bool r.2]) ∧ OwnP 62 w' w.heap.size A r.1.length c r.1 ∧ Below w.heap.size w w'
theorem RetP.of {w w' : World} {r : List (Int × Int) × Bool} {A : Option Addr} {n c : Nat} {ys : List (Int × Int)} {b : Bool} (ho : OwnP 62 w' w.heap.size A n c ys) (hb : Below w.heap.size w w') (h : r = (ys, b)) :
    RetP w r (.returned (.tuple #[.slice A n c, .bool b])) w' := by
  subst h
  have := ho.len
  subst this
  exact ⟨A, c, rfl, ho, hb⟩
theorem sep_gen {w w' : World} {base base' : Nat} {A A' : Option Addr} (h : ∀ a, A = some a → base ≤ a.block ∧ a.block < w.heap.size) (h' : ∀ a, A' = some a → base' ≤ a.block ∧ a.block < w'.heap.size) (hb : w.heap.size ≤ base' := by exact Nat.le_refl _) : Sep A A' := fun a a' e e' he => by
  have := (h a e).2
  have := (h' a' e').1
  omega
end Go.Proofs.Ytaoacpikmpoodaa
