/- slices.Repeat of one number. -/
import Derived.Test.YtaoacpikmpoodaaInts
import Derived.Laws.CopyOwn
import Derived.Laws.Bits64b
import Derived.Deep.RegionLaw
import Derived.Deep.DeepCutAuto
namespace Go.Proofs.Ytaoacpikmpoodaa
open Go.RowKit Go.IntWalk
theorem mask32 (a : Nat) (ha : a ≤ 1048576) : bits .and .u64 (a : Int) 4294967295 = (a : Int) := by
  have h := bits_and_u64_nat a 4294967295 (by omega) (by omega)
  have e : a &&& 4294967295 = a % 4294967296 := Nat.and_two_pow_sub_one_eq_mod a 32
  rw [e, Nat.mod_eq_of_lt (by omega)] at h
  exact h
set_option maxHeartbeats 1600000 in
theorem mul_one_any (n : Nat) (w : World) (hn : n ≤ 1048576) :
    Calls Try.prog 85 #[.int .u64 1, .int .u64 n] w fun e w' => e = .returned (.tuple #[.int .u64 0, .int .u64 n]) ∧ w = w' := by
  have b1 : bits .and .u64 1 4294967295 = 1 := mask32 1 (by omega)
  have b0 : bits .and .u64 0 4294967295 = 0 := mask32 0 (by omega)
  have bn := mask32 n hn
  have d0 : (n : Int) / 4294967296 = 0 := by omega
  have wn : IntKind.u64.wrap (n : Int) = n := u64_in _ (by omega)
  have w0 : IntKind.u64.wrap 0 = 0 := u64_in _ (by omega)
  have on : (1 : Int) * (n : Int) = n := by omega
  go_enter Try.func85, Try.ntmps85
  go_wp2
  all_goals (go_ret2; first | exact ⟨rfl, rfl⟩ | (simp [b1, b0, bn, d0, wn, w0]; done) | (simp only [b1, bn, on, wn, d0, w0, b0, Int.mul_zero, Int.add_zero, Int.zero_ediv]; trace_state; simp))
theorem made_form {w' : World} {base g n : Nat} {zs : List Value} (h : w'.ownsRow base 3 1 (.slice (some ⟨g, 0, none⟩) n n) n zs) : ∃ cur : List Value, w'.heap[g]? = some (.cells cur.toArray 3 (0, 0)) ∧ cur.length = n := by
  rcases h.2 with ⟨h1, _⟩ | ⟨g', cap, cur, hv, _, hh, _, _, hs, _⟩
  · cases h1
  · injection hv with a1 a2 a3
    injection a1 with a1
    injection a1 with a1
    subst a1
    subst a3
    exact ⟨cur.toList, by simpa using hh, by simpa using hs⟩
theorem form_own {w' : World} {base g n : Nat} {xs : List Int} (cur : List Value) (hg : w'.heap[g]? = some (.cells cur.toArray 3 (0, 0))) (hb : base ≤ g) (hl : cur.length = n) (hm : n ≤ maxLen) (hx : cur = xs.map (Value.int .i64)) : OwnI w' base (some ⟨g, 0, none⟩) n n xs := by
  subst hx
  have hxl : xs.length = n := by simpa using hl
  exact ⟨by simp [hxl], .inr ⟨g, n, _, rfl, hb, hg, Nat.le_refl _, hm, by simp [hxl], by rw [List.take_of_length_le (by simp [hxl])]⟩⟩
theorem splice_same {cur : List Value} {k m n : Nat} {v : Value} (hl : cur.length = n) (hk : ∀ j, j < k → cur[j]? = some v) (hm : k + m ≤ n) :
    (splice cur k (List.replicate m v)).length = n ∧ ∀ j, j < k + m → (splice cur k (List.replicate m v))[j]? = some v := by
  refine ⟨by simp [splice]; omega, fun j hj => ?_⟩
  unfold splice
  rcases Nat.lt_or_ge j k with h | h
  · rw [List.getElem?_append_left (by simp; omega), List.getElem?_take_of_lt h]
    exact hk j h
  · rw [List.getElem?_append_right (by simp; omega), List.getElem?_append_left (by rw [List.length_replicate, List.length_take, hl]; omega)]
    rw [List.getElem?_replicate, if_pos (by rw [List.length_take, hl]; omega)]
theorem all_same {cur : List Value} {n : Nat} {x : Int} (hl : cur.length = n) (hk : ∀ j, j < n → cur[j]? = some (.int .i64 x)) : cur = (List.replicate n x).map (Value.int .i64) := by
  refine List.ext_getElem? fun j => ?_
  rcases Nat.lt_or_ge j n with h | h
  · rw [hk j h]; simp [h]
  · rw [List.getElem?_eq_none (by omega), List.getElem?_eq_none (by simp; omega)]
theorem repl_get {m j : Nat} {v u : Value} (h : (List.replicate m v)[j]? = some u) : j < m ∧ u = v := by
  rcases Nat.lt_or_ge j m with h1 | h1
  · simp [h1] at h; exact ⟨h1, h.symm⟩
  · rw [List.getElem?_eq_none (by simp; omega)] at h; cases h
theorem cell_of_row {w' : World} {g : Nat} {cur : List Value} {j : Nat} {v : Value} (hg : w'.heap[g]? = some (.cells cur.toArray 3 (0, 0))) (hj : cur[j]? = some v) : w'.cell? ⟨g, j, none⟩ = some v := by
  simp [World.cell?, hg, hj]
/-- copy within the own row, at a step of a region that draws its order. -/
theorem copy_same_step {ops : Array Oper} {o : Oper} {a : Act} {K : Act → World → Prop} {Q : Exit → Act → World → Prop} {E : Prop} (hgd : o.guard = none) (d s : Operand)
    (ho : o.op = .call { callee := .builtin .copy, args := #[d, s], argTypes := #[22, 22] }) (g k n m : Nat) (x : Int) (cur : List Value) (w w0 : World)
    (hd : a.eval d = .slice (some ⟨g, k, none⟩) (n - k) (n - k)) (hs : a.eval s = .slice (some ⟨g, 0, none⟩) k n)
    (hcur : w.heap[g]? = some (.cells cur.toArray 3 (0, 0))) (hl : cur.length = n) (hall : ∀ j, j < k → cur[j]? = some (.int .i64 x)) (hm : Nat.min k (n - k) = m) (hm1 : k + m ≤ n ∧ m ≤ k)
    (hb : Below g w0 w)
    (h : ∀ w', Hid (w'.heap[g]? = some (.cells (splice cur k (List.replicate m (.int .i64 x))).toArray 3 (0, 0))) → Below g w0 w' → K (a.put o.dst (.int .i64 m)) w') :
    if Region.wanted o (yielded ops a.tmps) = true then Oper.wp Try.prog o a w K Q else E := by
  obtain ⟨i0, hi, hz0, hz1, hz2⟩ := info_parts info_int
  have hsz : (Try.prog.info? 3).map (·.size) = some 1 := by rw [hi]; simp [hz1]
  refine step_copy_splice hgd d s 22 22 ho 3 Try.underlying22 hsz (some ⟨g, k, none⟩) (some ⟨g, 0, none⟩) (n - k) (n - k) k n hd hs g k cur 3 hcur (List.replicate m (.int .i64 x)) (by rw [List.length_replicate, ← hm]) (fun _ => ⟨rfl, _, rfl, ?_⟩) (by rw [List.length_replicate, hl]; omega) ?_ g w0 hb (Nat.le_refl _) ?_
  · intro j v hj
    obtain ⟨h1, rfl⟩ := repl_get hj
    have := cell_of_row hcur (hall j (by omega))
    simpa [Addr.add_lit] using this
  · intro v hv
    have e := List.eq_of_mem_replicate hv
    subst e
    rfl
  · intro w' h1 h2
    rw [List.length_replicate]
    exact h w' h1 h2
set_option maxHeartbeats 400000 in
theorem repeat_any (x : Int) (n B : Nat) (w : World) (hn : n ≤ 1048576) (hB : B < w.heap.size) (hc : w.cell? ⟨B, 0, none⟩ = some (.int .i64 x)) :
    Calls Try.prog 75 #[.slice (some ⟨B, 0, none⟩) 1 1, .int .i64 n] w (fun e w' => ∃ A c, e = .returned (.slice A n c) ∧ OwnI w' w.heap.size A n c (List.replicate n x) ∧ Below w.heap.size w w') := by
  obtain ⟨i0, hi, hz0, hz1, hz2⟩ := info_parts info_int
  have e1 : ¬ (n : Int) < 0 := by omega
  have e2 : IntKind.u64.wrap (n : Int) = n := u64_in _ (by omega)
  have e3 : ¬ (n : Int) > 9223372036854775807 := by omega
  have hsz : (Try.prog.info? 3).map (·.size) = some 1 := by rw [hi]; simp [hz1]
  have e4 : ¬ (9223372036854775807 : Int) < n := by omega
  go_enter Try.func75, Try.ntmps75
  go_upto_region 7 with (first
    | (go_at_call 85; refine (mul_one_any n _ hn).mono ?_; rintro e w' ⟨rfl, rfl⟩)
    | (at_make; refine wpList_make_full _ rfl _ _ _ rfl w.heap.size 3 i0 (.int .i64 0) 1 Try.underlying22 hi hz0 hz1 _ _ _ _ n rfl rfl rfl rfl (by rw [hz2]; omega) (by unfold maxLen; omega) (by simp) ?_; intro w1 hown hgrow; obtain ⟨cur, hcur, hlen⟩ := made_form hown; have hb1 := hide (show Below w.heap.size w w1 from ⟨hgrow.os, hgrow.tape, hgrow.output, hgrow.size, fun k hk => hgrow.block k hk (by simp)⟩); replace hcur := hide hcur; clear hown hgrow))
  obtain ⟨k0, hk0⟩ : ∃ k0, Nat.min 1 n = k0 := ⟨_, rfl⟩
  have hk1 : k0 ≤ n ∧ (0 < n → 1 ≤ k0) ∧ k0 ≤ 1 := by rw [← hk0]; refine ⟨Nat.min_le_right _ _, fun h => Nat.le_min.2 ⟨Nat.le_refl _, h⟩, Nat.min_le_left _ _⟩
  have hS := splice_same (cur := cur) (k := 0) (m := k0) (v := .int .i64 x) hlen (fun j hj => by omega) (by omega)
  have hd0 : (List.replicate k0 (Value.int .i64 x)).length = Nat.min 1 n := by rw [List.length_replicate, hk0]
  have hd1 : ∀ j v, (List.replicate k0 (Value.int .i64 x))[j]? = some v → w1.cell? ((⟨B, 0, none⟩ : Addr).add j) = some v := by
    intro j v hj
    obtain ⟨h1, rfl⟩ := repl_get hj
    have hj0 : j = 0 := by omega
    subst hj0
    have := (hb1.out.cell (p := ⟨B, 0, none⟩) hB).trans hc
    simpa [Addr.add_lit] using this
  have hd2 : 0 + (List.replicate k0 (Value.int .i64 x)).length ≤ cur.length := by
    rw [List.length_replicate, hlen]
    omega
  have hd3 : ∀ v ∈ (List.replicate k0 (Value.int .i64 x)), v.oneCell' = true := by
    intro v hv
    have e := List.eq_of_mem_replicate hv
    subst e
    rfl
  replace hd0 := hide hd0
  replace hd1 := hide hd1
  replace hd3 := hide hd3
  rw [Nat.zero_add] at hS
  replace hS := hide hS
  replace hk1 := hide hk1
  replace hk0 := hide hk0
  go_wp2_with (refine wpList_copy_splice (o := ⟨some 33, _, _, _, _, _⟩) rfl _ _ _ _ rfl 3 Try.underlying22 hsz _ _ _ _ _ _ rfl rfl w.heap.size 0 cur 3 hcur.out (List.replicate k0 (.int .i64 x)) hd0.out (fun _ => ⟨rfl, _, rfl, hd1.out⟩) hd2 hd3.out w.heap.size w hb1.out (Nat.le_refl _) ?_; intro w2 hc2 hb2; replace hb2 := hide hb2)
  try rw [List.length_replicate]
  obtain ⟨cur2, hcur2⟩ : ∃ cur2, Hid (splice cur 0 (List.replicate k0 (.int .i64 x)) = cur2) := ⟨_, rfl⟩
  rw [hcur2.out] at hc2 hS
  clear hcur2 hcur hlen hb1 hk0 hd0 hd1 hd2 hd3
  go_wp2_with fail
  go_loopw [8] (fun s wr => ∃ (k : Nat) (cur : List Value), s = .int .i64 k ∧ k ≤ n ∧ (0 < n → 1 ≤ k) ∧ cur.length = n ∧ Hid (wr.heap[w.heap.size]? = some (.cells cur.toArray 3 (0, 0))) ∧ Hid (∀ j, j < k → cur[j]? = some (.int .i64 x)) ∧ Hid (Below w.heap.size w wr)) (fun s _ => n - (intOf s).toNat)
  case atStart => exact ⟨k0, cur2, rfl, hk1.out.1, hk1.out.2.1, hS.out.1, hc2, hS.out.2, hb2⟩
  case round =>
    obtain ⟨k, cur, rfl, hkn, hk0, hlen, hcur, hall, hB2⟩ := hrel
    by_cases hlt : k < n
    · have hlt' : (k : Int) < (n : Int) := by omega
      have hk0' : 0 < k := by omega
      have p1 : (0 : Int) ≤ (k : Int) := by omega
      have p2 : (k : Int) ≤ (n : Int) := by omega
      have hB3 : Hid (Below w.heap.size w wr.drew) := below_drewN hB2.out 1
      have hcur3 : Hid (wr.drew.heap[w.heap.size]? = some (.cells cur.toArray 3 (0, 0))) := hcur
      obtain ⟨m, hm⟩ : ∃ m, Nat.min k (n - k) = m := ⟨_, rfl⟩
      have hm1 : k + m ≤ n ∧ m ≤ k ∧ 1 ≤ m := by have h1 : m ≤ k := hm ▸ Nat.min_le_left k (n - k); have h2 : m ≤ n - k := hm ▸ Nat.min_le_right k (n - k); have h3 : 1 ≤ m := hm ▸ Nat.le_min.2 ⟨by omega, by omega⟩; omega
      have hS := splice_same (cur := cur) (k := k) (m := m) (v := .int .i64 x) hlen hall.out hm1.1
      have ew1 : IntKind.i64.wrap ((k : Int) + (m : Int)) = ((k : Int) + (m : Int)) := i64_in _ (by omega)
      have hkm : Hid (0 < n → 1 ≤ k + m) := fun _ => by omega
      have hms : Hid (n - (k + m) < n - k) := by unfold Hid; omega
      replace hS := hide hS
      replace hm := hide hm
      go_wp2_with fail
      have hnk : ¬ n = k := by omega
      go_region_law (go_loud (refine copy_same_step rfl _ _ rfl w.heap.size k n m x cur wr.drew w (by simp [Act.eval, Act.put]) (by simp [Act.eval, Act.put]) hcur3.out hlen hall.out hm.out ⟨hm1.1, hm1.2.1⟩ hB3.out ?_); intro w2 hc2 hb2; replace hb2 := hide hb2)
      go_wp2
      try rw [List.length_replicate]
      go_roundw
      case rel => first | exact ⟨k + m, splice cur k (List.replicate m (.int .i64 x)), by go_num, hm1.1, hkm.out, hS.out.1, hc2, hS.out.2, hb2⟩ | ((repeat apply Exists.intro); refine ⟨?_, rfl⟩; exact ⟨k + m, splice cur k (List.replicate m (.int .i64 x)), by go_num, hm1.1, hkm.out, hS.out.1, hc2, hS.out.2, hb2⟩)
      case measure => first | (simp [intOf]; done) | exact hms.out | (have := hms.out; simp [intOf]; omega)
    · have hqm : k = n := by omega
      subst hqm
      go_wp2
      go_ret
      exact ⟨_, _, rfl, form_own cur hcur.out (Nat.le_refl _) hlen (by unfold maxLen; omega) (all_same hlen hall.out), hB2.out⟩
end Go.Proofs.Ytaoacpikmpoodaa
