/- The reference's way to put a number to its place (l1Put) and to make the list of the different numbers (l3Different); for slices of at most 2^20 numbers. -/
import Derived.Test.YtkimbgehnhcmaaaGreatDoorRiseP
import Derived.Test.YtkimbgehnhcmaaaGreatDoorAppend
import Derived.Maps.AppendAt
import Derived.Deep.RegionLaw
namespace Go.Proofs.YtkimbgehnhcmaaaGreatDoor
open Go.RowKit

set_option maxRecDepth 100000 in
theorem run_append_ints (base : Nat) (A : Option Addr) (n c : Nat) (xs : List Int) (A2 : Option Addr) (m c2 : Nat) (ys : List Int) (ty : TypeId) (w : World)
    (hown : OwnI w base A n c xs) (hr : RdI w A2 m ys) (hn : n + m ≤ 1048576) (hbase : base ≤ w.heap.size) :
    ∃ A' c' w', (Builtin.append_ #[22, 22] ty #[.slice A n c, .slice A2 m c2]).run Tryz.prog w = .ok (.slice A' (n + m) c') w' ∧ OwnI w' base A' (n + m) c' (xs ++ ys) ∧ Below base w w' ∧ w.grownBy w' (A.map (·.block)) ∧ (∀ a', A' = some a' → A.map (·.block) = some a'.block ∨ w.heap.size ≤ a'.block) := by
  obtain ⟨i0, hi, hz0, hz1, hz2⟩ := info_parts info_int
  have hA : (Value.slice A n c).ownBlock = A.map (·.block) := by cases A <;> rfl
  cases A2 with
  | none =>
    have hm : m = 0 := by
      rcases Nat.eq_zero_or_pos m with h0 | h0
      · exact h0
      · obtain ⟨b, off, e, _⟩ := hr.2 h0
        cases e
    subst hm
    have hy : ys = [] := List.length_eq_zero_iff.1 hr.1
    subst hy
    exact ⟨A, c, w, run_append_nothing A n c c2 _ w hown.room, by simpa using hown, Below.refl _ _, ⟨rfl, rfl, rfl, Nat.le_refl _, fun k _ _ => rfl⟩, fun a' e => .inl (by rw [e]; rfl)⟩
  | some ad =>
    obtain ⟨v', w', h1, h2, h3, _, h5⟩ := run_append_own_at (P := Tryz.prog) w base 22 ty 3 i0 (.int .i64 0) 1 8 Tryz.underlying22 hi hz0 hz1 hz2 rfl (by decide) _ n (xs.map (Value.int .i64)) hown ad m c2 (ys.map (Value.int .i64)) (by simp [hr.1]) (by
      intro j u hj
      have hjm : j < m := by
        rw [← hr.1]
        rcases Nat.lt_or_ge j ys.length with h1 | h1
        · exact h1
        · rw [List.getElem?_eq_none (by simpa using h1)] at hj; cases hj
      obtain ⟨b, off, e, _, hc⟩ := hr.2 (by omega)
      injection e with e
      subst e
      rw [getD_map (by rw [hr.1]; exact hjm)] at hj
      injection hj with hj
      rw [← hj]
      simpa [Addr.add_lit] using hc j hjm) (by
      intro u hu
      obtain ⟨y, _, rfl⟩ := List.mem_map.1 hu
      simp [Value.oneCell']) (by unfold maxLen; omega) (by omega) hbase
    rw [← List.map_append] at h2
    obtain ⟨A', c', rfl, hO⟩ := own_form h2
    rw [hA] at h3 h5
    have hA' : (Value.slice A' (n + m) c').ownBlock = A'.map (·.block) := by cases A' <;> rfl
    rw [hA'] at h5
    refine ⟨A', c', w', h1, hO, ⟨h3.os, h3.tape, h3.output, h3.size, fun k hk => h3.block k (by omega) ?_⟩, h3, fun a' e => ?_⟩
    · cases A with
      | none => simp
      | some a => have := (hown.lt a rfl).1; simp; omega
    · subst e
      rcases h5 with h | h
      · left; rw [← h]; rfl
      · right
        have : a'.block = w.heap.size := by simpa using h
        omega
/-- append(out, ys...) at a step of a region that draws its order. -/
theorem step_append_ints {ops : Array Oper} {o : Oper} {a : Act} {K : Act → World → Prop} {Q : Exit → Act → World → Prop} {E : Prop} (hgd : o.guard = none) (s x : Operand)
    (ho : o.op = .call { callee := .builtin .append, args := #[s, x], argTypes := #[22, 22] }) (base : Nat) (A : Option Addr) (n c : Nat) (xs : List Int) (A2 : Option Addr) (m c2 : Nat) (ys : List Int) (w : World)
    (hs : a.eval s = .slice A n c) (hx : a.eval x = .slice A2 m c2) (hown : OwnI w base A n c xs) (hr : RdI w A2 m ys) (hn : n + m ≤ 1048576) (hbase : base ≤ w.heap.size)
    (h : ∀ A' c' w', OwnI w' base A' (n + m) c' (xs ++ ys) → Below base w w' → w.grownBy w' (A.map (·.block)) → (∀ a', A' = some a' → A.map (·.block) = some a'.block ∨ w.heap.size ≤ a'.block) → K (a.put o.dst (.slice A' (n + m) c')) w') :
    if Region.wanted o (yielded ops a.tmps) = true then Oper.wp Tryz.prog o a w K Q else E := by
  have hw : Region.wanted o (yielded ops a.tmps) = true := by simp [Region.wanted, hgd]
  rw [if_pos hw]
  obtain ⟨A', c', w', h1, h2, h3, h4, h5⟩ := run_append_ints base A n c xs A2 m c2 ys o.type w hown hr hn hbase
  unfold Oper.wp execOp
  simp only [ho, resolve, invoke, builtin, Sem.run_bind, Sem.run_pure, Result.andThen_ok, List.map_toArray, List.map_cons, List.map_nil, hs, hx, h1]
  exact h A' c' w' h2 h3 h4 h5
theorem rd_one (w : World) (x : Int) : RdI (w.alloc (.cells #[.int .i64 x] 3)) (some ⟨w.heap.size, 0, none⟩) 1 [x] := by
  refine ⟨rfl, fun _ => ⟨w.heap.size, 0, rfl, by simp, fun j hj => ?_⟩⟩
  have : j = 0 := by omega
  subst this
  go_simp
theorem RdI.kept {w w' : World} {A A2 : Option Addr} {n : Nat} {xs : List Int} (h : RdI w A2 n xs) (hm : w.grownBy w' (A.map (·.block))) (hs : ∀ a, A2 = some a → A.map (·.block) ≠ some a.block) : RdI w' A2 n xs :=
  ⟨h.1, fun hn => by
    obtain ⟨b, off, rfl, hlt, hc⟩ := h.2 hn
    refine ⟨b, off, rfl, Nat.lt_of_lt_of_le hlt hm.size, fun j hj => ?_⟩
    rw [← hc j hj]
    unfold World.cell?
    rw [hm.block b hlt (fun e => hs _ rfl e.symm)]⟩
theorem RdI.at_below {w w' : World} {B : Nat} {A : Option Addr} {n : Nat} {xs : List Int} (h : RdI w A n xs) (hb : Below B w w') (hB : ∀ a, A = some a → a.block < B) : RdI w' A n xs :=
  ⟨h.1, fun hn => by
    obtain ⟨b, off, rfl, hlt, hc⟩ := h.2 hn
    exact ⟨b, off, rfl, Nat.lt_of_lt_of_le hlt hb.size, fun j hj => (hb.cell (p := ⟨b, off + j, none⟩) (hB ⟨b, off, none⟩ rfl)).trans (hc j hj)⟩⟩
theorem RdI.take {w : World} {A : Option Addr} {n : Nat} {xs : List Int} (h : RdI w A n xs) (k : Nat) (hk : k ≤ n) : RdI w A k (xs.take k) :=
  ⟨by simp [h.1]; omega, fun hk0 => by
    obtain ⟨b, off, rfl, hlt, hc⟩ := h.2 (by omega)
    refine ⟨b, off, rfl, hlt, fun j hj => ?_⟩
    rw [hc j (by omega)]
    simp [List.getD_eq_getElem?_getD, hj]⟩
theorem RdI.drop {w : World} {b off n : Nat} {xs : List Int} (h : RdI w (some ⟨b, off, none⟩) n xs) (k : Nat) (hk : k ≤ n) : RdI w (some ⟨b, off + k, none⟩) (n - k) (xs.drop k) :=
  ⟨by simp [h.1], fun hk0 => by
    obtain ⟨b', off', e, hlt, hc⟩ := h.2 (by omega)
    injection e with e
    injection e with e1 e2
    subst e1 e2
    refine ⟨b, off + k, rfl, hlt, fun j hj => ?_⟩
    have := hc (k + j) (by omega)
    rw [Nat.add_assoc, this]
    simp [List.getD_eq_getElem?_getD]⟩

set_option maxHeartbeats 3200000 in
theorem l1Put_lies (A : Option Addr) (n c base : Nat) (xs : List Int) (v : Int) (w : World) (ho : OwnI w base A n c xs) (hbase : base ≤ w.heap.size) (hn : n ≤ 1048575) :
    Calls Tryz.prog 49 #[.slice A n c, .int .i64 v] w fun e w' => ∃ A' m c', e = .returned (.slice A' m c') ∧ OwnI w' base A' m c' (putL xs v) ∧ Below w.heap.size w w' ∧ (A' = A ∨ OwnI w' w.heap.size A' m c' (putL xs v)) := by
  have hlen := hide ho.len
  have HO := hide ho
  have HR := hide ho.rd
  have hroom := ho.room
  clear ho
  go_enter Tryz.func49, Tryz.ntmps49
  go_wp2_with fail
  go_loop [5] (fun i => ∃ k : Nat, k ≤ n ∧ i = .int .i64 k ∧ Hid (∀ j, j < k → xs.getD j 0 < v)) (fun i => n - (intOf i).toNat)
  case atStart => exact ⟨0, Nat.zero_le _, rfl, fun j hj => absurd hj (Nat.not_lt_zero _)⟩
  case round =>
    obtain ⟨k, hk, rfl, HA⟩ := hrel
    have hk0 : (0 : Int) ≤ (k : Int) := by omega
    by_cases hlt : k < n
    · have hlt' : (k : Int) < (n : Int) := by omega
      obtain ⟨b, off, rfl, hbb, hc⟩ := (HR.out).at_ hlt
      obtain ⟨x, hx⟩ : ∃ x, Hid (xs.getD k 0 = x) := ⟨_, rfl⟩
      rw [hx.out] at hc
      by_cases hxv : x < v
      · have HA2 : Hid (∀ j, j < k + 1 → xs.getD j 0 < v) := fun j hj => by
          by_cases e : j < k
          · exact HA.out j e
          · have : j = k := by omega
            subst this
            rw [hx.out]
            exact hxv
        go_wp2
        go_round
        case rel => first | exact ⟨k + 1, by omega, by go_num, HA2⟩ | ((repeat apply Exists.intro); refine ⟨?_, rfl⟩; exact ⟨k + 1, by omega, by go_num, HA2⟩)
        case measure => first | (simp [intOf]; done) | (simp [intOf]; omega)
      · have HL : Hid (lowI xs v = k) := lowI_is xs v k (by rw [hlen.out]; exact hk) HA.out (fun _ => by rw [hx.out]; exact hxv)
        by_cases hxe : x = v
        · have HP : Hid (putL xs v = xs) := by
            unfold putL Hid
            rw [HL.out, if_pos ⟨by rw [hlen.out]; exact hlt, by rw [hx.out]; exact hxe⟩]
          have hq : (x == v) = true := by simpa using hxe
          clear hxe
          go_wp2
          go_ret
          exact ⟨_, n, c, rfl, by rw [HP.out]; exact HO.out, Below.refl _ _, .inl rfl⟩
        · have HP : Hid (putL xs v = xs.take k ++ (v :: xs.drop k)) := by
            unfold putL Hid
            rw [HL.out, if_neg (fun h => hxe (by rw [← hx.out]; exact h.2))]
          have hq : (x == v) = false := by simpa using hxe
          clear hxe
          have HR3 := hide (RdI.drop HR.out k hk)
          have hkc : k ≤ c := by omega
          have hkne : ¬ c = k := by omega
          have hkn' : (k : Int) ≤ (n : Int) := by omega
          have hkc' : (k : Int) ≤ (c : Int) := by omega
          have HR0 := hide (RdI.take HR.out k hk)
          have HW1 : Hid (Below w.heap.size w (w.alloc (.cells #[] 3)).drew) := ((Below.refl _ _).alloc (Nat.le_refl _) _).drew
          have HW2 : Hid (Below w.heap.size w ((w.alloc (.cells #[] 3)).alloc (.cells #[.int .i64 v] 3)).drew) := (((Below.refl _ _).alloc (Nat.le_refl _) _).alloc (by simp) _).drew
          have HW3 : Hid (Below w.heap.size w ((w.alloc (.cells #[.int .i64 v] 3)).alloc (.cells #[] 3)).drew) := (((Below.refl _ _).alloc (Nat.le_refl _) _).alloc (by simp) _).drew
          have HA1 : Hid (OwnI (w.alloc (.cells #[] 3)).drew w.heap.size (some ⟨w.heap.size, 0, none⟩) 0 0 []) := own_empty w w.heap.size (Nat.le_refl _) #[] rfl
          have HA2 : Hid (OwnI ((w.alloc (.cells #[] 3)).alloc (.cells #[.int .i64 v] 3)).drew w.heap.size (some ⟨w.heap.size, 0, none⟩) 0 0 []) := by
            have := OwnI.below (w := w.alloc (.cells #[] 3)) HA1.out ((Below.refl _ _).alloc (Nat.le_refl _) (.cells #[.int .i64 v] 3))
            exact this
          have HA3 : Hid (OwnI ((w.alloc (.cells #[.int .i64 v] 3)).alloc (.cells #[] 3)).drew w.heap.size (some ⟨w.heap.size + 1, 0, none⟩) 0 0 []) := by
            have := own_empty (w.alloc (.cells #[.int .i64 v] 3)) w.heap.size (by simp) #[] rfl
            rw [World.size_alloc] at this
            exact this
          have HN2 : Hid (RdI ((w.alloc (.cells #[] 3)).alloc (.cells #[.int .i64 v] 3)).drew (some ⟨w.heap.size + 1, 0, none⟩) 1 [v]) := by
            have := rd_one (w.alloc (.cells #[] 3)) v
            rw [World.size_alloc] at this
            exact this
          have HN3 : Hid (RdI ((w.alloc (.cells #[.int .i64 v] 3)).alloc (.cells #[] 3)).drew (some ⟨w.heap.size, 0, none⟩) 1 [v]) := by
            have := (rd_one w v).below ((Below.refl _ _).alloc (Nat.le_refl _) (.cells #[] 3))
            exact this
          go_wp2_with fail
          go_region_law (first
            | (refine step_append_ints rfl (.tmp 33) (.tmp 36) rfl w.heap.size (some ⟨w.heap.size, 0, none⟩) 0 0 [] (some ⟨b, off, none⟩) k c (xs.take k) ((w.alloc (.cells #[] 3)).drew) (by simp [Act.eval]) (by simp [Act.eval]) HA1.out (HR0.out.below HW1.out) (by omega) (by simp) ?_; intro A1 c1 w1 ho hb hg hl; have HO1 : Hid (OwnI w1 w.heap.size A1 k c1 (xs.take k)) := (by rw [Nat.zero_add] at ho; exact ho); have HB1 := hide (HW1.out.trans hb); clear ho hb hg hl)
            | (refine step_append_ints rfl (.tmp 33) (.tmp 36) rfl w.heap.size (some ⟨w.heap.size, 0, none⟩) 0 0 [] (some ⟨b, off, none⟩) k c (xs.take k) (((w.alloc (.cells #[] 3)).alloc (.cells #[.int .i64 v] 3)).drew) (by simp [Act.eval]) (by simp [Act.eval]) HA2.out (HR0.out.below HW2.out) (by omega) (by first | (simp; done) | (simp; omega)) ?_; intro A1 c1 w1 ho hb hg hl; have HO1 : Hid (OwnI w1 w.heap.size A1 k c1 (xs.take k)) := (by rw [Nat.zero_add] at ho; exact ho); have HN := hide (RdI.kept HN2.out hg (by intro a ea; injection ea with ea; subst ea; simp)); have HB1 := hide (HW2.out.trans hb); clear ho hb hg hl)
            | (refine step_append_ints rfl (.tmp 33) (.tmp 36) rfl w.heap.size (some ⟨w.heap.size + 1, 0, none⟩) 0 0 [] (some ⟨b, off, none⟩) k c (xs.take k) (((w.alloc (.cells #[.int .i64 v] 3)).alloc (.cells #[] 3)).drew) (by simp [Act.eval]) (by simp [Act.eval]) HA3.out (HR0.out.below HW3.out) (by omega) (by first | (simp; done) | (simp; omega)) ?_; intro A1 c1 w1 ho hb hg hl; have HO1 : Hid (OwnI w1 w.heap.size A1 k c1 (xs.take k)) := (by rw [Nat.zero_add] at ho; exact ho); have HN := hide (RdI.kept HN3.out hg (by intro a ea; injection ea with ea; subst ea; simp)); have HB1 := hide (HW3.out.trans hb); clear ho hb hg hl)
            | (refine step_append_ints rfl (.tmp 37) (.tmp 39) rfl w.heap.size A1 k c1 (xs.take k) (some ⟨w1.heap.size, 0, none⟩) 1 1 [v] (w1.alloc (.cells #[.int .i64 v] 3)) (by simp [Act.eval]) (by simp [Act.eval]) (OwnI.below HO1.out ((Below.refl _ _).alloc (Nat.le_refl _) _)) (rd_one w1 v) (by omega) (by have := HB1.out.size; first | (simp; done) | (simp; omega)) ?_; intro A2 c2 w2 ho hb hg hl; have HO2 := hide ho; have HB2 := hide ((HB1.out.alloc HB1.out.size _).trans hb); clear ho hb hg hl)
            | (refine step_append_ints rfl (.tmp 37) (.tmp 39) rfl w.heap.size A1 k c1 (xs.take k) (some ⟨w.heap.size + 1, 0, none⟩) 1 1 [v] w1 (by simp [Act.eval]) (by simp [Act.eval]) HO1.out HN.out (by omega) HB1.out.size ?_; intro A2 c2 w2 ho hb hg hl; have HO2 := hide ho; have HB2 := hide (HB1.out.trans hb); clear ho hb hg hl)
            | (refine step_append_ints rfl (.tmp 37) (.tmp 39) rfl w.heap.size A1 k c1 (xs.take k) (some ⟨w.heap.size, 0, none⟩) 1 1 [v] w1 (by simp [Act.eval]) (by simp [Act.eval]) HO1.out HN.out (by omega) HB1.out.size ?_; intro A2 c2 w2 ho hb hg hl; have HO2 := hide ho; have HB2 := hide (HB1.out.trans hb); clear ho hb hg hl)
            | (refine step_append_ints rfl (.tmp 40) (.tmp 43) rfl w.heap.size A2 (k + 1) c2 (xs.take k ++ [v]) (some ⟨b, off + k, none⟩) (n - k) (c - k) (xs.drop k) w2 (by simp [Act.eval]) (by simp [Act.eval]) HO2.out (HR3.out.below HB2.out) (by omega) HB2.out.size ?_; intro A4 c4 w4 ho hb hg hl; have HO4 := hide ho; have HB4 := hide (HB2.out.trans hb); clear ho hb hg hl))
          all_goals
            go_wp2
            go_ret
            exact ⟨A4, _, c4, rfl, by have := HO4.out.more hbase; rw [HP.out]; simpa using this, HB4.out, .inr (by have := HO4.out; rw [HP.out]; simpa using this)⟩
    · have hkn : k = n := by omega
      subst hkn
      have HL : Hid (lowI xs v = k) := lowI_is xs v k (by rw [hlen.out]; exact Nat.le_refl _) HA.out (fun h => absurd h (by rw [hlen.out]; omega))
      have HP : Hid (putL xs v = xs.take k ++ (v :: xs.drop k)) := by
        unfold putL Hid
        rw [HL.out, if_neg (fun h => absurd h.1 (by rw [hlen.out]; omega))]
      have hd : decide ((k : Int) < (k : Int)) = false := by simp
      have HR3 : ∀ A' : Option Addr, Hid (RdI w A' 0 (xs.drop k)) := fun A' => by
        rw [List.drop_of_length_le (by rw [hlen.out]; exact Nat.le_refl _)]
        exact RdI.nil _ _
      have hk2 : (k : Int) ≤ (k : Int) := by omega
      have hkc : k ≤ c := by omega
      have hkc' : (k : Int) ≤ (c : Int) := by omega
      rcases HO.out.2 with ⟨e1, e2⟩ | ⟨g, cap, cur, e1, _⟩
      · injection e1 with e3 e4 e5
        subst e3 e4 e5
        clear e2
        replace HR3 := HR3 none
        have HR0 := hide (RdI.take HR.out 0 hk)
        have HW1 : Hid (Below w.heap.size w (w.alloc (.cells #[] 3)).drew) := ((Below.refl _ _).alloc (Nat.le_refl _) _).drew
        have HW2 : Hid (Below w.heap.size w ((w.alloc (.cells #[] 3)).alloc (.cells #[.int .i64 v] 3)).drew) := (((Below.refl _ _).alloc (Nat.le_refl _) _).alloc (by simp) _).drew
        have HW3 : Hid (Below w.heap.size w ((w.alloc (.cells #[.int .i64 v] 3)).alloc (.cells #[] 3)).drew) := (((Below.refl _ _).alloc (Nat.le_refl _) _).alloc (by simp) _).drew
        have HA1 : Hid (OwnI (w.alloc (.cells #[] 3)).drew w.heap.size (some ⟨w.heap.size, 0, none⟩) 0 0 []) := own_empty w w.heap.size (Nat.le_refl _) #[] rfl
        have HA2 : Hid (OwnI ((w.alloc (.cells #[] 3)).alloc (.cells #[.int .i64 v] 3)).drew w.heap.size (some ⟨w.heap.size, 0, none⟩) 0 0 []) := by
          have := OwnI.below (w := w.alloc (.cells #[] 3)) HA1.out ((Below.refl _ _).alloc (Nat.le_refl _) (.cells #[.int .i64 v] 3))
          exact this
        have HA3 : Hid (OwnI ((w.alloc (.cells #[.int .i64 v] 3)).alloc (.cells #[] 3)).drew w.heap.size (some ⟨w.heap.size + 1, 0, none⟩) 0 0 []) := by
          have := own_empty (w.alloc (.cells #[.int .i64 v] 3)) w.heap.size (by simp) #[] rfl
          rw [World.size_alloc] at this
          exact this
        have HN2 : Hid (RdI ((w.alloc (.cells #[] 3)).alloc (.cells #[.int .i64 v] 3)).drew (some ⟨w.heap.size + 1, 0, none⟩) 1 [v]) := by
          have := rd_one (w.alloc (.cells #[] 3)) v
          rw [World.size_alloc] at this
          exact this
        have HN3 : Hid (RdI ((w.alloc (.cells #[.int .i64 v] 3)).alloc (.cells #[] 3)).drew (some ⟨w.heap.size, 0, none⟩) 1 [v]) := by
          have := (rd_one w v).below ((Below.refl _ _).alloc (Nat.le_refl _) (.cells #[] 3))
          exact this
        go_wp2_with fail
        go_region_law (first
          | (refine step_append_ints rfl (.tmp 33) (.tmp 36) rfl w.heap.size (some ⟨w.heap.size, 0, none⟩) 0 0 [] none 0 0 (xs.take 0) ((w.alloc (.cells #[] 3)).drew) (by simp [Act.eval]) (by simp [Act.eval]) HA1.out (HR0.out.below HW1.out) (by omega) (by simp) ?_; intro A1 c1 w1 ho hb hg hl; have HO1 : Hid (OwnI w1 w.heap.size A1 0 c1 (xs.take 0)) := (by rw [Nat.zero_add] at ho; exact ho); have HB1 := hide (HW1.out.trans hb); clear ho hb hg hl)
          | (refine step_append_ints rfl (.tmp 33) (.tmp 36) rfl w.heap.size (some ⟨w.heap.size, 0, none⟩) 0 0 [] none 0 0 (xs.take 0) (((w.alloc (.cells #[] 3)).alloc (.cells #[.int .i64 v] 3)).drew) (by simp [Act.eval]) (by simp [Act.eval]) HA2.out (HR0.out.below HW2.out) (by omega) (by first | (simp; done) | (simp; omega)) ?_; intro A1 c1 w1 ho hb hg hl; have HO1 : Hid (OwnI w1 w.heap.size A1 0 c1 (xs.take 0)) := (by rw [Nat.zero_add] at ho; exact ho); have HN := hide (RdI.kept HN2.out hg (by intro a ea; injection ea with ea; subst ea; simp)); have HB1 := hide (HW2.out.trans hb); clear ho hb hg hl)
          | (refine step_append_ints rfl (.tmp 33) (.tmp 36) rfl w.heap.size (some ⟨w.heap.size + 1, 0, none⟩) 0 0 [] none 0 0 (xs.take 0) (((w.alloc (.cells #[.int .i64 v] 3)).alloc (.cells #[] 3)).drew) (by simp [Act.eval]) (by simp [Act.eval]) HA3.out (HR0.out.below HW3.out) (by omega) (by first | (simp; done) | (simp; omega)) ?_; intro A1 c1 w1 ho hb hg hl; have HO1 : Hid (OwnI w1 w.heap.size A1 0 c1 (xs.take 0)) := (by rw [Nat.zero_add] at ho; exact ho); have HN := hide (RdI.kept HN3.out hg (by intro a ea; injection ea with ea; subst ea; simp)); have HB1 := hide (HW3.out.trans hb); clear ho hb hg hl)
          | (refine step_append_ints rfl (.tmp 37) (.tmp 39) rfl w.heap.size A1 0 c1 (xs.take 0) (some ⟨w1.heap.size, 0, none⟩) 1 1 [v] (w1.alloc (.cells #[.int .i64 v] 3)) (by simp [Act.eval]) (by simp [Act.eval]) (OwnI.below HO1.out ((Below.refl _ _).alloc (Nat.le_refl _) _)) (rd_one w1 v) (by omega) (by have := HB1.out.size; first | (simp; done) | (simp; omega)) ?_; intro A2 c2 w2 ho hb hg hl; have HO2 := hide ho; have HB2 := hide ((HB1.out.alloc HB1.out.size _).trans hb); clear ho hb hg hl)
          | (refine step_append_ints rfl (.tmp 37) (.tmp 39) rfl w.heap.size A1 0 c1 (xs.take 0) (some ⟨w.heap.size + 1, 0, none⟩) 1 1 [v] w1 (by simp [Act.eval]) (by simp [Act.eval]) HO1.out HN.out (by omega) HB1.out.size ?_; intro A2 c2 w2 ho hb hg hl; have HO2 := hide ho; have HB2 := hide (HB1.out.trans hb); clear ho hb hg hl)
          | (refine step_append_ints rfl (.tmp 37) (.tmp 39) rfl w.heap.size A1 0 c1 (xs.take 0) (some ⟨w.heap.size, 0, none⟩) 1 1 [v] w1 (by simp [Act.eval]) (by simp [Act.eval]) HO1.out HN.out (by omega) HB1.out.size ?_; intro A2 c2 w2 ho hb hg hl; have HO2 := hide ho; have HB2 := hide (HB1.out.trans hb); clear ho hb hg hl)
          | (refine step_append_ints rfl (.tmp 40) (.tmp 43) rfl w.heap.size A2 (0 + 1) c2 (xs.take 0 ++ [v]) none 0 0 (xs.drop 0) w2 (by simp [Act.eval]) (by simp [Act.eval]) HO2.out (HR3.out.below HB2.out) (by omega) HB2.out.size ?_; intro A4 c4 w4 ho hb hg hl; have HO4 := hide ho; have HB4 := hide (HB2.out.trans hb); clear ho hb hg hl))
        all_goals
          go_wp2
          go_ret
          exact ⟨A4, _, c4, rfl, by have := HO4.out.more hbase; rw [HP.out]; simpa using this, HB4.out, .inr (by have := HO4.out; rw [HP.out]; simpa using this)⟩
      · injection e1 with e3 e4 e5
        subst e3 e5
        by_cases hck : c = k
        · subst hck
          replace HR3 := HR3 (some ⟨g, 0, none⟩)
          have HR0 := hide (RdI.take HR.out c hk)
          have HW1 : Hid (Below w.heap.size w (w.alloc (.cells #[] 3)).drew) := ((Below.refl _ _).alloc (Nat.le_refl _) _).drew
          have HW2 : Hid (Below w.heap.size w ((w.alloc (.cells #[] 3)).alloc (.cells #[.int .i64 v] 3)).drew) := (((Below.refl _ _).alloc (Nat.le_refl _) _).alloc (by simp) _).drew
          have HW3 : Hid (Below w.heap.size w ((w.alloc (.cells #[.int .i64 v] 3)).alloc (.cells #[] 3)).drew) := (((Below.refl _ _).alloc (Nat.le_refl _) _).alloc (by simp) _).drew
          have HA1 : Hid (OwnI (w.alloc (.cells #[] 3)).drew w.heap.size (some ⟨w.heap.size, 0, none⟩) 0 0 []) := own_empty w w.heap.size (Nat.le_refl _) #[] rfl
          have HA2 : Hid (OwnI ((w.alloc (.cells #[] 3)).alloc (.cells #[.int .i64 v] 3)).drew w.heap.size (some ⟨w.heap.size, 0, none⟩) 0 0 []) := by
            have := OwnI.below (w := w.alloc (.cells #[] 3)) HA1.out ((Below.refl _ _).alloc (Nat.le_refl _) (.cells #[.int .i64 v] 3))
            exact this
          have HA3 : Hid (OwnI ((w.alloc (.cells #[.int .i64 v] 3)).alloc (.cells #[] 3)).drew w.heap.size (some ⟨w.heap.size + 1, 0, none⟩) 0 0 []) := by
            have := own_empty (w.alloc (.cells #[.int .i64 v] 3)) w.heap.size (by simp) #[] rfl
            rw [World.size_alloc] at this
            exact this
          have HN2 : Hid (RdI ((w.alloc (.cells #[] 3)).alloc (.cells #[.int .i64 v] 3)).drew (some ⟨w.heap.size + 1, 0, none⟩) 1 [v]) := by
            have := rd_one (w.alloc (.cells #[] 3)) v
            rw [World.size_alloc] at this
            exact this
          have HN3 : Hid (RdI ((w.alloc (.cells #[.int .i64 v] 3)).alloc (.cells #[] 3)).drew (some ⟨w.heap.size, 0, none⟩) 1 [v]) := by
            have := (rd_one w v).below ((Below.refl _ _).alloc (Nat.le_refl _) (.cells #[] 3))
            exact this
          go_wp2_with fail
          go_region_law (first
            | (refine step_append_ints rfl (.tmp 33) (.tmp 36) rfl w.heap.size (some ⟨w.heap.size, 0, none⟩) 0 0 [] (some ⟨g, 0, none⟩) c c (xs.take c) ((w.alloc (.cells #[] 3)).drew) (by simp [Act.eval]) (by simp [Act.eval]) HA1.out (HR0.out.below HW1.out) (by omega) (by simp) ?_; intro A1 c1 w1 ho hb hg hl; have HO1 : Hid (OwnI w1 w.heap.size A1 c c1 (xs.take c)) := (by rw [Nat.zero_add] at ho; exact ho); have HB1 := hide (HW1.out.trans hb); clear ho hb hg hl)
            | (refine step_append_ints rfl (.tmp 33) (.tmp 36) rfl w.heap.size (some ⟨w.heap.size, 0, none⟩) 0 0 [] (some ⟨g, 0, none⟩) c c (xs.take c) (((w.alloc (.cells #[] 3)).alloc (.cells #[.int .i64 v] 3)).drew) (by simp [Act.eval]) (by simp [Act.eval]) HA2.out (HR0.out.below HW2.out) (by omega) (by first | (simp; done) | (simp; omega)) ?_; intro A1 c1 w1 ho hb hg hl; have HO1 : Hid (OwnI w1 w.heap.size A1 c c1 (xs.take c)) := (by rw [Nat.zero_add] at ho; exact ho); have HN := hide (RdI.kept HN2.out hg (by intro a ea; injection ea with ea; subst ea; simp)); have HB1 := hide (HW2.out.trans hb); clear ho hb hg hl)
            | (refine step_append_ints rfl (.tmp 33) (.tmp 36) rfl w.heap.size (some ⟨w.heap.size + 1, 0, none⟩) 0 0 [] (some ⟨g, 0, none⟩) c c (xs.take c) (((w.alloc (.cells #[.int .i64 v] 3)).alloc (.cells #[] 3)).drew) (by simp [Act.eval]) (by simp [Act.eval]) HA3.out (HR0.out.below HW3.out) (by omega) (by first | (simp; done) | (simp; omega)) ?_; intro A1 c1 w1 ho hb hg hl; have HO1 : Hid (OwnI w1 w.heap.size A1 c c1 (xs.take c)) := (by rw [Nat.zero_add] at ho; exact ho); have HN := hide (RdI.kept HN3.out hg (by intro a ea; injection ea with ea; subst ea; simp)); have HB1 := hide (HW3.out.trans hb); clear ho hb hg hl)
            | (refine step_append_ints rfl (.tmp 37) (.tmp 39) rfl w.heap.size A1 c c1 (xs.take c) (some ⟨w1.heap.size, 0, none⟩) 1 1 [v] (w1.alloc (.cells #[.int .i64 v] 3)) (by simp [Act.eval]) (by simp [Act.eval]) (OwnI.below HO1.out ((Below.refl _ _).alloc (Nat.le_refl _) _)) (rd_one w1 v) (by omega) (by have := HB1.out.size; first | (simp; done) | (simp; omega)) ?_; intro A2 c2 w2 ho hb hg hl; have HO2 := hide ho; have HB2 := hide ((HB1.out.alloc HB1.out.size _).trans hb); clear ho hb hg hl)
            | (refine step_append_ints rfl (.tmp 37) (.tmp 39) rfl w.heap.size A1 c c1 (xs.take c) (some ⟨w.heap.size + 1, 0, none⟩) 1 1 [v] w1 (by simp [Act.eval]) (by simp [Act.eval]) HO1.out HN.out (by omega) HB1.out.size ?_; intro A2 c2 w2 ho hb hg hl; have HO2 := hide ho; have HB2 := hide (HB1.out.trans hb); clear ho hb hg hl)
            | (refine step_append_ints rfl (.tmp 37) (.tmp 39) rfl w.heap.size A1 c c1 (xs.take c) (some ⟨w.heap.size, 0, none⟩) 1 1 [v] w1 (by simp [Act.eval]) (by simp [Act.eval]) HO1.out HN.out (by omega) HB1.out.size ?_; intro A2 c2 w2 ho hb hg hl; have HO2 := hide ho; have HB2 := hide (HB1.out.trans hb); clear ho hb hg hl)
            | (refine step_append_ints rfl (.tmp 40) (.tmp 43) rfl w.heap.size A2 (c + 1) c2 (xs.take c ++ [v]) (some ⟨g, 0, none⟩) 0 0 (xs.drop c) w2 (by simp [Act.eval]) (by simp [Act.eval]) HO2.out (HR3.out.below HB2.out) (by omega) HB2.out.size ?_; intro A4 c4 w4 ho hb hg hl; have HO4 := hide ho; have HB4 := hide (HB2.out.trans hb); clear ho hb hg hl))
          all_goals
            go_wp2
            go_ret
            exact ⟨A4, _, c4, rfl, by have := HO4.out.more hbase; rw [HP.out]; simpa using this, HB4.out, .inr (by have := HO4.out; rw [HP.out]; simpa using this)⟩
        · replace HR3 := HR3 (some ⟨g, k, none⟩)
          have HR0 := hide (RdI.take HR.out k hk)
          have HW1 : Hid (Below w.heap.size w (w.alloc (.cells #[] 3)).drew) := ((Below.refl _ _).alloc (Nat.le_refl _) _).drew
          have HW2 : Hid (Below w.heap.size w ((w.alloc (.cells #[] 3)).alloc (.cells #[.int .i64 v] 3)).drew) := (((Below.refl _ _).alloc (Nat.le_refl _) _).alloc (by simp) _).drew
          have HW3 : Hid (Below w.heap.size w ((w.alloc (.cells #[.int .i64 v] 3)).alloc (.cells #[] 3)).drew) := (((Below.refl _ _).alloc (Nat.le_refl _) _).alloc (by simp) _).drew
          have HA1 : Hid (OwnI (w.alloc (.cells #[] 3)).drew w.heap.size (some ⟨w.heap.size, 0, none⟩) 0 0 []) := own_empty w w.heap.size (Nat.le_refl _) #[] rfl
          have HA2 : Hid (OwnI ((w.alloc (.cells #[] 3)).alloc (.cells #[.int .i64 v] 3)).drew w.heap.size (some ⟨w.heap.size, 0, none⟩) 0 0 []) := by
            have := OwnI.below (w := w.alloc (.cells #[] 3)) HA1.out ((Below.refl _ _).alloc (Nat.le_refl _) (.cells #[.int .i64 v] 3))
            exact this
          have HA3 : Hid (OwnI ((w.alloc (.cells #[.int .i64 v] 3)).alloc (.cells #[] 3)).drew w.heap.size (some ⟨w.heap.size + 1, 0, none⟩) 0 0 []) := by
            have := own_empty (w.alloc (.cells #[.int .i64 v] 3)) w.heap.size (by simp) #[] rfl
            rw [World.size_alloc] at this
            exact this
          have HN2 : Hid (RdI ((w.alloc (.cells #[] 3)).alloc (.cells #[.int .i64 v] 3)).drew (some ⟨w.heap.size + 1, 0, none⟩) 1 [v]) := by
            have := rd_one (w.alloc (.cells #[] 3)) v
            rw [World.size_alloc] at this
            exact this
          have HN3 : Hid (RdI ((w.alloc (.cells #[.int .i64 v] 3)).alloc (.cells #[] 3)).drew (some ⟨w.heap.size, 0, none⟩) 1 [v]) := by
            have := (rd_one w v).below ((Below.refl _ _).alloc (Nat.le_refl _) (.cells #[] 3))
            exact this
          go_wp2_with fail
          go_region_law (first
            | (refine step_append_ints rfl (.tmp 33) (.tmp 36) rfl w.heap.size (some ⟨w.heap.size, 0, none⟩) 0 0 [] (some ⟨g, 0, none⟩) k c (xs.take k) ((w.alloc (.cells #[] 3)).drew) (by simp [Act.eval]) (by simp [Act.eval]) HA1.out (HR0.out.below HW1.out) (by omega) (by simp) ?_; intro A1 c1 w1 ho hb hg hl; have HO1 : Hid (OwnI w1 w.heap.size A1 k c1 (xs.take k)) := (by rw [Nat.zero_add] at ho; exact ho); have HB1 := hide (HW1.out.trans hb); clear ho hb hg hl)
            | (refine step_append_ints rfl (.tmp 33) (.tmp 36) rfl w.heap.size (some ⟨w.heap.size, 0, none⟩) 0 0 [] (some ⟨g, 0, none⟩) k c (xs.take k) (((w.alloc (.cells #[] 3)).alloc (.cells #[.int .i64 v] 3)).drew) (by simp [Act.eval]) (by simp [Act.eval]) HA2.out (HR0.out.below HW2.out) (by omega) (by first | (simp; done) | (simp; omega)) ?_; intro A1 c1 w1 ho hb hg hl; have HO1 : Hid (OwnI w1 w.heap.size A1 k c1 (xs.take k)) := (by rw [Nat.zero_add] at ho; exact ho); have HN := hide (RdI.kept HN2.out hg (by intro a ea; injection ea with ea; subst ea; simp)); have HB1 := hide (HW2.out.trans hb); clear ho hb hg hl)
            | (refine step_append_ints rfl (.tmp 33) (.tmp 36) rfl w.heap.size (some ⟨w.heap.size + 1, 0, none⟩) 0 0 [] (some ⟨g, 0, none⟩) k c (xs.take k) (((w.alloc (.cells #[.int .i64 v] 3)).alloc (.cells #[] 3)).drew) (by simp [Act.eval]) (by simp [Act.eval]) HA3.out (HR0.out.below HW3.out) (by omega) (by first | (simp; done) | (simp; omega)) ?_; intro A1 c1 w1 ho hb hg hl; have HO1 : Hid (OwnI w1 w.heap.size A1 k c1 (xs.take k)) := (by rw [Nat.zero_add] at ho; exact ho); have HN := hide (RdI.kept HN3.out hg (by intro a ea; injection ea with ea; subst ea; simp)); have HB1 := hide (HW3.out.trans hb); clear ho hb hg hl)
            | (refine step_append_ints rfl (.tmp 37) (.tmp 39) rfl w.heap.size A1 k c1 (xs.take k) (some ⟨w1.heap.size, 0, none⟩) 1 1 [v] (w1.alloc (.cells #[.int .i64 v] 3)) (by simp [Act.eval]) (by simp [Act.eval]) (OwnI.below HO1.out ((Below.refl _ _).alloc (Nat.le_refl _) _)) (rd_one w1 v) (by omega) (by have := HB1.out.size; first | (simp; done) | (simp; omega)) ?_; intro A2 c2 w2 ho hb hg hl; have HO2 := hide ho; have HB2 := hide ((HB1.out.alloc HB1.out.size _).trans hb); clear ho hb hg hl)
            | (refine step_append_ints rfl (.tmp 37) (.tmp 39) rfl w.heap.size A1 k c1 (xs.take k) (some ⟨w.heap.size + 1, 0, none⟩) 1 1 [v] w1 (by simp [Act.eval]) (by simp [Act.eval]) HO1.out HN.out (by omega) HB1.out.size ?_; intro A2 c2 w2 ho hb hg hl; have HO2 := hide ho; have HB2 := hide (HB1.out.trans hb); clear ho hb hg hl)
            | (refine step_append_ints rfl (.tmp 37) (.tmp 39) rfl w.heap.size A1 k c1 (xs.take k) (some ⟨w.heap.size, 0, none⟩) 1 1 [v] w1 (by simp [Act.eval]) (by simp [Act.eval]) HO1.out HN.out (by omega) HB1.out.size ?_; intro A2 c2 w2 ho hb hg hl; have HO2 := hide ho; have HB2 := hide (HB1.out.trans hb); clear ho hb hg hl)
            | (refine step_append_ints rfl (.tmp 40) (.tmp 43) rfl w.heap.size A2 (k + 1) c2 (xs.take k ++ [v]) (some ⟨g, k, none⟩) 0 (c - k) (xs.drop k) w2 (by simp [Act.eval]) (by simp [Act.eval]) HO2.out (HR3.out.below HB2.out) (by omega) HB2.out.size ?_; intro A4 c4 w4 ho hb hg hl; have HO4 := hide ho; have HB4 := hide (HB2.out.trans hb); clear ho hb hg hl))
          all_goals
            go_wp2
            go_ret
            exact ⟨A4, _, c4, rfl, by have := HO4.out.more hbase; rw [HP.out]; simpa using this, HB4.out, .inr (by have := HO4.out; rw [HP.out]; simpa using this)⟩
theorem l1Put_any (A : Option Addr) (n c base : Nat) (xs : List Int) (v : Int) (w : World) (ho : OwnI w base A n c xs) (hbase : base ≤ w.heap.size) (hn : n ≤ 1048575) :
    Calls Tryz.prog 49 #[.slice A n c, .int .i64 v] w fun e w' => ∃ A' m c', e = .returned (.slice A' m c') ∧ OwnI w' base A' m c' (putL xs v) ∧ Below w.heap.size w w' :=
  (l1Put_lies A n c base xs v w ho hbase hn).mono fun _ _ ⟨A', m, c', h1, h2, h3, _⟩ => ⟨A', m, c', h1, h2, h3⟩
end Go.Proofs.YtkimbgehnhcmaaaGreatDoor
