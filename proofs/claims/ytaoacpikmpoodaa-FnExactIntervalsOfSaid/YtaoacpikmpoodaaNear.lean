/- NearRequests: the reference and the program return the same numbers; for numbers of 64 bits. -/
import Derived.Test.YtaoacpikmpoodaaSeed
import Derived.StillTailTactics
import Derived.Deep.AppendLies
import Derived.Deep.RegionLaw
namespace Go.Proofs.Ytaoacpikmpoodaa
open Go.RowKit

/-- append(out, y) at a step of a region that draws its order. -/
theorem append_int_step {ops : Array Oper} {o : Oper} {a : Act} {K : Act → World → Prop} {Q : Exit → Act → World → Prop} {E : Prop} (hgd : o.guard = none) (s x : Operand)
    (ho : o.op = .call { callee := .builtin .append, args := #[s, x], argTypes := #[22, 22] }) (base : Nat) (A : Option Addr) (n c : Nat) (xs : List Int) (y : Int) (w : World)
    (hs : a.eval s = .slice A n c) (hx : a.eval x = .slice (some ⟨w.heap.size, 0, none⟩) 1 1) (hown : OwnI w base A n c xs) (hn : n ≤ 1048576) (hbase : base ≤ w.heap.size)
    (h : ∀ A' c' w', OwnI w' base A' (n + 1) c' (xs ++ [y]) → Below base w w' → K (a.put o.dst (.slice A' (n + 1) c')) w') :
    if Region.wanted o (yielded ops a.tmps) = true then Oper.wp Try.prog o a (w.alloc (.cells #[.int .i64 y] 3)) K Q else E := by
  obtain ⟨i0, hi, hz0, hz1, hz2⟩ := info_parts info_int
  refine step_append_lies (w.alloc (.cells #[.int .i64 y] 3)) hgd s x 22 ho base 3 i0 (.int .i64 0) 1 8 Try.underlying22 hi hz0 hz1 hz2 rfl (by decide) _ n (xs.map (Value.int .i64)) hs (World.ownsRow.alloc hown _) ⟨w.heap.size, 0, none⟩ 1 1 [.int .i64 y] hx rfl ?_ ?_ (by omega) (by unfold maxLen; omega) (by omega) (by simp; omega) _ rfl ?_
  · intro j u hj
    match j, hj with
    | 0, hj =>
      simp at hj
      subst hj
      simp [Addr.add_lit]
  · simp [Value.oneCell']
  · intro g cap w' ho' hg _ _
    rw [show (xs.map (Value.int .i64)) ++ [Value.int .i64 y] = (xs ++ [y]).map (Value.int .i64) by simp] at ho'
    have hg2 : w.grownBy w' (A.map (·.block)) := by
      have hA : (Value.slice A n c).ownBlock = A.map (·.block) := by cases A <;> rfl
      rw [hA] at hg
      exact grownBy_trans (World.grownBy_alloc w _ _) hg
    refine h _ cap w' ho' ⟨hg2.os, hg2.tape, hg2.output, hg2.size, fun k hk => hg2.block k (by omega) ?_⟩
    cases A with
    | none => simp
    | some a => have := (hown.lt a rfl).1; simp; omega
theorem OwnI.pos {w : World} {base : Nat} {A : Option Addr} {n c : Nat} {xs : List Int} (h : OwnI w base A n c xs) (hn : 0 < n) : ∃ g, A = some ⟨g, 0, none⟩ ∧ g < w.heap.size ∧ ∀ j, j < n → w.cell? ⟨g, j, none⟩ = some (.int .i64 (xs.getD j 0)) := by
  rcases h.2 with ⟨_, h0⟩ | ⟨g, cap, cur, hv, hg, hh, r⟩
  · omega
  · have hA : A = some ⟨g, 0, none⟩ := by injection hv
    subst hA
    refine ⟨g, rfl, (Array.getElem?_eq_some_iff.1 hh).1, fun j hj => ?_⟩
    have := World.ownsRow.cells h (g := g) rfl j _ (getD_map (by have := h.len; omega))
    simpa [Addr.add_lit] using this
def lenOf : Value → Nat | .slice _ k _ => k | _ => 0
theorem nearL_snoc (n wd s : Int) (q : Nat) : nearL n wd s (q + 1) = nearL n wd s q ++ [nearAt n wd s q] := by simp [nearL, List.range_succ]
theorem nearL_get (n wd s : Int) (q j : Nat) (h : j < q) : (nearL n wd s q).getD j 0 = nearAt n wd s j := by simp [nearL, List.getD, h]

set_option maxRecDepth 20000 in
set_option maxHeartbeats 3200000 in
theorem spec_NearRequests (n l wd s : Int) (w : World) (_ : -9223372036854775808 ≤ n) (_ : n ≤ 9223372036854775807) (_ : -9223372036854775808 ≤ l) (_ : l ≤ 9223372036854775807) (_ : -9223372036854775808 ≤ wd) (_ : wd ≤ 9223372036854775807) (_ : -9223372036854775808 ≤ s) (_ : s ≤ 9223372036854775807) :
    Calls Try.prog 20 #[.int .i64 n, .int .i64 l, .int .i64 wd, .int .i64 s] w (RetI w (nearRequestsV n l wd s)) := by
  by_cases c0 : 1 ≤ n ∧ n ≤ 8
  · obtain ⟨c00, c01⟩ := c0
    by_cases c1 : 0 ≤ l ∧ l ≤ 60
    · obtain ⟨c10, c11⟩ := c1
      by_cases c2 : 1 ≤ wd ∧ wd ≤ n
      · obtain ⟨c20, c21⟩ := c2
        by_cases c3 : 0 ≤ s ∧ s ≤ 9999
        · obtain ⟨c30, c31⟩ := c3
          obtain ⟨m, rfl⟩ := Int.eq_ofNat_of_zero_le c10
          have HV := hide (show nearRequestsV n m wd s = (nearL n wd s m, true) by simp [nearRequestsV, nearOk, *])
          go_enter Try.func20, Try.ntmps20
          go_wp2_with (first | (go_at_call 53; refine (l1In_yes _ _ _ _ (by omega) (by omega)).mono ?_; rintro e w' ⟨rfl, rfl⟩) | (go_at_call 53; refine (l1In_no _ _ _ _ (by omega)).mono ?_; rintro e w' ⟨rfl, rfl⟩) | go_in)
          go_loopw [10, 11] (fun u t wr => ∃ (q : Nat) (A : Option Addr) (c : Nat), q ≤ m ∧ t = .int .i64 (stAt s q) ∧ u = .slice A q c ∧ Hid (OwnI wr w.heap.size A q c (nearL n wd s q)) ∧ Hid (Below w.heap.size w wr)) (fun u _ _ => m - lenOf u)
          case atStart => exact ⟨0, _, _, Nat.zero_le _, rfl, rfl, own_empty _ _ (Nat.le_refl _) _ rfl, (by repeat (first | exact Below.refl _ _ | (refine below_drewN ?_ _) | (refine Below.drew ?_) | (refine Below.alloc ?_ (by first | exact Nat.le_refl _ | (simp; done) | (simp; omega) | omega) _) | (refine Below.setCell ?_ (by first | exact Nat.le_refl _ | (simp; done) | (simp; omega) | omega) _) | (refine Below.trans ?_ (Below.mono (by assumption) (by first | exact Nat.le_refl _ | (simp; done) | (simp; omega) | omega)))))⟩
          case round =>
            obtain ⟨q, A, c, hq, rfl, rfl, HO, HB⟩ := hrel
            have hs := stAt_bd s c30 c31 q
            have hs1 := hs.1
            have hs2 := hs.2
            clear hs
            by_cases hlt : q < m
            · have hlt' : (q : Int) < (m : Int) := by omega
              have hn := nxt_bd (stAt s q)
              have hn1 := hn.1
              have hn2 := hn.2
              clear hn
              have HN : Hid (nxt (stAt s q) = stAt s (q + 1)) := rfl
              by_cases hq0 : q = 0
              · subst hq0
                have HE : Hid (nxt (stAt s 0) / 16 % n = nearAt n wd s 0) := rfl
                go_wp2_with (first | (go_at_call 54; refine (l3Next_any _ _ hs1 hs2).mono ?_; rintro e w' ⟨rfl, rfl⟩) | (at_builtin; refine append_int rfl _ _ rfl w.heap.size A 0 c (nearL n wd s 0) _ _ rfl rfl HO.out (by omega) HB.out.size ?_; intro A' c' w1 ho' hb' hg'; replace ho' := hide ho'; replace hb' := hide hb'; clear hg'))
                go_roundw
                case rel => first | exact ⟨0 + 1, A', c', by omega, by rw [← HN.out], rfl, by have := ho'.out; rw [nearL_snoc, ← HE.out]; exact this, HB.out.trans hb'.out⟩ | ((repeat apply Exists.intro); refine ⟨?_, rfl⟩; exact ⟨0 + 1, A', c', by omega, by rw [← HN.out], rfl, by have := ho'.out; rw [nearL_snoc, ← HE.out]; exact this, HB.out.trans hb'.out⟩)
                case measure => first | (simp [lenOf]; done) | (simp [lenOf]; omega) | (show m - (p + 1 + 1) < m - (p + 1); omega) | (show m - (0 + 1) < m - 0; omega)
              · obtain ⟨p, rfl⟩ : ∃ p, q = p + 1 := ⟨q - 1, by omega⟩
                have hp0 : ¬ ((p + 1 : Nat) : Int) = 0 := by omega
                obtain ⟨g, rfl, hg, hc⟩ := HO.out.pos (by omega)
                obtain ⟨v, hv⟩ : ∃ v, Hid (nearAt n wd s p = v) := ⟨_, rfl⟩
                have hcv : wr.cell? ⟨g, p, none⟩ = some (.int .i64 v) := by rw [← hv.out, ← nearL_get n wd s (p + 1) p (by omega)]; exact hc p (by omega)
                have hvb : 0 ≤ v ∧ v < 8 := by rw [← hv.out]; exact nearAt_bd n wd s c00 c01 p
                have hvb1 := hvb.1
                have hvb2 := hvb.2
                have HE : Hid ((v + nxt (stAt s (p + 1)) / 16 % wd) % n = nearAt n wd s (p + 1)) := by rw [← hv.out]; rfl
                clear hc hvb
                have hidx : ((p + 1 : Nat) : Int) - 1 = (p : Int) := by omega
                have hm1 : 0 ≤ nxt (stAt s (p + 1)) / 16 % wd := Int.emod_nonneg _ (by omega)
                have hm2 : nxt (stAt s (p + 1)) / 16 % wd < wd := Int.emod_lt_of_pos _ (by omega)
                have hwp : IntKind.i64.wrap (p : Int) = (p : Int) := IntWalk.i64_in _ (by omega)
                have hN := nxt_bd (stAt s (p + 1))
                obtain ⟨N, hNv⟩ : ∃ N, Hid (nxt (stAt s (p + 1)) = N) := ⟨_, rfl⟩
                rw [hNv.out] at hN HE hm1 hm2 HN
                have hN1 := hN.1
                have hN2 := hN.2
                clear hN
                obtain ⟨X, hX⟩ : ∃ X, Hid (N / 16 % wd = X) := ⟨_, rfl⟩
                have E1 : IntKind.i64.wrap (N.tdiv 16) = N / 16 := IntWalk.i64_quo _ _ ⟨hN1, by omega, by omega⟩
                have E2 : IntKind.i64.wrap ((N / 16).tmod wd) = X := by rw [IntWalk.rem_in _ _ (by omega), hX.out]; rw [hX.out] at hm1 hm2; exact IntWalk.i64_in _ (by omega)
                have E2' : (N / 16).tmod wd = X := by rw [IntWalk.rem_in _ _ (by omega), hX.out]
                rw [hX.out] at hm1 hm2 HE
                have E3 : IntKind.i64.wrap (v + X) = v + X := IntWalk.i64_in _ (by omega)
                obtain ⟨Z, hZ⟩ : ∃ Z, Hid ((v + X) % n = Z) := ⟨_, rfl⟩
                rw [hZ.out] at HE
                have hZ0 : 0 ≤ (v + X) % n := Int.emod_nonneg _ (by omega)
                have hZ1 : (v + X) % n < n := Int.emod_lt_of_pos _ (by omega)
                rw [hZ.out] at hZ0 hZ1
                have E4' : (v + X).tmod n = Z := by rw [IntWalk.rem_in _ _ (by omega), hZ.out]
                have E4 : IntKind.i64.wrap ((v + X).tmod n) = Z := by rw [E4']; exact IntWalk.i64_in _ (by omega)
                have EX : IntKind.i64.wrap X = X := IntWalk.i64_in _ (by omega)
                have EZ : IntKind.i64.wrap Z = Z := IntWalk.i64_in _ (by omega)
                have hwd0 : ¬ wd = 0 := by omega
                have hn0 : ¬ n = 0 := by omega
                have hpn0 : (0 : Int) ≤ (p : Int) := by omega
                have hpn1 : (p : Int) < (p : Int) + 1 := by omega
                go_wp2_with (go_at_call 54; refine (l3Next_any _ _ hs1 hs2).mono ?_; rintro e w' ⟨rfl, rfl⟩; rw [hNv.out])
                have HB2 : Hid (Below w.heap.size w wr.drew) := below_drewN HB.out 1
                have HO2 : Hid (OwnI wr.drew w.heap.size (some ⟨g, 0, none⟩) (p + 1) c (nearL n wd s (p + 1))) := HO
                go_region_law (refine append_int_step rfl _ _ rfl w.heap.size _ (p + 1) c (nearL n wd s (p + 1)) _ _ rfl rfl HO2.out (by omega) HB2.out.size ?_; intro A' c' w1 ho' hb'; replace ho' := hide ho'; replace hb' := hide hb')
                go_wp2
                go_roundw
                case rel => first | exact ⟨p + 1 + 1, A', c', by omega, by rw [← HN.out], rfl, by have := ho'.out; rw [nearL_snoc, ← HE.out]; exact this, HB2.out.trans hb'.out⟩ | ((repeat apply Exists.intro); refine ⟨?_, rfl⟩; exact ⟨p + 1 + 1, A', c', by omega, by rw [← HN.out], rfl, by have := ho'.out; rw [nearL_snoc, ← HE.out]; exact this, HB2.out.trans hb'.out⟩)
                case measure => first | (simp [lenOf]; done) | (simp [lenOf]; omega) | (show m - (p + 1 + 1) < m - (p + 1); omega) | (show m - (0 + 1) < m - 0; omega)
            · have hqm : q = m := by omega
              subst hqm
              go_wp2
              go_ret2
              exact RetI.of HO.out HB.out HV.out
        · have HV := hide (show nearRequestsV n l wd s = ([], false) by simp [nearRequestsV, nearOk]; omega)
          go_enter Try.func20, Try.ntmps20
          go_wp2_with (first | (go_at_call 53; refine (l1In_yes _ _ _ _ (by omega) (by omega)).mono ?_; rintro e w' ⟨rfl, rfl⟩) | (go_at_call 53; refine (l1In_no _ _ _ _ (by omega)).mono ?_; rintro e w' ⟨rfl, rfl⟩) | go_in)
          go_ret2
          exact RetI.of (own_empty _ _ (Nat.le_refl _) _ rfl) (by repeat (first | exact Below.refl _ _ | (refine below_drewN ?_ _) | (refine Below.drew ?_) | (refine Below.alloc ?_ (by first | exact Nat.le_refl _ | (simp; done) | (simp; omega) | omega) _) | (refine Below.setCell ?_ (by first | exact Nat.le_refl _ | (simp; done) | (simp; omega) | omega) _) | (refine Below.trans ?_ (Below.mono (by assumption) (by first | exact Nat.le_refl _ | (simp; done) | (simp; omega) | omega))))) HV.out
      · have HV := hide (show nearRequestsV n l wd s = ([], false) by simp [nearRequestsV, nearOk]; omega)
        go_enter Try.func20, Try.ntmps20
        go_wp2_with (first | (go_at_call 53; refine (l1In_yes _ _ _ _ (by omega) (by omega)).mono ?_; rintro e w' ⟨rfl, rfl⟩) | (go_at_call 53; refine (l1In_no _ _ _ _ (by omega)).mono ?_; rintro e w' ⟨rfl, rfl⟩) | go_in)
        go_ret2
        exact RetI.of (own_empty _ _ (Nat.le_refl _) _ rfl) (by repeat (first | exact Below.refl _ _ | (refine below_drewN ?_ _) | (refine Below.drew ?_) | (refine Below.alloc ?_ (by first | exact Nat.le_refl _ | (simp; done) | (simp; omega) | omega) _) | (refine Below.setCell ?_ (by first | exact Nat.le_refl _ | (simp; done) | (simp; omega) | omega) _) | (refine Below.trans ?_ (Below.mono (by assumption) (by first | exact Nat.le_refl _ | (simp; done) | (simp; omega) | omega))))) HV.out
    · have HV := hide (show nearRequestsV n l wd s = ([], false) by simp [nearRequestsV, nearOk]; omega)
      go_enter Try.func20, Try.ntmps20
      go_wp2_with (first | (go_at_call 53; refine (l1In_yes _ _ _ _ (by omega) (by omega)).mono ?_; rintro e w' ⟨rfl, rfl⟩) | (go_at_call 53; refine (l1In_no _ _ _ _ (by omega)).mono ?_; rintro e w' ⟨rfl, rfl⟩) | go_in)
      go_ret2
      exact RetI.of (own_empty _ _ (Nat.le_refl _) _ rfl) (by repeat (first | exact Below.refl _ _ | (refine below_drewN ?_ _) | (refine Below.drew ?_) | (refine Below.alloc ?_ (by first | exact Nat.le_refl _ | (simp; done) | (simp; omega) | omega) _) | (refine Below.setCell ?_ (by first | exact Nat.le_refl _ | (simp; done) | (simp; omega) | omega) _) | (refine Below.trans ?_ (Below.mono (by assumption) (by first | exact Nat.le_refl _ | (simp; done) | (simp; omega) | omega))))) HV.out
  · have HV := hide (show nearRequestsV n l wd s = ([], false) by simp [nearRequestsV, nearOk]; omega)
    go_enter Try.func20, Try.ntmps20
    go_wp2_with (first | (go_at_call 53; refine (l1In_yes _ _ _ _ (by omega) (by omega)).mono ?_; rintro e w' ⟨rfl, rfl⟩) | (go_at_call 53; refine (l1In_no _ _ _ _ (by omega)).mono ?_; rintro e w' ⟨rfl, rfl⟩) | go_in)
    go_ret2
    exact RetI.of (own_empty _ _ (Nat.le_refl _) _ rfl) (by repeat (first | exact Below.refl _ _ | (refine below_drewN ?_ _) | (refine Below.drew ?_) | (refine Below.alloc ?_ (by first | exact Nat.le_refl _ | (simp; done) | (simp; omega) | omega) _) | (refine Below.setCell ?_ (by first | exact Nat.le_refl _ | (simp; done) | (simp; omega) | omega) _) | (refine Below.trans ?_ (Below.mono (by assumption) (by first | exact Nat.le_refl _ | (simp; done) | (simp; omega) | omega))))) HV.out

set_option maxRecDepth 20000 in
set_option maxHeartbeats 3200000 in
theorem impl_NearRequests (n l wd s : Int) (w : World) (_ : -9223372036854775808 ≤ n) (_ : n ≤ 9223372036854775807) (_ : -9223372036854775808 ≤ l) (_ : l ≤ 9223372036854775807) (_ : -9223372036854775808 ≤ wd) (_ : wd ≤ 9223372036854775807) (_ : -9223372036854775808 ≤ s) (_ : s ≤ 9223372036854775807) :
    Calls Try.prog 21 #[.int .i64 n, .int .i64 l, .int .i64 wd, .int .i64 s] w (RetI w (nearRequestsV n l wd s)) := by
  by_cases c0 : 1 ≤ n ∧ n ≤ 8
  · obtain ⟨c00, c01⟩ := c0
    by_cases c1 : 0 ≤ l ∧ l ≤ 60
    · obtain ⟨c10, c11⟩ := c1
      by_cases c2 : 1 ≤ wd ∧ wd ≤ n
      · obtain ⟨c20, c21⟩ := c2
        by_cases c3 : 0 ≤ s ∧ s ≤ 9999
        · obtain ⟨c30, c31⟩ := c3
          obtain ⟨m, rfl⟩ := Int.eq_ofNat_of_zero_le c10
          have HV := hide (show nearRequestsV n m wd s = (nearL n wd s m, true) by simp [nearRequestsV, nearOk, *])
          go_enter Try.func21, Try.ntmps21
          go_wp2_with (first | (go_at_call 57; refine (within_yes _ _ _ _ (by omega) (by omega)).mono ?_; rintro e w' ⟨rfl, rfl⟩) | (go_at_call 57; refine (within_no _ _ _ _ (by omega)).mono ?_; rintro e w' ⟨rfl, rfl⟩) | go_in)
          go_loopw [11, 12, 37] (fun u _ i wr => ∃ (q : Nat) (A : Option Addr) (c : Nat), q ≤ m ∧ i = .int .i64 q ∧ u = .slice A q c ∧ Hid (OwnI wr (w.heap.size + 1) A q c (nearL n wd s q)) ∧ Hid (Below w.heap.size w wr) ∧ wr.cell? ⟨w.heap.size, 0, none⟩ = some (.int .i64 (stAt s q)) ∧ wr.frozen? ⟨w.heap.size, 0, none⟩ = false ∧ w.heap.size + 1 ≤ wr.heap.size) (fun _ _ i _ => m - (intOf i).toNat)
          case atStart => exact ⟨0, _, _, Nat.zero_le _, rfl, rfl, by have := own_empty (w.alloc (.cells #[.int .i64 s] 53)) (w.heap.size + 1) (by simp) #[] rfl; simpa [Hid, nearL] using this, (by repeat (first | exact Below.refl _ _ | (refine below_drewN ?_ _) | (refine Below.drew ?_) | (refine Below.alloc ?_ (by first | exact Nat.le_refl _ | (simp; done) | (simp; omega) | omega) _) | (refine Below.setCell ?_ (by first | exact Nat.le_refl _ | (simp; done) | (simp; omega) | omega) _) | (refine Below.trans ?_ (Below.mono (by assumption) (by first | exact Nat.le_refl _ | (simp; done) | (simp; omega) | omega))))), by go_simp; rfl, by go_simp, by simp⟩
          case round =>
            obtain ⟨q, A, c, hq, rfl, rfl, HO, HB, hcc, hcf, hcz⟩ := hrel
            have hs := stAt_bd s c30 c31 q
            have hs1 := hs.1
            have hs2 := hs.2
            clear hs
            by_cases hlt : q < m
            · have hlt' : (q : Int) < (m : Int) := by omega
              have HN : Hid (nxt (stAt s q) = stAt s (q + 1)) := rfl
              by_cases hq0 : q = 0
              · subst hq0
                have HE : Hid (nxt (stAt s 0) / 16 % n = nearAt n wd s 0) := rfl
                go_wp2_with (first | (go_at_call 58; refine (below_any _ _ _ _ hcc hcf hs1 hs2 (by omega) (by omega)).mono ?_; rintro e w2 ⟨rfl, hcc2, hcf2, hg2⟩; have HO2 := hide (HO.out.far hg2 (Nat.lt_succ_self _)); have HB2 := hide (Below.far HB.out hg2 (by omega) (Nat.le_refl _)); have hcz2 := Nat.le_trans hcz hg2.size; clear hcc hcf hg2) | (at_builtin; refine append_int rfl _ _ rfl (w.heap.size + 1) A 0 c (nearL n wd s 0) _ _ rfl rfl HO2.out (by omega) hcz2 ?_; intro A' c' w1 ho' hb' hg'; replace ho' := hide ho'; replace hb' := hide hb'; clear hg'))
                have hcc3 := (hb'.out.cell (p := ⟨w.heap.size, 0, none⟩) (Nat.lt_succ_self _)).trans hcc2
                have hcf3 := (hb'.out.frozen (p := ⟨w.heap.size, 0, none⟩) (Nat.lt_succ_self _)).trans hcf2
                go_roundw
                case rel => first | exact ⟨0 + 1, A', c', by omega, by go_num, rfl, by have := ho'.out; rw [nearL_snoc, ← HE.out]; exact this, HB2.out.trans (hb'.out.mono (by omega)), hcc3, hcf3, Nat.le_trans hcz2 hb'.out.size⟩ | ((repeat apply Exists.intro); refine ⟨?_, rfl⟩; exact ⟨0 + 1, A', c', by omega, by go_num, rfl, by have := ho'.out; rw [nearL_snoc, ← HE.out]; exact this, HB2.out.trans (hb'.out.mono (by omega)), hcc3, hcf3, Nat.le_trans hcz2 hb'.out.size⟩)
                case measure => first | (simp [intOf]; done) | (simp [intOf]; omega)
              · obtain ⟨p, rfl⟩ : ∃ p, q = p + 1 := ⟨q - 1, by omega⟩
                have hp0 : ¬ ((p + 1 : Nat) : Int) = 0 := by omega
                obtain ⟨g, rfl, hgl, hc⟩ := HO.out.pos (by omega)
                have hgb : w.heap.size + 1 ≤ g := (HO.out.lt _ rfl).1
                obtain ⟨v, hv⟩ : ∃ v, Hid (nearAt n wd s p = v) := ⟨_, rfl⟩
                have hcv : wr.cell? ⟨g, p, none⟩ = some (.int .i64 v) := by rw [← hv.out, ← nearL_get n wd s (p + 1) p (by omega)]; exact hc p (by omega)
                have hvb : 0 ≤ v ∧ v < 8 := by rw [← hv.out]; exact nearAt_bd n wd s c00 c01 p
                have hvb1 := hvb.1
                have hvb2 := hvb.2
                have HE : Hid ((v + nxt (stAt s (p + 1)) / 16 % wd) % n = nearAt n wd s (p + 1)) := by rw [← hv.out]; rfl
                clear hc hvb
                have hidx : ((p + 1 : Nat) : Int) - 1 = (p : Int) := by omega
                have hm1 : 0 ≤ nxt (stAt s (p + 1)) / 16 % wd := Int.emod_nonneg _ (by omega)
                have hm2 : nxt (stAt s (p + 1)) / 16 % wd < wd := Int.emod_lt_of_pos _ (by omega)
                have hwp : IntKind.i64.wrap (p : Int) = (p : Int) := IntWalk.i64_in _ (by omega)
                have hN := nxt_bd (stAt s (p + 1))
                obtain ⟨N, hNv⟩ : ∃ N, Hid (nxt (stAt s (p + 1)) = N) := ⟨_, rfl⟩
                rw [hNv.out] at hN HE hm1 hm2 HN
                have hN1 := hN.1
                have hN2 := hN.2
                clear hN
                obtain ⟨X, hX⟩ : ∃ X, Hid (N / 16 % wd = X) := ⟨_, rfl⟩
                have E1 : IntKind.i64.wrap (N.tdiv 16) = N / 16 := IntWalk.i64_quo _ _ ⟨hN1, by omega, by omega⟩
                have E2 : IntKind.i64.wrap ((N / 16).tmod wd) = X := by rw [IntWalk.rem_in _ _ (by omega), hX.out]; rw [hX.out] at hm1 hm2; exact IntWalk.i64_in _ (by omega)
                have E2' : (N / 16).tmod wd = X := by rw [IntWalk.rem_in _ _ (by omega), hX.out]
                rw [hX.out] at hm1 hm2 HE
                have E3 : IntKind.i64.wrap (v + X) = v + X := IntWalk.i64_in _ (by omega)
                obtain ⟨Z, hZ⟩ : ∃ Z, Hid ((v + X) % n = Z) := ⟨_, rfl⟩
                rw [hZ.out] at HE
                have hZ0 : 0 ≤ (v + X) % n := Int.emod_nonneg _ (by omega)
                have hZ1 : (v + X) % n < n := Int.emod_lt_of_pos _ (by omega)
                rw [hZ.out] at hZ0 hZ1
                have E4' : (v + X).tmod n = Z := by rw [IntWalk.rem_in _ _ (by omega), hZ.out]
                have E4 : IntKind.i64.wrap ((v + X).tmod n) = Z := by rw [E4']; exact IntWalk.i64_in _ (by omega)
                have EX : IntKind.i64.wrap X = X := IntWalk.i64_in _ (by omega)
                have EZ : IntKind.i64.wrap Z = Z := IntWalk.i64_in _ (by omega)
                have hwd0 : ¬ wd = 0 := by omega
                have hn0 : ¬ n = 0 := by omega
                have hpn0 : (0 : Int) ≤ (p : Int) := by omega
                have hpn1 : (p : Int) < (p : Int) + 1 := by omega
                have hccd : wr.drew.cell? ⟨w.heap.size, 0, none⟩ = some (.int .i64 (stAt s (p + 1))) := hcc
                have hcfd : wr.drew.frozen? ⟨w.heap.size, 0, none⟩ = false := hcf
                have hcvd : wr.drew.cell? ⟨g, p, none⟩ = some (.int .i64 v) := hcv
                have hczd : w.heap.size + 1 ≤ wr.drew.heap.size := hcz
                have HOd : Hid (OwnI wr.drew (w.heap.size + 1) (some ⟨g, 0, none⟩) (p + 1) c (nearL n wd s (p + 1))) := HO
                have HBd : Hid (Below w.heap.size w wr.drew) := below_drewN HB.out 1
                have hgd : g < wr.drew.heap.size := hgl
                go_wp2_with fail
                go_region_law (first | (go_simp; go_at_call 58; refine (below_any _ _ _ _ hccd hcfd hs1 hs2 (by omega) (by omega)).mono ?_; rintro e w2 ⟨rfl, hcc2, hcf2, hg2⟩; have HO2 := hide (OwnI.far HOd.out hg2 (Nat.lt_succ_self _)); have HB2 := hide (Below.far HBd.out hg2 (by omega) (Nat.le_refl _)); have hcz2 := Nat.le_trans hczd hg2.size; rw [hNv.out] at hcc2 ⊢; have hcv2 := hg2.cell hcvd (by intro e; injection e with e; have e2 : g = w.heap.size := e; omega)) | (refine append_int_step rfl _ _ rfl (w.heap.size + 1) _ (p + 1) c (nearL n wd s (p + 1)) _ _ rfl rfl HO2.out (by omega) hcz2 ?_; intro A' c' w1 ho' hb'; replace ho' := hide ho'; replace hb' := hide hb'))
                · have f1 : Hid (OwnI w1 (w.heap.size + 1) A' (p + 1 + 1) c' (nearL n wd s (p + 1 + 1))) := by
                    have := ho'.out
                    rw [hX.out, E3, E4'] at this
                    rw [nearL_snoc, ← HE.out]
                    exact this
                  have f2 : Hid (Below w.heap.size w w1) := HB2.out.trans (hb'.out.mono (by omega))
                  have f3 : w1.cell? ⟨w.heap.size, 0, none⟩ = some (.int .i64 (stAt s (p + 1 + 1))) := by
                    rw [← HN.out]
                    exact (hb'.out.cell (p := ⟨w.heap.size, 0, none⟩) (Nat.lt_succ_self _)).trans hcc2
                  have f4 : w1.frozen? ⟨w.heap.size, 0, none⟩ = false := (hb'.out.frozen (p := ⟨w.heap.size, 0, none⟩) (Nat.lt_succ_self _)).trans hcf2
                  have f5 : w.heap.size + 1 ≤ w1.heap.size := Nat.le_trans hcz2 hb'.out.size
                  go_wp2
                  go_roundw
                  case rel => first | exact ⟨p + 1 + 1, A', c', by omega, by go_num, rfl, f1, f2, f3, f4, f5⟩ | ((repeat apply Exists.intro); refine ⟨?_, rfl⟩; exact ⟨p + 1 + 1, A', c', by omega, by go_num, rfl, f1, f2, f3, f4, f5⟩)
                  case measure => first | (simp [intOf]; done) | (simp [intOf]; omega)
                · have f1 : Hid (OwnI w1 (w.heap.size + 1) A' (p + 1 + 1) c' (nearL n wd s (p + 1 + 1))) := by
                    have := ho'.out
                    rw [hX.out, E3, E4'] at this
                    rw [nearL_snoc, ← HE.out]
                    exact this
                  have f2 : Hid (Below w.heap.size w w1) := HB2.out.trans (hb'.out.mono (by omega))
                  have f3 : w1.cell? ⟨w.heap.size, 0, none⟩ = some (.int .i64 (stAt s (p + 1 + 1))) := by
                    rw [← HN.out]
                    exact (hb'.out.cell (p := ⟨w.heap.size, 0, none⟩) (Nat.lt_succ_self _)).trans hcc2
                  have f4 : w1.frozen? ⟨w.heap.size, 0, none⟩ = false := (hb'.out.frozen (p := ⟨w.heap.size, 0, none⟩) (Nat.lt_succ_self _)).trans hcf2
                  have f5 : w.heap.size + 1 ≤ w1.heap.size := Nat.le_trans hcz2 hb'.out.size
                  go_wp2
                  go_roundw
                  case rel => first | exact ⟨p + 1 + 1, A', c', by omega, by go_num, rfl, f1, f2, f3, f4, f5⟩ | ((repeat apply Exists.intro); refine ⟨?_, rfl⟩; exact ⟨p + 1 + 1, A', c', by omega, by go_num, rfl, f1, f2, f3, f4, f5⟩)
                  case measure => first | (simp [intOf]; done) | (simp [intOf]; omega)
            · have hqm : q = m := by omega
              subst hqm
              go_wp2
              go_ret2
              exact RetI.of (HO.out.more (by omega)) HB.out HV.out
        · have HV := hide (show nearRequestsV n l wd s = ([], false) by simp [nearRequestsV, nearOk]; omega)
          go_enter Try.func21, Try.ntmps21
          go_wp2_with (first | (go_at_call 57; refine (within_yes _ _ _ _ (by omega) (by omega)).mono ?_; rintro e w' ⟨rfl, rfl⟩) | (go_at_call 57; refine (within_no _ _ _ _ (by omega)).mono ?_; rintro e w' ⟨rfl, rfl⟩) | go_in)
          go_ret2
          exact RetI.of (OwnI.nil _ _) (Below.refl _ _) HV.out
      · have HV := hide (show nearRequestsV n l wd s = ([], false) by simp [nearRequestsV, nearOk]; omega)
        go_enter Try.func21, Try.ntmps21
        go_wp2_with (first | (go_at_call 57; refine (within_yes _ _ _ _ (by omega) (by omega)).mono ?_; rintro e w' ⟨rfl, rfl⟩) | (go_at_call 57; refine (within_no _ _ _ _ (by omega)).mono ?_; rintro e w' ⟨rfl, rfl⟩) | go_in)
        go_ret2
        exact RetI.of (OwnI.nil _ _) (Below.refl _ _) HV.out
    · have HV := hide (show nearRequestsV n l wd s = ([], false) by simp [nearRequestsV, nearOk]; omega)
      go_enter Try.func21, Try.ntmps21
      go_wp2_with (first | (go_at_call 57; refine (within_yes _ _ _ _ (by omega) (by omega)).mono ?_; rintro e w' ⟨rfl, rfl⟩) | (go_at_call 57; refine (within_no _ _ _ _ (by omega)).mono ?_; rintro e w' ⟨rfl, rfl⟩) | go_in)
      go_ret2
      exact RetI.of (OwnI.nil _ _) (Below.refl _ _) HV.out
  · have HV := hide (show nearRequestsV n l wd s = ([], false) by simp [nearRequestsV, nearOk]; omega)
    go_enter Try.func21, Try.ntmps21
    go_wp2_with (first | (go_at_call 57; refine (within_yes _ _ _ _ (by omega) (by omega)).mono ?_; rintro e w' ⟨rfl, rfl⟩) | (go_at_call 57; refine (within_no _ _ _ _ (by omega)).mono ?_; rintro e w' ⟨rfl, rfl⟩) | go_in)
    go_ret2
    exact RetI.of (OwnI.nil _ _) (Below.refl _ _) HV.out

end Go.Proofs.Ytaoacpikmpoodaa
