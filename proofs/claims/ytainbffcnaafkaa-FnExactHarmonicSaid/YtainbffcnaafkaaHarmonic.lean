/- Harmonic: what the reference and the program return; and for every number FnExactHarmonic returns true, and nothing that was in memory changes; no conditions beyond what the given row says. -/
import Derived.Test.YtainbffcnaafkaaSumF
namespace Go.Proofs.Ytainbffcnaafkaa.fnExactHarmonic
open Go.ChangeShapes Go.WideShapes Go.ChangeAt Go.RowKit
open Go.ChangeMaps (open_string shut_string)
set_option linter.unusedVariables false

/-- The fractions 1 over 1, 2, .. k. -/
def hlist (k : Nat) : List (Int × Int) := (List.range k).map fun (i : Nat) => ((1 : Int), (i : Int) + 1)
theorem hlist_len (k : Nat) : (hlist k).length = k := by simp [hlist]
theorem hlist_snoc (k : Nat) : hlist (k + 1) = hlist k ++ [((1 : Int), (k : Int) + 1)] := by simp [hlist, List.range_succ]
theorem h_some (k : Nat) (h : k ≤ 12) : ∃ s, sumF (hlist k) = some s := by
  have key : ∀ k : Fin 13, (sumF (hlist k)).isSome = true := by decide +kernel
  exact Option.isSome_iff_exists.1 (key ⟨k, by omega⟩)

/-- append(out, q): the one fraction lies in a block of its own, the last; the slice is the call's own. -/
theorem append_frac {ops : Array Oper} {rest : List Oper} {o : Oper} {a : Act} {Q : Exit → Act → World → Prop} (hgd : o.guard = none) (s x : Operand)
    (ho : o.op = .call { callee := .builtin .append, args := #[s, x], argTypes := #[46, 46] }) (base : Nat) (A : Option Addr) (n c : Nat) (xs : List (Int × Int)) (y z : Int) (w : World)
    (hs : a.eval s = .slice A n c) (hx : a.eval x = .slice (some ⟨w.heap.size, 0, none⟩) 1 1) (hown : OwnP 26 w base A n c xs) (hn : n ≤ 1048576) (hbase : base ≤ w.heap.size)
    (h : ∀ A' c' w', OwnP 26 w' base A' (n + 1) c' (xs ++ [(y, z)]) → Below base w w' → w.grownBy w' (A.map (·.block)) → wpList Try.prog ops Q rest (a.put o.dst (.slice A' (n + 1) c')) w') :
    wpList Try.prog ops Q (o :: rest) a (w.alloc (.cells #[.int .i64 y, .int .i64 z] 26)) := by
  obtain ⟨i0, hi, hz0, hz1, hz2⟩ := info_parts info_frac
  refine wpList_append_own _ hgd s x 46 ho base 26 i0 (.agg #[.int .i64 0, .int .i64 0]) 2 16 Try.underlying46 hi hz0 hz1 hz2 rfl (by decide) _ n (flatP xs) hs (World.ownsRow.alloc hown _) ⟨w.heap.size, 0, none⟩ 1 1 [.int .i64 y, .int .i64 z] hx rfl ?_ ?_ (by unfold maxLen; omega) (by omega) (by simp; omega) ?_
  · intro j u hj
    match j, hj with
    | 0, hj =>
      simp at hj
      subst hj
      simp [Addr.add_lit]
    | 1, hj =>
      simp at hj
      subst hj
      simp [Addr.add_lit]
  · simp [Value.oneCell']
  · intro v' w' ho' hg _
    rw [show flatP xs ++ [Value.int .i64 y, Value.int .i64 z] = flatP (xs ++ [(y, z)]) by rw [flatP_append]; rfl] at ho'
    obtain ⟨A', c', rfl, hO⟩ := ownP_form ho'
    have hg2 : w.grownBy w' (A.map (·.block)) := by
      have hA : (Value.slice A n c).ownBlock = A.map (·.block) := by cases A <;> rfl
      rw [hA] at hg
      exact grownBy_trans (World.grownBy_alloc w _ _) hg
    refine h A' c' w' hO ⟨hg2.os, hg2.tape, hg2.output, hg2.size, fun k hk => hg2.block k (by omega) ?_⟩ hg2
    cases A with
    | none => simp
    | some a => have := (hown.lt a rfl).1; simp; omega

set_option maxHeartbeats 1600000 in
theorem implHarmonic_yes (n : Nat) (w : World) (hn : n ≤ 12) (s : Int × Int) (hs : sumF (hlist n) = some s) :
    Calls Try.prog 38 #[.int .i64 n] w fun e w' => e = .returned (.tuple #[.agg #[.int .i64 s.1, .int .i64 s.2], .bool true]) ∧ Below w.heap.size w w' := by
  have HS := hide hs
  clear hs
  go_enter Try.func38, Try.ntmps38
  go_wp2_with (first | (go_at_call 52; refine (within_yes _ _ _ _ (by omega) (by omega)).mono ?_; rintro e w' ⟨rfl, rfl⟩) | (go_at_call 52; refine (within_no _ _ _ _ (by omega)).mono ?_; rintro e w' ⟨rfl, rfl⟩))
  go_loopw [4, 5, 12] (fun u _ i wr => ∃ (q : Nat) (A : Option Addr) (c : Nat), q ≤ n ∧ i = .int .i64 q ∧ u = .slice A q c ∧ Hid (OwnP 26 wr (w.heap.size + 1) A q c (hlist q)) ∧ Hid (Below w.heap.size w wr) ∧ Hid (Two wr w.heap.size (.int .i64 0) (.int .i64 0)) ∧ w.heap.size + 1 ≤ wr.heap.size) (fun _ _ i _ => n - (intOf i).toNat)
  case atStart => exact ⟨0, _, _, Nat.zero_le _, rfl, rfl, by have := ownP_empty 26 (w.alloc (.cells #[.int .i64 0, .int .i64 0] 26)) (w.heap.size + 1) (by simp) #[] rfl; simpa [Hid, hlist] using this, (by repeat (first | exact Below.refl _ _ | (refine below_drewN ?_ _) | (refine Below.drew ?_) | (refine Below.alloc ?_ (by first | exact Nat.le_refl _ | (simp; done) | (simp; omega) | omega) _) | (refine Below.setCell ?_ (by first | exact Nat.le_refl _ | (simp; done) | (simp; omega) | omega) _) | (refine Below.trans ?_ (Below.mono (by assumption) (by first | exact Nat.le_refl _ | (simp; done) | (simp; omega) | omega))))), two_alloc (two_mk _ _ _ _) _, by simp⟩
  case round =>
    obtain ⟨q, A, c, hq, rfl, rfl, HO, HB, HZ, hz⟩ := hrel
    by_cases hlt : q < n
    · have hlt' : (q : Int) < (n : Int) := by omega
      go_wp2_with (at_builtin; refine append_frac rfl _ _ rfl (w.heap.size + 1) A q c (hlist q) _ _ _ rfl rfl HO.out (by omega) hz ?_; intro A' c' w1 ho' hb' hg'; replace ho' := hide ho'; replace hb' := hide hb'; clear hg')
      go_roundw
      case rel => first | exact ⟨q + 1, A', c', by omega, by go_num, rfl, by have := ho'.out; rw [← hlist_snoc] at this; exact this, HB.out.trans (hb'.out.mono (by omega)), by
        obtain ⟨z0, z1, z2, z3, z4⟩ := HZ.out
        exact ⟨(hb'.out.cell (p := ⟨w.heap.size, 0, none⟩) (Nat.lt_succ_self _)).trans z0, (hb'.out.cell (p := ⟨w.heap.size, 1, none⟩) (Nat.lt_succ_self _)).trans z1, (hb'.out.frozen (p := ⟨w.heap.size, 0, none⟩) (Nat.lt_succ_self _)).trans z2, (hb'.out.frozen (p := ⟨w.heap.size, 1, none⟩) (Nat.lt_succ_self _)).trans z3, Nat.lt_of_lt_of_le z4 hb'.out.size⟩, Nat.le_trans hz hb'.out.size⟩ | ((repeat apply Exists.intro); refine ⟨?_, rfl⟩; exact ⟨q + 1, A', c', by omega, by go_num, rfl, by have := ho'.out; rw [← hlist_snoc] at this; exact this, HB.out.trans (hb'.out.mono (by omega)), by
        obtain ⟨z0, z1, z2, z3, z4⟩ := HZ.out
        exact ⟨(hb'.out.cell (p := ⟨w.heap.size, 0, none⟩) (Nat.lt_succ_self _)).trans z0, (hb'.out.cell (p := ⟨w.heap.size, 1, none⟩) (Nat.lt_succ_self _)).trans z1, (hb'.out.frozen (p := ⟨w.heap.size, 0, none⟩) (Nat.lt_succ_self _)).trans z2, (hb'.out.frozen (p := ⟨w.heap.size, 1, none⟩) (Nat.lt_succ_self _)).trans z3, Nat.lt_of_lt_of_le z4 hb'.out.size⟩, Nat.le_trans hz hb'.out.size⟩)
      case measure => simp [intOf]; omega
    · have hqn : q = n := by omega
      subst hqn
      go_wp2_with fail
      refine (implSumFracs_any _ _ _ (hlist q) _ HO.out.rd (by omega) _ HS.out).mono ?_
      rintro e w2 ⟨he, hb⟩
      replace he : e = .returned (.tuple #[.agg #[.int .i64 s.1, .int .i64 s.2], .bool true]) := he
      subst he
      obtain ⟨z0, z1, z2, z3, z4⟩ := two_on HZ.out hb
      obtain ⟨r0, r1⟩ := two_cells (w := w2) (b := w.heap.size) z0 z1
      go_wp2
      refine bodyPost_ret (v := .tuple #[.agg #[.int .i64 s.1, .int .i64 s.2], .bool true]) (by simp [results, Try.results38, go_sem, r0, r1]) rfl ⟨rfl, ?_⟩
      exact Below.setCell (Below.setCell (HB.out.trans (hb.mono HB.out.size)) (Nat.le_refl _) _) (Nat.le_refl _) _

set_option maxHeartbeats 1600000 in
theorem l2Harmonic_any (n : Nat) (w : World) (hn : n ≤ 12) (s : Int × Int) (hs : sumF (hlist n) = some s) :
    Calls Try.prog 62 #[.int .i64 n] w fun e w' => e = .returned (.agg #[.int .i64 s.1, .int .i64 s.2]) ∧ Below w.heap.size w w' := by
  have HS := hide hs
  clear hs
  go_enter Try.func62, Try.ntmps62
  go_wp2
  go_loopw [4] (fun i wr => ∃ (k : Nat) (t : Int × Int), k ≤ n ∧ i = .int .i64 (k + 1) ∧ Hid (sumF (hlist k) = some t) ∧ Kept w.heap.size w wr ∧ Hid (Two wr w.heap.size (.int .i64 0) (.int .i64 0)) ∧ Hid (Two wr (w.heap.size + 1) (.int .i64 t.1) (.int .i64 t.2))) (fun i _ => n + 1 - (intOf i).toNat)
  case atStart => exact ⟨0, (0, 1), Nat.zero_le _, by simp, rfl, ((Kept.start (Nat.le_refl _)).alloc _).alloc _, two_alloc (two_mk _ _ _ _) _, by have := two_mk (w.alloc (.cells #[.int .i64 0, .int .i64 0] 26)) (.int .i64 0) (.int .i64 1) 26; simpa [Hid] using this⟩
  case round =>
    obtain ⟨k, t, hk, rfl, HF, HK, HZ, HT⟩ := hrel
    obtain ⟨z0, z1, z2, z3, z4⟩ := HZ.out
    obtain ⟨t0, t1, t2, t3, t4⟩ := HT.out
    by_cases hlt : k < n
    · have hlt' : (k : Int) + 1 ≤ (n : Int) := by omega
      have hso := sumF_ok _ _ HF.out
      obtain ⟨t', ht'⟩ := h_some (k + 1) (by omega)
      have hst : stepF t (1, (k : Int) + 1) = some t' := by
        rw [hlist_snoc, sumF_snoc, HF.out] at ht'
        exact ht'
      obtain ⟨x, y⟩ := t
      have hg : fracB 1 ((k : Int) + 1) = true := by
        unfold fracB
        simp
        omega
      obtain ⟨p1, p2, p3, p4, p5, p6⟩ := prods hso hg
      rw [stepF_good (s := (x, y)) (p := (1, (k : Int) + 1)) hg] at hst
      have HN : Hid (mkN (x * ((k : Int) + 1) + 1 * y) (y * ((k : Int) + 1)) = t'.1 ∧ mkD (x * ((k : Int) + 1) + 1 * y) (y * ((k : Int) + 1)) = t'.2) := by
        unfold Hid
        split at hst
        · simp at hst
          rw [← hst]
          simp
        · simp at hst
      obtain ⟨B, HB⟩ : ∃ B, Hid (mkB (x * ((k : Int) + 1) + 1 * y) (y * ((k : Int) + 1)) = B) := ⟨_, rfl⟩
      replace ht' := hide ht'
      clear hst hg hso
      have hone : 1 * y = y := Int.one_mul y
      rw [hone] at p3 p4
      clear hone
      go_wp2_with fail
      refine (l2Add_any x y 1 ((k : Int) + 1) _ p1 p2 (by rw [Int.one_mul]; exact p3) (by rw [Int.one_mul]; exact p4) p5 p6).mono ?_
      rintro e w2 ⟨he, hb⟩
      rw [HN.out.1, HN.out.2, HB.out] at he
      subst he
      have hq := hide (two_on HZ.out hb)
      have hq' := hide (two_on HT.out hb)
      obtain ⟨z0', z1', z2', z3', z4'⟩ := hq.out
      obtain ⟨t0', t1', t2', t3', t4'⟩ := hq'.out
      have HK2 := HK.step hb
      go_wp2
      go_roundw
      case rel => first | exact ⟨k + 1, t', by omega, by go_num, ht'.out, (HK2.setCell (by simp) _).setCell (by simp) _, two_other (two_other hq.out (by omega)) (by omega), two_set hq'.out⟩ | ((repeat apply Exists.intro); refine ⟨?_, rfl⟩; exact ⟨k + 1, t', by omega, by go_num, ht'.out, (HK2.setCell (by simp) _).setCell (by simp) _, two_other (two_other hq.out (by omega)) (by omega), two_set hq'.out⟩)
      case measure => simp [intOf]; omega
    · have hkn : k = n := by omega
      subst hkn
      have hle : ¬ ((k : Int) + 1 ≤ (k : Int)) := by omega
      have HE : Hid (s = t) := by
        have := HS.out
        rw [HF.out] at this
        exact (Option.some.inj this).symm
      obtain ⟨r0, r1⟩ := two_cells (w := wr) (b := w.heap.size) z0 z1
      go_wp2
      refine bodyPost_ret (v := .agg #[.int .i64 t.1, .int .i64 t.2]) (by simp [results, Try.results62, go_sem, r0, r1]) rfl ⟨by rw [HE.out], ?_⟩
      exact Below.setCell (Below.setCell HK.1 (Nat.le_refl _) _) (Nat.le_refl _) _

theorem specHarmonic_yes (n : Nat) (w : World) (hn : n ≤ 12) (s : Int × Int) (hs : sumF (hlist n) = some s) :
    Calls Try.prog 37 #[.int .i64 n] w fun e w' => e = .returned (.tuple #[.agg #[.int .i64 s.1, .int .i64 s.2], .bool true]) ∧ Below w.heap.size w w' := by
  have HS := hide hs
  clear hs
  go_enter Try.func37, Try.ntmps37
  go_wp2_with (first | (go_at_call 50; refine (l1In_yes _ _ _ _ (by omega) (by omega)).mono ?_; rintro e w' ⟨rfl, rfl⟩) | (go_at_call 50; refine (l1In_no _ _ _ _ (by omega)).mono ?_; rintro e w' ⟨rfl, rfl⟩) | (go_at_call 62; refine (l2Harmonic_any _ _ hn _ HS.out).mono ?_; rintro e w1 ⟨rfl, hb⟩; obtain ⟨hc, hf⟩ := bcell hb))
  obtain ⟨r0, r1⟩ := two_cells (w := w1) (b := w.heap.size) (x := .int .i64 0) (y := .int .i64 0) (by rw [hc _ _ (by first | (simp; done) | (simp; omega) | omega)]; go_simp) (by rw [hc _ _ (by first | (simp; done) | (simp; omega) | omega)]; go_simp)
  refine bodyPost_ret (v := .tuple #[.agg #[.int .i64 s.1, .int .i64 s.2], .bool true]) (by simp [results, Try.results37, go_sem, r0, r1]) rfl ⟨rfl, (by repeat (first | exact Below.refl _ _ | (refine below_drewN ?_ _) | (refine Below.drew ?_) | (refine Below.alloc ?_ (by first | exact Nat.le_refl _ | (simp; done) | (simp; omega) | omega) _) | (refine Below.setCell ?_ (by first | exact Nat.le_refl _ | (simp; done) | (simp; omega) | omega) _) | (refine Below.trans ?_ (Below.mono (by assumption) (by first | exact Nat.le_refl _ | (simp; done) | (simp; omega) | omega)))))⟩

theorem specHarmonic_no (n : Int) (w : World) (h : ¬ (0 ≤ n ∧ n ≤ 12)) :
    Calls Try.prog 37 #[.int .i64 n] w fun e w' => e = .returned (.tuple #[.agg #[.int .i64 0, .int .i64 0], .bool false]) ∧ Below w.heap.size w w' := by
  go_enter Try.func37, Try.ntmps37
  go_wp2_with (first | (go_at_call 50; refine (l1In_yes _ _ _ _ (by omega) (by omega)).mono ?_; rintro e w' ⟨rfl, rfl⟩) | (go_at_call 50; refine (l1In_no _ _ _ _ (by omega)).mono ?_; rintro e w' ⟨rfl, rfl⟩))
  refine bodyPost_ret (v := .tuple #[.agg #[.int .i64 0, .int .i64 0], .bool false]) (by simp [results, Try.results37, go_sem]) rfl ⟨rfl, (by repeat (first | exact Below.refl _ _ | (refine below_drewN ?_ _) | (refine Below.drew ?_) | (refine Below.alloc ?_ (by first | exact Nat.le_refl _ | (simp; done) | (simp; omega) | omega) _) | (refine Below.setCell ?_ (by first | exact Nat.le_refl _ | (simp; done) | (simp; omega) | omega) _) | (refine Below.trans ?_ (Below.mono (by assumption) (by first | exact Nat.le_refl _ | (simp; done) | (simp; omega) | omega)))))⟩

theorem implHarmonic_no (n : Int) (w : World) (h : ¬ (0 ≤ n ∧ n ≤ 12)) :
    Calls Try.prog 38 #[.int .i64 n] w fun e w' => e = .returned (.tuple #[.agg #[.int .i64 0, .int .i64 0], .bool false]) ∧ Below w.heap.size w w' := by
  go_enter Try.func38, Try.ntmps38
  go_wp2_with (first | (go_at_call 52; refine (within_yes _ _ _ _ (by omega) (by omega)).mono ?_; rintro e w' ⟨rfl, rfl⟩) | (go_at_call 52; refine (within_no _ _ _ _ (by omega)).mono ?_; rintro e w' ⟨rfl, rfl⟩))
  refine bodyPost_ret (v := .tuple #[.agg #[.int .i64 0, .int .i64 0], .bool false]) (by simp [results, Try.results38, go_sem]) rfl ⟨rfl, (by repeat (first | exact Below.refl _ _ | (refine below_drewN ?_ _) | (refine Below.drew ?_) | (refine Below.alloc ?_ (by first | exact Nat.le_refl _ | (simp; done) | (simp; omega) | omega) _) | (refine Below.setCell ?_ (by first | exact Nat.le_refl _ | (simp; done) | (simp; omega) | omega) _) | (refine Below.trans ?_ (Below.mono (by assumption) (by first | exact Nat.le_refl _ | (simp; done) | (simp; omega) | omega)))))⟩

theorem walk_yes (w : World) (n : Nat) (hn : n ≤ 12) (s : Int × Int) (hs : Hid (sumF (hlist n) = some s)) :
    Calls Try.prog 12 #[.int .i64 n] w fun e w' => e = .returned (.bool true) ∧ Below w.heap.size w w' := by
  go_enter Try.func12, Try.ntmps12
  go_wp2_with fail
  refine (specHarmonic_yes _ _ hn _ hs.out).mono ?_
  rintro e w1 ⟨rfl, hb1⟩
  go_wp2_with fail
  refine (implHarmonic_yes _ _ hn _ hs.out).mono ?_
  rintro e w2 ⟨rfl, hb2⟩
  obtain ⟨k0, k1, k2, k3, k4⟩ := two_new hb2
  go_wp2_with fail
  refine (eqFrac_same _ _ _).mono ?_
  rintro e w3 ⟨rfl, hb3⟩
  go_wp2
  go_ret
  have z1 := hb1.size
  have z2 := hb2.size
  simp at z2
  exact ⟨rfl, ((hb1.trans (Below.alloc (Below.refl _ _) (by omega) _)).trans (hb2.mono (by simp; omega))).trans (((Below.refl _ _).alloc (by omega) _).trans (hb3.mono (by simp; omega)))⟩

theorem walk_no (w : World) (n : Int) (h : Hid (¬ (0 ≤ n ∧ n ≤ 12))) :
    Calls Try.prog 12 #[.int .i64 n] w fun e w' => e = .returned (.bool true) ∧ Below w.heap.size w w' := by
  go_enter Try.func12, Try.ntmps12
  go_wp2_with fail
  refine (specHarmonic_no _ _ h.out).mono ?_
  rintro e w1 ⟨rfl, hb1⟩
  go_wp2_with fail
  refine (implHarmonic_no _ _ h.out).mono ?_
  rintro e w2 ⟨rfl, hb2⟩
  obtain ⟨k0, k1, k2, k3, k4⟩ := two_new hb2
  go_wp2_with fail
  refine (eqFrac_same _ _ _).mono ?_
  rintro e w3 ⟨rfl, hb3⟩
  go_wp2
  go_ret
  have z1 := hb1.size
  have z2 := hb2.size
  simp at z2
  exact ⟨rfl, ((hb1.trans (Below.alloc (Below.refl _ _) (by omega) _)).trans (hb2.mono (by simp; omega))).trans (((Below.refl _ _).alloc (by omega) _).trans (hb3.mono (by simp; omega)))⟩

theorem walk (w : World) (a : Int) (w0 : (Lit.int .i64 a).wf = true) :
    Calls Try.prog 12 #[.int .i64 a] w fun e w' => e = .returned (.bool true) ∧ Below w.heap.size w w' := by
  by_cases h : 0 ≤ a ∧ a ≤ 12
  · obtain ⟨n, rfl⟩ := Int.eq_ofNat_of_zero_le h.1
    obtain ⟨s, hs⟩ := h_some n (by omega)
    exact walk_yes w n (by omega) s hs
  · exact walk_no w a h

set_option maxRecDepth 100000 in
theorem lifted (os : Os) (started : os.Started) (H : Type) (enc : TypeId × Value → H) :
    ReturnsInHanded {} Try.checked os 12 .any (Rows.fnExactHarmonicSpec.pre6 enc Try.prog Try.f12 Rows.fnExactHarmonicRow.domain false) (Rows.fnExactHarmonicSpec.post enc Try.prog Try.f12 false true false false) := by
  refine returnsInHanded_of_change (C := Try.checked) own started (by kernel_rfl) Try.func12
    (ChangeSpec.witness6 (enc := enc) (C := Try.checked) false ⟨#[], #[.int .i64 0], []⟩ 8 (by kernel_rfl) (by kernel_rfl) (by kernel_rfl) (by kernel_rfl)) ?_
  intro W base args ds gs before hval0 hW hcnd _
  have hval : ∀ (j : Nat) t v, Try.f12.params[j]? = some t → args[j]? = some v → Value.okWide Try.prog W .any base t v := hval0
  have hW' := hW
  obtain ⟨p, q, hA0, hV, rfl, hfz, hnd⟩ := hW
  have hA : DataW.TrodAll enc Try.prog W 0 (fun _ => true) true Try.f12.params.toList args.toList ds p := hA0
  rw [Try.params12] at hA hval
  obtain ⟨v0, vs0, d0, ds0, p0, q0, hargs, rfl, rfl, h0, r0⟩ := trodAll_cons hA
  obtain ⟨rfl, rfl, rfl⟩ := trodAll_nil r0
  obtain rfl : args = #[v0] := by cases args; simp_all
  obtain ⟨rfl, rfl⟩ := trodVars_none hV
  obtain ⟨a0, rfl, rfl, rfl, w0⟩ := open_int Try.underlying3 (hval 0 3 v0 rfl rfl) h0
  clear hA0 hval0
  refine (walk W a0 w0).mono fun e W' ⟨he, bel⟩ => ?_
  subst he
  exact ⟨_, rfl, _, _, _, [], _, [], hW', trodAll_mk1 (shut_bool Try.underlying4 _), (trodAll_cons_mk (shut_int Try.underlying3 w0) trodAll_mk0), rfl, bel.frame _, fun h => by cases h⟩

theorem over : Rows.fnExactHarmonicRow.holds Try.pinned (OpenSpec.ofChange Rows.fnExactHarmonicSpec) :=
  OpenClaim.holds_of_wide 12 Try.f12 rfl rfl rfl rfl rfl rfl rfl ⟨rfl, rfl, rfl, rfl, rfl⟩ rfl rfl rfl rfl rfl (by kernel_rfl) Try.func12 (by kernel_rfl)
    (of_decide_eq_true (by kernel_rfl)) (by unfold Func.isWrapper; first | (rw [if_pos (by decide +kernel)]; kernel_rfl) | (rw [if_neg (by decide +kernel)]; exact ⟨rfl, rfl⟩))
    (fun os started H enc _ => lifted os started H enc)

theorem proved : Rows.FnExactHarmonicSaid := over
#print axioms proved
end Go.Proofs.Ytainbffcnaafkaa.fnExactHarmonic
