/- The sum of a list of fractions, one by one, and what the reference and the program return of it; for slices of at most 2^20 fractions that can be read. -/
import Derived.Test.YtainbffcnaafkaaFracRow
import Derived.Test.YtainbffcnaafkaaAddMul
import Derived.Deep.DeepCutAuto
namespace Go.Proofs.Ytainbffcnaafkaa
open Go.RowKit

/-- One step of the sum. -/
def stepF (s p : Int × Int) : Option (Int × Int) :=
  if fracB p.1 p.2 = true then (if mkB (s.1 * p.2 + p.1 * s.2) (s.2 * p.2) = true then some (mkN (s.1 * p.2 + p.1 * s.2) (s.2 * p.2), mkD (s.1 * p.2 + p.1 * s.2) (s.2 * p.2)) else none) else none
def sumF (xs : List (Int × Int)) : Option (Int × Int) := xs.foldlM stepF (0, 1)
theorem sumF_snoc (xs : List (Int × Int)) (p : Int × Int) : sumF (xs ++ [p]) = (sumF xs).bind fun s => stepF s p := by
  simp only [sumF, List.foldlM_append, List.foldlM_cons, List.foldlM_nil]
  cases List.foldlM stepF (0, 1) xs <;> simp
theorem mk_ok {n d : Int} (h : mkB n d = true) : fracB (mkN n d) (mkD n d) = true := by
  unfold mkN mkD
  rw [if_pos h, if_pos h]
  exact h
theorem stepF_ok {s p q : Int × Int} (h : stepF s p = some q) : fracB q.1 q.2 = true := by
  unfold stepF at h
  split at h
  · split at h
    · rename_i _ hb
      simp at h
      subst h
      exact mk_ok hb
    · simp at h
  · simp at h
theorem sumF_ok (xs : List (Int × Int)) : ∀ s, sumF xs = some s → fracB s.1 s.2 = true := by
  rcases List.eq_nil_or_concat xs with rfl | ⟨l, p, rfl⟩
  · intro s h
    simp [sumF] at h
    subst h
    decide +kernel
  · intro s h
    rw [List.concat_eq_append, sumF_snoc] at h
    cases hl : sumF l with
    | none => rw [hl] at h; simp at h
    | some q => rw [hl] at h; exact stepF_ok h
theorem take_snocP (xs : List (Int × Int)) (k : Nat) (hk : k < xs.length) : xs.take (k + 1) = xs.take k ++ [xs.getD k (0, 0)] := by
  rw [List.take_succ_eq_append_getElem hk]
  simp [List.getD_eq_getElem?_getD, List.getElem?_eq_getElem hk]
theorem sumF_take (xs : List (Int × Int)) (k : Nat) (hk : k < xs.length) : sumF (xs.take (k + 1)) = (sumF (xs.take k)).bind fun s => stepF s (xs.getD k (0, 0)) := by
  rw [take_snocP xs k hk, sumF_snoc]
theorem sumF_none (xs : List (Int × Int)) (k : Nat) (h : sumF (xs.take k) = none) : sumF xs = none := by
  have : xs = xs.take k ++ xs.drop k := by simp
  rw [this]
  unfold sumF at h ⊢
  rw [List.foldlM_append, h]
  rfl
theorem sumF_bad (xs : List (Int × Int)) (k : Nat) (hk : k < xs.length) (h : fracB (xs.getD k (0, 0)).1 (xs.getD k (0, 0)).2 = false) : sumF xs = none := by
  apply sumF_none xs (k + 1)
  rw [sumF_take xs k hk]
  cases sumF (xs.take k) with
  | none => rfl
  | some s =>
    show stepF s _ = none
    unfold stepF
    rw [h]
    rfl

theorem two_set {w : World} {n : Nat} {u v x y : Value} (h : Two w n u v) : Two ((w.setCell ⟨n, 0, none⟩ x).setCell ⟨n, 1, none⟩ y) n x y := by
  obtain ⟨h0, h1, h2, h3, h4⟩ := h
  obtain ⟨r0, r1⟩ := two_cells h0 h1
  refine ⟨?_, r1 _ _, ?_, ?_, by simpa [World.setCell] using h4⟩
  · rw [World.cell?_setCell_other _ _ _ _ (by simp)]; exact r0 _
  · rw [World.frozen?_setCell, World.frozen?_setCell]; exact h2
  · rw [World.frozen?_setCell, World.frozen?_setCell]; exact h3
theorem two_other {w : World} {n m i : Nat} {x y v : Value} (h : Two w n x y) (hne : m ≠ n) : Two (w.setCell ⟨m, i, none⟩ v) n x y := by
  obtain ⟨h0, h1, h2, h3, h4⟩ := h
  refine ⟨?_, ?_, ?_, ?_, by simpa [World.setCell] using h4⟩
  · rw [World.cell?_setCell_other _ _ _ _ (by first | (simp; done) | (simp; omega))]; exact h0
  · rw [World.cell?_setCell_other _ _ _ _ (by first | (simp; done) | (simp; omega))]; exact h1
  · rw [World.frozen?_setCell]; exact h2
  · rw [World.frozen?_setCell]; exact h3
theorem two_below {w w' : World} {n : Nat} {x y : Value} (h : Two w n x y) (hb : Below w.heap.size w w') : Two w' n x y := two_on h hb
theorem two_alloc {w : World} {n : Nat} {x y : Value} (h : Two w n x y) (o : Obj) : Two (w.alloc o) n x y := two_below h ((Below.refl _ _).alloc (Nat.le_refl _) o)
theorem two_mk (w : World) (x y : Value) (T : TypeId) : Two (w.alloc (.cells #[x, y] T)) w.heap.size x y := ⟨by go_simp, by go_simp, by go_simp, by go_simp, by simp⟩
theorem kept_trans {B B' : Nat} {w0 w1 w2 : World} (h : Kept B w0 w1) (k : Kept B' w1 w2) (hb : B ≤ B') : Kept B w0 w2 := ⟨h.1.trans (k.1.mono hb), h.2⟩

theorem stepF_good {s p : Int × Int} (hp : fracB p.1 p.2 = true) : stepF s p = if mkB (s.1 * p.2 + p.1 * s.2) (s.2 * p.2) = true then some (mkN (s.1 * p.2 + p.1 * s.2) (s.2 * p.2), mkD (s.1 * p.2 + p.1 * s.2) (s.2 * p.2)) else none := by
  unfold stepF; rw [if_pos hp]
theorem mk_no {n d : Int} (h : mkB n d = false) : mkN n d = 0 ∧ mkD n d = 0 := by unfold mkN mkD; rw [h]; exact ⟨rfl, rfl⟩
theorem prods {a b c d : Int} (h : fracB a b = true) (h' : fracB c d = true) : -100000000000000000 ≤ a * d ∧ a * d ≤ 100000000000000000 ∧ -100000000000000000 ≤ c * b ∧ c * b ≤ 100000000000000000 ∧ 1 ≤ b * d ∧ b * d ≤ 100000000000000000 := by
  obtain ⟨a1, a2, a3, a4⟩ := frac_bd h
  obtain ⟨c1, c2, c3, c4⟩ := frac_bd h'
  obtain ⟨p1, p2⟩ := prod_bd a d 100000000 100000 (by omega) (by omega) (by omega) (by omega)
  obtain ⟨p3, p4⟩ := prod_bd c b 100000000 100000 (by omega) (by omega) (by omega) (by omega)
  obtain ⟨p5, p6⟩ := prod_bd b d 100000 100000 (by omega) (by omega) (by omega) (by omega)
  have := prod_pos b d a1 c1
  omega

set_option maxHeartbeats 1600000 in
theorem implSumFracs_any (A : Option Addr) (n c : Nat) (xs : List (Int × Int)) (w : World) (hr : RdP w A n xs) (hn : n ≤ 100) (r : Option (Int × Int)) (hs : sumF xs = r) :
    Calls Try.prog 44 #[.slice A n c] w fun e w' => e = .returned (.tuple #[.agg #[.int .i64 (r.getD (0, 0)).1, .int .i64 (r.getD (0, 0)).2], .bool r.isSome]) ∧ Below w.heap.size w w' := by
  have HR := hide hr
  have hlen := hide hr.1
  have HS := hide hs
  clear hr hs
  go_enter Try.func44, Try.ntmps44
  go_wp2
  go_loopw [5, 7, 15] (fun ok _ i wr => ∃ (k : Nat) (s : Int × Int), k ≤ n ∧ i = .int .i64 k ∧ ok = .bool true ∧ Hid (sumF (xs.take k) = some s) ∧ Kept w.heap.size w wr ∧ Hid (Two wr w.heap.size (.int .i64 0) (.int .i64 0)) ∧ Hid (Two wr (w.heap.size + 1) (.int .i64 s.1) (.int .i64 s.2))) (fun _ _ i _ => n - (intOf i).toNat)
  case atStart => exact ⟨0, (0, 1), Nat.zero_le _, rfl, rfl, rfl, ((Kept.start (Nat.le_refl _)).alloc _).alloc _, two_alloc (two_mk _ _ _ _) _, by have := two_mk (w.alloc (.cells #[.int .i64 0, .int .i64 0] 26)) (.int .i64 0) (.int .i64 1) 26; simpa [Hid] using this⟩
  case round =>
    obtain ⟨k, s, hk, rfl, rfl, HF, HK, HZ, HT⟩ := hrel
    obtain ⟨z0, z1, z2, z3, z4⟩ := HZ.out
    obtain ⟨t0, t1, t2, t3, t4⟩ := HT.out
    by_cases hlt : k < n
    · obtain ⟨b, off, rfl, hb, hc, hc'⟩ := (HR.out).at_ hlt
      have hlt' : (k : Int) < (n : Int) := by omega
      have hc1 := (HK.cells _ _ hb).trans hc
      have hc2 := (HK.cells _ _ hb).trans hc'
      have hbr : b < wr.heap.size := Nat.lt_of_lt_of_le hb HK.size
      have HSP := hide (sumF_take xs k (by rw [hlen.out]; exact hlt))
      have hso := sumF_ok _ _ HF.out
      rw [HF.out] at HSP
      obtain ⟨p, hp⟩ : ∃ p, Hid (xs.getD k (0, 0) = p) := ⟨_, rfl⟩
      rw [hp.out] at hc1 hc2 HSP
      obtain ⟨x, y⟩ := p
      obtain ⟨s1, s2⟩ := s
      have HB := hide (show sumF (xs.take (k + 1)) = stepF (s1, s2) (x, y) from HSP.out)
      clear HSP hc hc' hb
      cases hg : fracB x y
      · have HN : Hid (r = none) := by
          unfold Hid
          rw [← HS.out]
          exact sumF_bad xs k (by rw [hlen.out]; exact hlt) (by rw [hp.out]; exact hg)
        have hgg : (fracB s1 s2 && fracB x y) = false := by rw [hg]; simp
        replace hgg := hide hgg
        clear hg hso
        go_wp2_with fail
        refine (implAddFracs_no _ _ _ _ _ hgg.out).mono ?_
        rintro e w2 ⟨rfl, hb⟩
        have hq := two_on (two_alloc HZ.out _) hb
        have hq' := two_on (two_alloc HT.out _) hb
        obtain ⟨z0', z1', z2', z3', z4'⟩ := hq
        obtain ⟨t0', t1', t2', t3', t4'⟩ := hq'
        obtain ⟨r0, r1⟩ := two_cells (w := (w2.setCell ⟨w.heap.size + 1, 0, none⟩ (.int .i64 0)).setCell ⟨w.heap.size + 1, 1, none⟩ (.int .i64 0)) (b := w.heap.size) (x := .int .i64 0) (y := .int .i64 0) (by go_simp) (by go_simp)
        go_wp2
        refine bodyPost_ret (v := .tuple #[.agg #[.int .i64 0, .int .i64 0], .bool false]) (by simp [results, Try.results44, go_sem, r0, r1]) rfl ⟨by rw [HN.out]; rfl, ?_⟩
        exact Below.setCell (Below.setCell (Below.setCell (Below.setCell ((HK.1.alloc HK.size _).trans (hb.mono (by have := HK.size; simp; omega))) (by simp) _) (by simp) _) (Nat.le_refl _) _) (Nat.le_refl _) _
      · obtain ⟨p1, p2, p3, p4, p5, p6⟩ := prods hso hg
        have hgg : (fracB s1 s2 && fracB x y) = true := by rw [hso, hg]; rfl
        have HST := hide (stepF_good (s := (s1, s2)) (p := (x, y)) hg)
        replace hgg := hide hgg
        clear hg hso
        cases hm : mkB (s1 * y + x * s2) (s2 * y)
        · have HN : Hid (r = none) := by
            unfold Hid
            rw [← HS.out]
            apply sumF_none xs (k + 1)
            rw [HB.out, HST.out]
            simp [hm]
          obtain ⟨m1, m2⟩ := mk_no hm
          replace m1 := hide m1
          replace m2 := hide m2
          replace hm := hide hm
          go_wp2_with fail
          refine (implAddFracs_yes _ _ _ _ _ hgg.out).mono ?_
          rintro e w2 ⟨rfl, hb⟩
          rw [m1.out, m2.out, hm.out]
          have hq := two_on (two_alloc HZ.out _) hb
          have hq' := two_on (two_alloc HT.out _) hb
          obtain ⟨z0', z1', z2', z3', z4'⟩ := hq
          obtain ⟨t0', t1', t2', t3', t4'⟩ := hq'
          obtain ⟨r0, r1⟩ := two_cells (w := (w2.setCell ⟨w.heap.size + 1, 0, none⟩ (.int .i64 0)).setCell ⟨w.heap.size + 1, 1, none⟩ (.int .i64 0)) (b := w.heap.size) (x := .int .i64 0) (y := .int .i64 0) (by go_simp) (by go_simp)
          go_wp2
          refine bodyPost_ret (v := .tuple #[.agg #[.int .i64 0, .int .i64 0], .bool false]) (by simp [results, Try.results44, go_sem, r0, r1]) rfl ⟨by rw [HN.out]; rfl, ?_⟩
          exact Below.setCell (Below.setCell (Below.setCell (Below.setCell ((HK.1.alloc HK.size _).trans (hb.mono (by have := HK.size; simp; omega))) (by simp) _) (by simp) _) (Nat.le_refl _) _) (Nat.le_refl _) _
        · have HNX := hide (show sumF (xs.take (k + 1)) = some (mkN (s1 * y + x * s2) (s2 * y), mkD (s1 * y + x * s2) (s2 * y)) by rw [HB.out, HST.out]; simp [hm])
          replace hm := hide hm
          go_wp2_with fail
          refine (implAddFracs_yes _ _ _ _ _ hgg.out).mono ?_
          rintro e w2 ⟨rfl, hb⟩
          rw [hm.out]
          have hq := two_on (two_alloc HZ.out _) hb
          have hq' := two_on (two_alloc HT.out _) hb
          have hqH := hide hq
          have hqH' := hide hq'
          obtain ⟨z0', z1', z2', z3', z4'⟩ := hq
          obtain ⟨t0', t1', t2', t3', t4'⟩ := hq'
          have HK2 : Kept w.heap.size w w2 := (HK.alloc _).step hb
          go_wp2
          go_roundw
          case rel => first | exact ⟨k + 1, (mkN (s1 * y + x * s2) (s2 * y), mkD (s1 * y + x * s2) (s2 * y)), by omega, by go_num, rfl, HNX, (HK2.setCell (by simp) _).setCell (by simp) _, two_other (two_other hqH.out (by omega)) (by omega), two_set hqH'.out⟩ | ((repeat apply Exists.intro); refine ⟨?_, rfl⟩; exact ⟨k + 1, (mkN (s1 * y + x * s2) (s2 * y), mkD (s1 * y + x * s2) (s2 * y)), by omega, by go_num, rfl, HNX, (HK2.setCell (by simp) _).setCell (by simp) _, two_other (two_other hqH.out (by omega)) (by omega), two_set hqH'.out⟩)
          case measure => simp [intOf]; omega
    · have hkn : k = n := by omega
      subst hkn
      have HN : Hid (r = some s) := by
        unfold Hid
        rw [← HS.out, ← HF.out, List.take_of_length_le (by rw [hlen.out]; exact Nat.le_refl _)]
      obtain ⟨r0, r1⟩ := two_cells (w := wr) (b := w.heap.size) z0 z1
      go_wp2
      refine bodyPost_ret (v := .tuple #[.agg #[.int .i64 s.1, .int .i64 s.2], .bool true]) (by simp [results, Try.results44, go_sem, r0, r1]) rfl ⟨by rw [HN.out]; rfl, ?_⟩
      exact Below.setCell (Below.setCell HK.1 (Nat.le_refl _) _) (Nat.le_refl _) _
end Go.Proofs.Ytainbffcnaafkaa
