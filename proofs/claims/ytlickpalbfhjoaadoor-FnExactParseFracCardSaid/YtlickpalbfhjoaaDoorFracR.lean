/- ParseFrac by the reference and by the program: both hand back what FracP calls readFrac; for texts of at most 2^20 bytes; the program's premises: Go's table of powers of ten and strconv's two errors are laid, internal/bytealg.MaxLen holds some number. -/
import Derived.Test.YtlickpalbfhjoaaDoorNum9
import Derived.Test.YtlickpalbfhjoaaDoorRead
namespace Go.Proofs.YtlickpalbfhjoaaDoor
open Go.RowKit

/-- What both functions hand back. -/
def RetF (s : ByteArray) (w : World) (e : Ending) (w' : World) : Prop := e = .returned (.tuple #[.agg #[.int .i64 (pfN s), .int .i64 (pfD s)], .bool (pfOk s)]) ∧ Below w.heap.size w w'
theorem RetF.no {s : ByteArray} {w w' : World} (h : readFrac num9 s.data.toList = none) (hb : Below w.heap.size w w') : RetF s w (.returned (.tuple #[.agg #[.int .i64 0, .int .i64 0], .bool false])) w' := by
  unfold RetF pfN pfD pfOk; rw [h]; exact ⟨rfl, hb⟩
theorem RetF.yes {s : ByteArray} {w w' : World} {a b : Int} (h : readFrac num9 s.data.toList = some (a, b)) (hb : Below w.heap.size w w') : RetF s w (.returned (.tuple #[.agg #[.int .i64 a, .int .i64 b], .bool true])) w' := by
  unfold RetF pfN pfD pfOk; rw [h]; exact ⟨rfl, hb⟩
theorem rf_none1 {num : List UInt8 → Option Int} {l : List UInt8} (h : num (l.take (posC l 47)) = none) : readFrac num l = none := by unfold readFrac; rw [h]
theorem rf_none2 {num : List UInt8 → Option Int} {l : List UInt8} (h : denOf num l = none) : readFrac num l = none := by
  unfold readFrac; rw [h]
  cases num (l.take (posC l 47)) <;> rfl
theorem rf_yes {num : List UInt8 → Option Int} {l : List UInt8} {n d : Int} (h : num (l.take (posC l 47)) = some n) (h2 : denOf num l = some d) (hg : fracB n d = true) (ht : fText n d = ⟨l.toArray⟩) : readFrac num l = some (n, d) := by
  unfold readFrac; rw [h, h2]; simp only; rw [if_pos ⟨hg, ht⟩]
theorem rf_no {num : List UInt8 → Option Int} {l : List UInt8} {n d : Int} (h : num (l.take (posC l 47)) = some n) (h2 : denOf num l = some d) (hg : ¬ (fracB n d = true ∧ fText n d = ⟨l.toArray⟩)) : readFrac num l = none := by
  unfold readFrac; rw [h, h2]; simp only; rw [if_neg hg]
theorem den_at {num : List UInt8 → Option Int} {l : List UInt8} (h : posC l 47 < l.length) : denOf num l = num (l.drop (posC l 47 + 1)) := by unfold denOf; rw [if_pos h]
theorem den_no {num : List UInt8 → Option Int} {l : List UInt8} (h : ¬ posC l 47 < l.length) : denOf num l = some 1 := by unfold denOf; rw [if_neg h]
theorem n9_some {s : ByteArray} {v : Int} (h : num9 s.data.toList = some v) : n9N s = v ∧ n9Ok s = true := by unfold n9N n9Ok; rw [h]; exact ⟨rfl, rfl⟩
theorem n9_none {s : ByteArray} (h : num9 s.data.toList = none) : n9N s = 0 ∧ n9Ok s = false := by unfold n9N n9Ok; rw [h]; exact ⟨rfl, rfl⟩
theorem rd_some {s : ByteArray} {v : Int} (h : implRead s.data.toList = some v) : readN s = v ∧ readOk s = true := by unfold readN readOk; rw [h]; exact ⟨rfl, rfl⟩
theorem rd_none {s : ByteArray} (h : implRead s.data.toList = none) : readN s = 0 ∧ readOk s = false := by unfold readN readOk; rw [h]; exact ⟨rfl, rfl⟩
theorem byte_text (s : ByteArray) : (⟨s.data.toList.toArray⟩ : ByteArray) = s := by simp
theorem ext_bytesF {a b : ByteArray} (h : a.data.toList = b.data.toList) : a = b := by
  apply ByteArray.ext
  exact Array.ext' h
theorem two_under {w : World} {b : Nat} {x y : Value} (u v : Value) (h0 : w.cell? ⟨b, 0, none⟩ = some x) (h1 : w.cell? ⟨b, 1, none⟩ = some y) (hb : b < w.heap.size) (o : Obj) :
    (((w.setCell ⟨b, 0, none⟩ u).setCell ⟨b, 1, none⟩ v).alloc o).cell? ⟨b, 0, none⟩ = some u ∧ (((w.setCell ⟨b, 0, none⟩ u).setCell ⟨b, 1, none⟩ v).alloc o).cell? ⟨b, 1, none⟩ = some v := by
  obtain ⟨r0, r1⟩ := two_cells h0 h1
  have hal : Below ((w.setCell ⟨b, 0, none⟩ u).setCell ⟨b, 1, none⟩ v).heap.size ((w.setCell ⟨b, 0, none⟩ u).setCell ⟨b, 1, none⟩ v) (((w.setCell ⟨b, 0, none⟩ u).setCell ⟨b, 1, none⟩ v).alloc o) := (Below.refl _ _).alloc (Nat.le_refl _) _
  have hz : b < ((w.setCell ⟨b, 0, none⟩ u).setCell ⟨b, 1, none⟩ v).heap.size := by simpa [World.setCell] using hb
  refine ⟨(hal.cell (p := ⟨b, 0, none⟩) hz).trans ?_, (hal.cell (p := ⟨b, 1, none⟩) hz).trans (r1 u v)⟩
  rw [World.cell?_setCell_other _ _ _ _ (by simp)]
  exact r0 u
theorem take_bytes (s : ByteArray) (p : Nat) : (s.extract 0 p).data.toList = s.data.toList.take p := by
  rw [ByteArray.data_extract, Array.toList_extract, List.extract_eq_take_drop]; simp
theorem drop_bytes (s : ByteArray) (p : Nat) : (s.extract p s.size).data.toList = s.data.toList.drop p := by
  rw [ByteArray.data_extract, Array.toList_extract, List.extract_eq_take_drop, List.take_of_length_le (by simp)]
theorem pos_lt (s : ByteArray) (k : Nat) (h : k < posC s.data.toList 47) (hk : k < s.size) : ¬ s[k] = 47 := by
  intro e
  have h1 := byte_at' s k hk
  rw [e] at h1
  have h2 : (s.data.toList.takeWhile (· != 47))[k]? = some 47 := by
    have hp : s.data.toList.takeWhile (· != 47) <+: s.data.toList := List.takeWhile_prefix _
    obtain ⟨t, ht⟩ := hp
    rw [← ht, List.getElem?_append_left h] at h1
    exact h1
  have h3 := List.mem_of_getElem? h2
  have := List.all_takeWhile (p := (· != (47 : UInt8))) (l := s.data.toList)
  rw [List.all_eq_true] at this
  have := this _ h3
  simp at this
theorem pos_at (s : ByteArray) (hk : posC s.data.toList 47 < s.size) : s[posC s.data.toList 47] = 47 := by
  have hi := index_pos 47 s.data.toList
  rw [if_pos (by simpa using hk)] at hi
  have h1 := byte_at' s _ hk
  have h2 : s.data.toList[posC s.data.toList 47]? = some 47 := by
    have : ∀ l : List UInt8, posC l 47 < l.length → l[posC l 47]? = some 47 := by
      intro l
      induction l with
      | nil => intro h; simp [posC] at h
      | cons b r ih =>
        intro h
        by_cases hb : b = 47
        · subst hb; simp [posC]
        · have hb2 : (b != 47) = true := by simpa using hb
          have e : posC (b :: r) 47 = posC r 47 + 1 := by unfold posC; rw [List.takeWhile_cons, hb2]; simp
          rw [e] at h ⊢
          simp at h ⊢
          have := ih h
          simpa using this
    exact this _ (by simpa using hk)
  rw [h1] at h2
  exact Option.some.inj h2

set_option maxRecDepth 100000 in
set_option maxHeartbeats 3200000 in
theorem spec_ParseFrac (s : ByteArray) (w : World) (hs : s.size ≤ 1048576) : Calls Tryd.prog 28 #[.string s] w (RetF s w) := by
  obtain ⟨p, HP⟩ : ∃ p, Hid (posC s.data.toList 47 = p) := ⟨_, rfl⟩
  have hsl : s.data.toList.length = s.size := by simp
  have hps : p ≤ s.size := by have := posC_le s.data.toList 47; rw [HP.out, hsl] at this; exact this
  have h1 := fun w => l2Number_any (s.extract 0 p) w (by rw [ByteArray.size_extract]; omega)
  have h2 := fun w => l2Number_any (s.extract (p + 1) s.size) w (by rw [ByteArray.size_extract]; omega)
  unfold Ret9 at h1 h2
  have hlt : Hid (∀ k (hk : k < s.size), k < p → ¬ s[k].toNat = 47) := fun k hk h e => pos_lt s k (by rw [HP.out]; exact h) hk (UInt8.toNat_inj.1 e)
  have hat : Hid (∀ hk : p < s.size, s[p].toNat = 47) := fun hk => by
    have e := HP.out
    subst e
    rw [pos_at s hk]; rfl
  have K0 : Hid (∀ (num : List UInt8 → Option Int) (v : Option Int), num (s.extract 0 p).data.toList = v → num (s.data.toList.take (posC s.data.toList 47)) = v) := fun num v h => by rw [HP.out, ← take_bytes]; exact h
  have K1 : Hid (p < s.size → ∀ (num : List UInt8 → Option Int) (v : Option Int), num (s.extract (p + 1) s.size).data.toList = v → denOf num s.data.toList = v) := fun hp num v h => by rw [den_at (by rw [HP.out, hsl]; exact hp), HP.out, ← drop_bytes]; exact h
  have K2 : Hid (¬ p < s.size → ∀ num : List UInt8 → Option Int, denOf num s.data.toList = some 1) := fun hp num => den_no (by rw [HP.out, hsl]; exact hp)
  clear hsl
  replace h1 := hide h1
  replace h2 := hide h2
  go_enter Tryd.func28, Tryd.ntmps28
  go_wp2
  go_loop [4] (fun i => ∃ k : Nat, k ≤ p ∧ i = .int .i64 k) (fun i => p - (intOf i).toNat)
  case atStart => exact ⟨0, Nat.zero_le _, rfl⟩
  case round =>
    obtain ⟨k, hk, rfl⟩ := hrel
    by_cases hkp : k < p
    · have hks : k < s.size := by omega
      have hne := hlt.out k hks hkp
      have hb := s[k].toNat_lt
      go_wp2
      go_round
      case rel => exact ⟨k + 1, by omega, by go_num⟩
      case measure => first | (simp [intOf]; done) | (simp [intOf]; omega)
    · obtain rfl : k = p := by omega
      clear hkp hk
      by_cases hp : k < s.size
      · have h47 := hat.out hp
        replace h1 := h1.out
        replace h2 := h2.out
        have V1 : Hid (∀ b, n9Ok (s.extract 0 k) = b → (b = false → num9 (s.data.toList.take (posC s.data.toList 47)) = none) ∧ (b = true → num9 (s.data.toList.take (posC s.data.toList 47)) = some (n9N (s.extract 0 k)))) := fun b hb => by
          cases hv : num9 (s.extract 0 k).data.toList with
          | none => have e := n9_none hv; rw [e.2] at hb; subst hb; exact ⟨fun _ => K0.out _ _ hv, fun h => by cases h⟩
          | some v => have e := n9_some hv; rw [e.2] at hb; subst hb; exact ⟨fun h => by (cases h), fun _ => by rw [e.1]; exact K0.out _ _ hv⟩
        have V2 : Hid (∀ b, n9Ok (s.extract (k + 1) s.size) = b → (b = false → denOf num9 s.data.toList = none) ∧ (b = true → denOf num9 s.data.toList = some (n9N (s.extract (k + 1) s.size)))) := fun b hb => by
          cases hv : num9 (s.extract (k + 1) s.size).data.toList with
          | none => have e := n9_none hv; rw [e.2] at hb; subst hb; exact ⟨fun _ => K1.out hp _ _ hv, fun h => by cases h⟩
          | some v => have e := n9_some hv; rw [e.2] at hb; subst hb; exact ⟨fun h => by (cases h), fun _ => by rw [e.1]; exact K1.out hp _ _ hv⟩
        obtain ⟨d, hd⟩ : ∃ d, d = n9N (s.extract (k + 1) s.size) := ⟨_, rfl⟩
        obtain ⟨g2, hg2⟩ : ∃ g2, g2 = n9Ok (s.extract (k + 1) s.size) := ⟨_, rfl⟩
        have W2 := hide (V2.out g2 hg2.symm)
        rw [← hd] at W2
        rw [← hd, ← hg2] at h2
        obtain ⟨n, hn⟩ : ∃ n, n = n9N (s.extract 0 k) := ⟨_, rfl⟩
        obtain ⟨g1, hg1⟩ : ∃ g1, g1 = n9Ok (s.extract 0 k) := ⟨_, rfl⟩
        have W1 := hide (V1.out g1 hg1.symm)
        rw [← hn] at W1
        rw [← hn, ← hg1] at h1
        have Kf1 : Hid (g1 = false → readFrac num9 s.data.toList = none) := fun h => by exact rf_none1 (W1.out.1 h)
        have Kf2 : Hid (g2 = false → readFrac num9 s.data.toList = none) := fun h => by exact rf_none2 (W2.out.1 h)
        have Kn : Hid (g1 = true → g2 = true → ¬ (fracB n d = true ∧ fText n d = s) → readFrac num9 s.data.toList = none) := fun h h2 h3 => by exact rf_no (W1.out.2 h) (W2.out.2 h2) (by rw [byte_text]; exact h3)
        have Ky : Hid (g1 = true → g2 = true → fracB n d = true → fText n d = s → readFrac num9 s.data.toList = some (n, d)) := fun h h2 h3 h4 => by exact rf_yes (W1.out.2 h) (W2.out.2 h2) h3 (by rw [byte_text]; exact h4)
        clear hd hg2 hn hg1 V1 V2 W1 W2
        replace h1 := hide h1
        replace h2 := hide h2
        go_wp2_with fail
        refine (h1.out _).mono ?_
        rintro e w1 ⟨rfl, rfl⟩
        go_wp2_with fail
        refine (h2.out _).mono ?_
        rintro e w1 ⟨rfl, rfl⟩
        obtain ⟨k0, k1, k2, k3, k4⟩ := two_new (W := w) (x := .int .i64 0) (y := .int .i64 0) (T := 28) (Below.refl _ _)
        have hal : Below (w.alloc (.cells #[.int .i64 0, .int .i64 0] 28)).heap.size (w.alloc (.cells #[.int .i64 0, .int .i64 0] 28)) ((w.alloc (.cells #[.int .i64 0, .int .i64 0] 28)).alloc (.cells #[.int .i64 n, .int .i64 d] 28)) := (Below.refl _ _).alloc (Nat.le_refl _) _
        have a0 : ((w.alloc (.cells #[.int .i64 0, .int .i64 0] 28)).alloc (.cells #[.int .i64 n, .int .i64 d] 28)).cell? ⟨w.heap.size, 0, none⟩ = some (.int .i64 0) := (hal.cell (p := ⟨w.heap.size, 0, none⟩) k4).trans k0
        have a1 : ((w.alloc (.cells #[.int .i64 0, .int .i64 0] 28)).alloc (.cells #[.int .i64 n, .int .i64 d] 28)).cell? ⟨w.heap.size, 1, none⟩ = some (.int .i64 0) := (hal.cell (p := ⟨w.heap.size, 1, none⟩) k4).trans k1
        have b0 : ((w.alloc (.cells #[.int .i64 0, .int .i64 0] 28)).alloc (.cells #[.int .i64 n, .int .i64 d] 28)).frozen? ⟨w.heap.size, 0, none⟩ = false := (hal.frozen (p := ⟨w.heap.size, 0, none⟩) k4).trans k2
        have b1 : ((w.alloc (.cells #[.int .i64 0, .int .i64 0] 28)).alloc (.cells #[.int .i64 n, .int .i64 d] 28)).frozen? ⟨w.heap.size, 1, none⟩ = false := (hal.frozen (p := ⟨w.heap.size, 1, none⟩) k4).trans k3
        clear hal
        cases g1
        · have HV := hide (Kf1.out (by first | rfl | trivial))
          go_wp2
          refine bodyPost_ret (v := .tuple #[.agg #[.int .i64 0, .int .i64 0], .bool false]) (by simp [results, Tryd.results28, go_sem]) rfl (RetF.no HV.out ?_)
          exact (by repeat (first | exact Below.refl _ _ | (refine below_drewN ?_ _) | (refine Below.drew ?_) | (refine Below.alloc ?_ (by first | exact Nat.le_refl _ | (simp; done) | (simp; omega) | omega) _) | (refine Below.setCell ?_ (by first | exact Nat.le_refl _ | (simp; done) | (simp; omega) | omega) _) | (refine Below.trans ?_ (Below.mono (by assumption) (by first | exact Nat.le_refl _ | (simp; done) | (simp; omega) | omega)))))
        cases g2
        · have HV := hide (Kf2.out (by first | rfl | trivial))
          go_wp2
          refine bodyPost_ret (v := .tuple #[.agg #[.int .i64 0, .int .i64 0], .bool false]) (by simp [results, Tryd.results28, go_sem]) rfl (RetF.no HV.out ?_)
          exact (by repeat (first | exact Below.refl _ _ | (refine below_drewN ?_ _) | (refine Below.drew ?_) | (refine Below.alloc ?_ (by first | exact Nat.le_refl _ | (simp; done) | (simp; omega) | omega) _) | (refine Below.setCell ?_ (by first | exact Nat.le_refl _ | (simp; done) | (simp; omega) | omega) _) | (refine Below.trans ?_ (Below.mono (by assumption) (by first | exact Nat.le_refl _ | (simp; done) | (simp; omega) | omega)))))
        cases hg : fracB n d
        · have HV := hide (Kn.out (by first | rfl | trivial) (by first | rfl | trivial) (fun h => by rw [hg] at h; exact absurd h.1 (by decide)))
          have h4 : ∀ w, Calls Tryd.prog 43 #[.agg #[.int .i64 n, .int .i64 d]] w fun e w' => e = .returned (.bool false) ∧ Below w.heap.size w w' := fun w => by rw [← hg]; exact l2Good_any n d w
          clear hg
          go_wp2_with fail
          refine (h4 _).mono ?_
          rintro e w2 ⟨rfl, hb2⟩
          obtain ⟨hc2, hf2⟩ := bcell hb2
          go_wp2
          obtain ⟨r0, r1⟩ := two_cells (w := w2) (b := w.heap.size) (x := .int .i64 0) (y := .int .i64 0) (by rw [hc2 _ _ (by first | (simp; done) | (simp; omega) | omega)]; exact a0) (by rw [hc2 _ _ (by first | (simp; done) | (simp; omega) | omega)]; exact a1)
          refine bodyPost_ret (v := .tuple #[.agg #[.int .i64 0, .int .i64 0], .bool false]) (by simp [results, Tryd.results28, go_sem, r0, r1]) rfl (RetF.no HV.out ?_)
          exact (by repeat (first | exact Below.refl _ _ | (refine below_drewN ?_ _) | (refine Below.drew ?_) | (refine Below.alloc ?_ (by first | exact Nat.le_refl _ | (simp; done) | (simp; omega) | omega) _) | (refine Below.setCell ?_ (by first | exact Nat.le_refl _ | (simp; done) | (simp; omega) | omega) _) | (refine Below.trans ?_ (Below.mono (by assumption) (by first | exact Nat.le_refl _ | (simp; done) | (simp; omega) | omega)))))
        have h4 : ∀ w, Calls Tryd.prog 43 #[.agg #[.int .i64 n, .int .i64 d]] w fun e w' => e = .returned (.bool true) ∧ Below w.heap.size w w' := fun w => by rw [← hg]; exact l2Good_any n d w
        have hbd := frac_bd hg
        have h5 : ∀ w, Calls Tryd.prog 44 #[.agg #[.int .i64 n, .int .i64 d]] w fun e w' => e = .returned (.string (fText n d)) ∧ Below w.heap.size w w' := l2Text_any n d (by omega) (by omega)
        by_cases ht2 : fText n d = s
        · have HV := hide (Ky.out (by first | rfl | trivial) (by first | rfl | trivial) hg ht2)
          rw [ht2] at h5
          clear hg ht2 hbd
          go_wp2_with fail
          refine (h4 _).mono ?_
          rintro e w2 ⟨rfl, hb2⟩
          obtain ⟨hc2, hf2⟩ := bcell hb2
          have hz2 := hb2.size
          simp at hz2
          have hy2 : w.heap.size + 1 < w2.heap.size := by omega
          have hx2 : w.heap.size < w2.heap.size := by omega
          go_wp2_with fail
          refine (h5 _).mono ?_
          rintro e w3 ⟨rfl, hb3⟩
          obtain ⟨hc3, hf3⟩ := bcell hb3
          have hz3 := hb3.size
          go_wp2
          obtain ⟨r0, r1⟩ := two_cells (w := w3) (b := w.heap.size) (x := .int .i64 0) (y := .int .i64 0) (by rw [hc3 _ _ (by first | (simp; done) | (simp; omega) | omega), hc2 _ _ (by first | (simp; done) | (simp; omega) | omega)]; exact a0) (by rw [hc3 _ _ (by first | (simp; done) | (simp; omega) | omega), hc2 _ _ (by first | (simp; done) | (simp; omega) | omega)]; exact a1)
          refine bodyPost_ret (v := .tuple #[.agg #[.int .i64 n, .int .i64 d], .bool true]) (by simp [results, Tryd.results28, go_sem, r0, r1]) rfl (RetF.yes HV.out ?_)
          exact (by repeat (first | exact Below.refl _ _ | (refine below_drewN ?_ _) | (refine Below.drew ?_) | (refine Below.alloc ?_ (by first | exact Nat.le_refl _ | (simp; done) | (simp; omega) | omega) _) | (refine Below.setCell ?_ (by first | exact Nat.le_refl _ | (simp; done) | (simp; omega) | omega) _) | (refine Below.trans ?_ (Below.mono (by assumption) (by first | exact Nat.le_refl _ | (simp; done) | (simp; omega) | omega)))))
        · have HV := hide (Kn.out (by first | rfl | trivial) (by first | rfl | trivial) (fun h => ht2 h.2))
          have hne := bytes_ne' ht2
          clear hg ht2 hbd
          generalize fText n d = u at h5 hne
          go_wp2_with fail
          refine (h4 _).mono ?_
          rintro e w2 ⟨rfl, hb2⟩
          obtain ⟨hc2, hf2⟩ := bcell hb2
          have hz2 := hb2.size
          simp at hz2
          have hy2 : w.heap.size + 1 < w2.heap.size := by omega
          have hx2 : w.heap.size < w2.heap.size := by omega
          go_wp2_with fail
          refine (h5 _).mono ?_
          rintro e w3 ⟨rfl, hb3⟩
          obtain ⟨hc3, hf3⟩ := bcell hb3
          have hz3 := hb3.size
          go_wp2
          obtain ⟨r0, r1⟩ := two_cells (w := w3) (b := w.heap.size) (x := .int .i64 0) (y := .int .i64 0) (by rw [hc3 _ _ (by first | (simp; done) | (simp; omega) | omega), hc2 _ _ (by first | (simp; done) | (simp; omega) | omega)]; exact a0) (by rw [hc3 _ _ (by first | (simp; done) | (simp; omega) | omega), hc2 _ _ (by first | (simp; done) | (simp; omega) | omega)]; exact a1)
          refine bodyPost_ret (v := .tuple #[.agg #[.int .i64 0, .int .i64 0], .bool false]) (by simp [results, Tryd.results28, go_sem, r0, r1]) rfl (RetF.no HV.out ?_)
          exact (by repeat (first | exact Below.refl _ _ | (refine below_drewN ?_ _) | (refine Below.drew ?_) | (refine Below.alloc ?_ (by first | exact Nat.le_refl _ | (simp; done) | (simp; omega) | omega) _) | (refine Below.setCell ?_ (by first | exact Nat.le_refl _ | (simp; done) | (simp; omega) | omega) _) | (refine Below.trans ?_ (Below.mono (by assumption) (by first | exact Nat.le_refl _ | (simp; done) | (simp; omega) | omega)))))
      · have hks : k = s.size := by omega
        replace h1 := h1.out
        have V1 : Hid (∀ b, n9Ok (s.extract 0 k) = b → (b = false → num9 (s.data.toList.take (posC s.data.toList 47)) = none) ∧ (b = true → num9 (s.data.toList.take (posC s.data.toList 47)) = some (n9N (s.extract 0 k)))) := fun b hb => by
          cases hv : num9 (s.extract 0 k).data.toList with
          | none => have e := n9_none hv; rw [e.2] at hb; subst hb; exact ⟨fun _ => K0.out _ _ hv, fun h => by cases h⟩
          | some v => have e := n9_some hv; rw [e.2] at hb; subst hb; exact ⟨fun h => by (cases h), fun _ => by rw [e.1]; exact K0.out _ _ hv⟩
        obtain ⟨d, hd⟩ : ∃ d : Int, d = 1 := ⟨_, rfl⟩
        obtain ⟨g2, hg2⟩ : ∃ g2, g2 = true := ⟨_, rfl⟩
        have W2 : Hid ((g2 = false → denOf num9 s.data.toList = none) ∧ (g2 = true → denOf num9 s.data.toList = some d)) := ⟨fun h => by (rw [hg2] at h; cases h), fun _ => by rw [hd]; exact K2.out hp _⟩
        obtain ⟨n, hn⟩ : ∃ n, n = n9N (s.extract 0 k) := ⟨_, rfl⟩
        obtain ⟨g1, hg1⟩ : ∃ g1, g1 = n9Ok (s.extract 0 k) := ⟨_, rfl⟩
        have W1 := hide (V1.out g1 hg1.symm)
        rw [← hn] at W1
        rw [← hn, ← hg1] at h1
        have Kf1 : Hid (g1 = false → readFrac num9 s.data.toList = none) := fun h => by exact rf_none1 (W1.out.1 h)
        have Kf2 : Hid (g2 = false → readFrac num9 s.data.toList = none) := fun h => by exact rf_none2 (W2.out.1 h)
        have Kn : Hid (g1 = true → g2 = true → ¬ (fracB n d = true ∧ fText n d = s) → readFrac num9 s.data.toList = none) := fun h h2 h3 => by exact rf_no (W1.out.2 h) (W2.out.2 h2) (by rw [byte_text]; exact h3)
        have Ky : Hid (g1 = true → g2 = true → fracB n d = true → fText n d = s → readFrac num9 s.data.toList = some (n, d)) := fun h h2 h3 h4 => by exact rf_yes (W1.out.2 h) (W2.out.2 h2) h3 (by rw [byte_text]; exact h4)
        clear hn hg1 V1 W1 W2
        subst hd
        subst hg2
        replace h1 := hide h1
        clear hks
        go_wp2_with fail
        refine (h1.out _).mono ?_
        rintro e w1 ⟨rfl, rfl⟩
        obtain ⟨k0, k1, k2, k3, k4⟩ := two_new (W := w) (x := .int .i64 0) (y := .int .i64 0) (T := 28) (Below.refl _ _)
        have hal : Below (w.alloc (.cells #[.int .i64 0, .int .i64 0] 28)).heap.size (w.alloc (.cells #[.int .i64 0, .int .i64 0] 28)) ((w.alloc (.cells #[.int .i64 0, .int .i64 0] 28)).alloc (.cells #[.int .i64 n, .int .i64 1] 28)) := (Below.refl _ _).alloc (Nat.le_refl _) _
        have a0 : ((w.alloc (.cells #[.int .i64 0, .int .i64 0] 28)).alloc (.cells #[.int .i64 n, .int .i64 1] 28)).cell? ⟨w.heap.size, 0, none⟩ = some (.int .i64 0) := (hal.cell (p := ⟨w.heap.size, 0, none⟩) k4).trans k0
        have a1 : ((w.alloc (.cells #[.int .i64 0, .int .i64 0] 28)).alloc (.cells #[.int .i64 n, .int .i64 1] 28)).cell? ⟨w.heap.size, 1, none⟩ = some (.int .i64 0) := (hal.cell (p := ⟨w.heap.size, 1, none⟩) k4).trans k1
        have b0 : ((w.alloc (.cells #[.int .i64 0, .int .i64 0] 28)).alloc (.cells #[.int .i64 n, .int .i64 1] 28)).frozen? ⟨w.heap.size, 0, none⟩ = false := (hal.frozen (p := ⟨w.heap.size, 0, none⟩) k4).trans k2
        have b1 : ((w.alloc (.cells #[.int .i64 0, .int .i64 0] 28)).alloc (.cells #[.int .i64 n, .int .i64 1] 28)).frozen? ⟨w.heap.size, 1, none⟩ = false := (hal.frozen (p := ⟨w.heap.size, 1, none⟩) k4).trans k3
        clear hal
        cases g1
        · have HV := hide (Kf1.out (by first | rfl | trivial))
          go_wp2
          refine bodyPost_ret (v := .tuple #[.agg #[.int .i64 0, .int .i64 0], .bool false]) (by simp [results, Tryd.results28, go_sem]) rfl (RetF.no HV.out ?_)
          exact (by repeat (first | exact Below.refl _ _ | (refine below_drewN ?_ _) | (refine Below.drew ?_) | (refine Below.alloc ?_ (by first | exact Nat.le_refl _ | (simp; done) | (simp; omega) | omega) _) | (refine Below.setCell ?_ (by first | exact Nat.le_refl _ | (simp; done) | (simp; omega) | omega) _) | (refine Below.trans ?_ (Below.mono (by assumption) (by first | exact Nat.le_refl _ | (simp; done) | (simp; omega) | omega)))))
        cases hg : fracB n 1
        · have HV := hide (Kn.out (by first | rfl | trivial) (by first | rfl | trivial) (fun h => by rw [hg] at h; exact absurd h.1 (by decide)))
          have h4 : ∀ w, Calls Tryd.prog 43 #[.agg #[.int .i64 n, .int .i64 1]] w fun e w' => e = .returned (.bool false) ∧ Below w.heap.size w w' := fun w => by rw [← hg]; exact l2Good_any n 1 w
          clear hg
          go_wp2_with fail
          refine (h4 _).mono ?_
          rintro e w2 ⟨rfl, hb2⟩
          obtain ⟨hc2, hf2⟩ := bcell hb2
          go_wp2
          obtain ⟨r0, r1⟩ := two_cells (w := w2) (b := w.heap.size) (x := .int .i64 0) (y := .int .i64 0) (by rw [hc2 _ _ (by first | (simp; done) | (simp; omega) | omega)]; exact a0) (by rw [hc2 _ _ (by first | (simp; done) | (simp; omega) | omega)]; exact a1)
          refine bodyPost_ret (v := .tuple #[.agg #[.int .i64 0, .int .i64 0], .bool false]) (by simp [results, Tryd.results28, go_sem, r0, r1]) rfl (RetF.no HV.out ?_)
          exact (by repeat (first | exact Below.refl _ _ | (refine below_drewN ?_ _) | (refine Below.drew ?_) | (refine Below.alloc ?_ (by first | exact Nat.le_refl _ | (simp; done) | (simp; omega) | omega) _) | (refine Below.setCell ?_ (by first | exact Nat.le_refl _ | (simp; done) | (simp; omega) | omega) _) | (refine Below.trans ?_ (Below.mono (by assumption) (by first | exact Nat.le_refl _ | (simp; done) | (simp; omega) | omega)))))
        have h4 : ∀ w, Calls Tryd.prog 43 #[.agg #[.int .i64 n, .int .i64 1]] w fun e w' => e = .returned (.bool true) ∧ Below w.heap.size w w' := fun w => by rw [← hg]; exact l2Good_any n 1 w
        have hbd := frac_bd hg
        have h5 : ∀ w, Calls Tryd.prog 44 #[.agg #[.int .i64 n, .int .i64 1]] w fun e w' => e = .returned (.string (fText n 1)) ∧ Below w.heap.size w w' := l2Text_any n 1 (by omega) (by omega)
        by_cases ht2 : fText n 1 = s
        · have HV := hide (Ky.out (by first | rfl | trivial) (by first | rfl | trivial) hg ht2)
          rw [ht2] at h5
          clear hg ht2 hbd
          go_wp2_with fail
          refine (h4 _).mono ?_
          rintro e w2 ⟨rfl, hb2⟩
          obtain ⟨hc2, hf2⟩ := bcell hb2
          have hz2 := hb2.size
          simp at hz2
          have hy2 : w.heap.size + 1 < w2.heap.size := by omega
          have hx2 : w.heap.size < w2.heap.size := by omega
          go_wp2_with fail
          refine (h5 _).mono ?_
          rintro e w3 ⟨rfl, hb3⟩
          obtain ⟨hc3, hf3⟩ := bcell hb3
          have hz3 := hb3.size
          go_wp2
          obtain ⟨r0, r1⟩ := two_cells (w := w3) (b := w.heap.size) (x := .int .i64 0) (y := .int .i64 0) (by rw [hc3 _ _ (by first | (simp; done) | (simp; omega) | omega), hc2 _ _ (by first | (simp; done) | (simp; omega) | omega)]; exact a0) (by rw [hc3 _ _ (by first | (simp; done) | (simp; omega) | omega), hc2 _ _ (by first | (simp; done) | (simp; omega) | omega)]; exact a1)
          refine bodyPost_ret (v := .tuple #[.agg #[.int .i64 n, .int .i64 1], .bool true]) (by simp [results, Tryd.results28, go_sem, r0, r1]) rfl (RetF.yes HV.out ?_)
          exact (by repeat (first | exact Below.refl _ _ | (refine below_drewN ?_ _) | (refine Below.drew ?_) | (refine Below.alloc ?_ (by first | exact Nat.le_refl _ | (simp; done) | (simp; omega) | omega) _) | (refine Below.setCell ?_ (by first | exact Nat.le_refl _ | (simp; done) | (simp; omega) | omega) _) | (refine Below.trans ?_ (Below.mono (by assumption) (by first | exact Nat.le_refl _ | (simp; done) | (simp; omega) | omega)))))
        · have HV := hide (Kn.out (by first | rfl | trivial) (by first | rfl | trivial) (fun h => ht2 h.2))
          have hne := bytes_ne' ht2
          clear hg ht2 hbd
          generalize fText n 1 = u at h5 hne
          go_wp2_with fail
          refine (h4 _).mono ?_
          rintro e w2 ⟨rfl, hb2⟩
          obtain ⟨hc2, hf2⟩ := bcell hb2
          have hz2 := hb2.size
          simp at hz2
          have hy2 : w.heap.size + 1 < w2.heap.size := by omega
          have hx2 : w.heap.size < w2.heap.size := by omega
          go_wp2_with fail
          refine (h5 _).mono ?_
          rintro e w3 ⟨rfl, hb3⟩
          obtain ⟨hc3, hf3⟩ := bcell hb3
          have hz3 := hb3.size
          go_wp2
          obtain ⟨r0, r1⟩ := two_cells (w := w3) (b := w.heap.size) (x := .int .i64 0) (y := .int .i64 0) (by rw [hc3 _ _ (by first | (simp; done) | (simp; omega) | omega), hc2 _ _ (by first | (simp; done) | (simp; omega) | omega)]; exact a0) (by rw [hc3 _ _ (by first | (simp; done) | (simp; omega) | omega), hc2 _ _ (by first | (simp; done) | (simp; omega) | omega)]; exact a1)
          refine bodyPost_ret (v := .tuple #[.agg #[.int .i64 0, .int .i64 0], .bool false]) (by simp [results, Tryd.results28, go_sem, r0, r1]) rfl (RetF.no HV.out ?_)
          exact (by repeat (first | exact Below.refl _ _ | (refine below_drewN ?_ _) | (refine Below.drew ?_) | (refine Below.alloc ?_ (by first | exact Nat.le_refl _ | (simp; done) | (simp; omega) | omega) _) | (refine Below.setCell ?_ (by first | exact Nat.le_refl _ | (simp; done) | (simp; omega) | omega) _) | (refine Below.trans ?_ (Below.mono (by assumption) (by first | exact Nat.le_refl _ | (simp; done) | (simp; omega) | omega)))))

set_option maxRecDepth 100000 in
set_option maxHeartbeats 3200000 in
theorem impl_ParseFrac (s : ByteArray) (m0 : Int) (w : World) (hs : s.size ≤ 1048576) (hm : w.cell? ⟨0, 0, none⟩ = some (.int .i64 m0)) (ht : Tab w) (he : Errs w) : Calls Tryd.prog 29 #[.string s] w (RetF s w) := by
  obtain ⟨p, HP⟩ : ∃ p, Hid (posC s.data.toList 47 = p) := ⟨_, rfl⟩
  have hsl : s.data.toList.length = s.size := by simp
  have hps : p ≤ s.size := by have := posC_le s.data.toList 47; rw [HP.out, hsl] at this; exact this
  have h1 := fun w1 (hb : Below w.heap.size w w1) => readDec_any (s.extract 0 p) w1 (by rw [ByteArray.size_extract]; omega) (ht.below hb) (he.below hb)
  have h2 := fun w1 (hb : Below w.heap.size w w1) => readDec_any (s.extract (p + 1) s.size) w1 (by rw [ByteArray.size_extract]; omega) (ht.below hb) (he.below hb)
  have K0 : Hid (∀ (num : List UInt8 → Option Int) (v : Option Int), num (s.extract 0 p).data.toList = v → num (s.data.toList.take (posC s.data.toList 47)) = v) := fun num v h => by rw [HP.out, ← take_bytes]; exact h
  have K1 : Hid (p < s.size → ∀ (num : List UInt8 → Option Int) (v : Option Int), num (s.extract (p + 1) s.size).data.toList = v → denOf num s.data.toList = v) := fun hp num v h => by rw [den_at (by rw [HP.out, hsl]; exact hp), HP.out, ← drop_bytes]; exact h
  have K2 : Hid (¬ p < s.size → ∀ num : List UInt8 → Option Int, denOf num s.data.toList = some 1) := fun hp num => den_no (by rw [HP.out, hsl]; exact hp)
  have hlt := World.block_lt_of_cell? _ _ hm
  have hb0 : Below w.heap.size w (w.alloc (.cells #[.int .i64 0, .int .i64 0] 28)) := (by repeat (first | exact Below.refl _ _ | (refine below_drewN ?_ _) | (refine Below.drew ?_) | (refine Below.alloc ?_ (by first | exact Nat.le_refl _ | (simp; done) | (simp; omega) | omega) _) | (refine Below.setCell ?_ (by first | exact Nat.le_refl _ | (simp; done) | (simp; omega) | omega) _) | (refine Below.trans ?_ (Below.mono (by assumption) (by first | exact Nat.le_refl _ | (simp; done) | (simp; omega) | omega)))))
  have hcut := Tryd.strings_Cut s ⟨#[47]⟩ m0 (w.alloc (.cells #[.int .i64 0, .int .i64 0] 28)) (by omega) ((hb0.cell hlt).trans hm)
  rw [show (⟨#[47]⟩ : ByteArray).data.toList = [47] from rfl, cut_pos, HP.out, hsl] at hcut
  simp only [] at hcut
  rw [show (⟨(s.data.toList.take p).toArray⟩ : ByteArray) = s.extract 0 p from ext_bytesF (by rw [take_bytes])] at hcut
  replace ht := hide ht
  clear hm hlt he hsl hs
  by_cases hp : p < s.size
  · rw [if_pos hp, decide_eq_true hp, show (⟨(s.data.toList.drop (p + 1)).toArray⟩ : ByteArray) = s.extract (p + 1) s.size from ext_bytesF (by rw [drop_bytes])] at hcut
    have V1 : Hid (∀ b, readOk (s.extract 0 p) = b → (b = false → implRead (s.data.toList.take (posC s.data.toList 47)) = none) ∧ (b = true → implRead (s.data.toList.take (posC s.data.toList 47)) = some (readN (s.extract 0 p)))) := fun b hb => by
      cases hv : implRead (s.extract 0 p).data.toList with
      | none => have e := rd_none hv; rw [e.2] at hb; subst hb; exact ⟨fun _ => K0.out _ _ hv, fun h => by cases h⟩
      | some v => have e := rd_some hv; rw [e.2] at hb; subst hb; exact ⟨fun h => by (cases h), fun _ => by rw [e.1]; exact K0.out _ _ hv⟩
    have V2 : Hid (∀ b, readOk (s.extract (p + 1) s.size) = b → (b = false → denOf implRead s.data.toList = none) ∧ (b = true → denOf implRead s.data.toList = some (readN (s.extract (p + 1) s.size)))) := fun b hb => by
      cases hv : implRead (s.extract (p + 1) s.size).data.toList with
      | none => have e := rd_none hv; rw [e.2] at hb; subst hb; exact ⟨fun _ => K1.out hp _ _ hv, fun h => by cases h⟩
      | some v => have e := rd_some hv; rw [e.2] at hb; subst hb; exact ⟨fun h => by (cases h), fun _ => by rw [e.1]; exact K1.out hp _ _ hv⟩
    obtain ⟨d, hd⟩ : ∃ d, d = readN (s.extract (p + 1) s.size) := ⟨_, rfl⟩
    obtain ⟨g2, hg2⟩ : ∃ g2, g2 = readOk (s.extract (p + 1) s.size) := ⟨_, rfl⟩
    have W2 := hide (V2.out g2 hg2.symm)
    rw [← hd] at W2
    rw [← hd, ← hg2] at h2
    obtain ⟨n, hn⟩ : ∃ n, n = readN (s.extract 0 p) := ⟨_, rfl⟩
    obtain ⟨g1, hg1⟩ : ∃ g1, g1 = readOk (s.extract 0 p) := ⟨_, rfl⟩
    have W1 := hide (V1.out g1 hg1.symm)
    rw [← hn] at W1
    rw [← hn, ← hg1] at h1
    have Kf1 : Hid (g1 = false → readFrac num9 s.data.toList = none) := fun h => by rw [readFrac_eq]; exact rf_none1 (W1.out.1 h)
    have Kf2 : Hid (g2 = false → readFrac num9 s.data.toList = none) := fun h => by rw [readFrac_eq]; exact rf_none2 (W2.out.1 h)
    have Kn : Hid (g1 = true → g2 = true → ¬ (fracB n d = true ∧ fText n d = s) → readFrac num9 s.data.toList = none) := fun h h2 h3 => by rw [readFrac_eq]; exact rf_no (W1.out.2 h) (W2.out.2 h2) (by rw [byte_text]; exact h3)
    have Ky : Hid (g1 = true → g2 = true → fracB n d = true → fText n d = s → readFrac num9 s.data.toList = some (n, d)) := fun h h2 h3 h4 => by rw [readFrac_eq]; exact rf_yes (W1.out.2 h) (W2.out.2 h2) h3 (by rw [byte_text]; exact h4)
    clear hd hg2 hn hg1 V1 V2 W1 W2
    replace hcut := hide hcut
    replace h1 := hide h1
    replace h2 := hide h2
    go_enter Tryd.func29, Tryd.ntmps29
    go_wp2_with fail
    refine hcut.out.mono ?_
    rintro e w1 ⟨rfl, q1, rfl⟩
    have HBr := below_drewN (Below.refl (w.alloc (.cells #[.int .i64 0, .int .i64 0] 28)).heap.size (w.alloc (.cells #[.int .i64 0, .int .i64 0] 28))) q1
    have hBc := hide (below_drewN hb0 q1)
    replace HBr := hide HBr
    go_wp2_with fail
    refine (h1.out _ hBc.out).mono ?_
    rintro e wc ⟨rfl, hb⟩
    replace HBr := hide (HBr.out.trans (hb.mono HBr.out.size))
    replace hBc := hide (hBc.out.trans (hb.mono hBc.out.size))
    clear hb
    go_wp2_with fail
    refine (h2.out _ hBc.out).mono ?_
    rintro e wd ⟨rfl, hb⟩
    replace HBr := hide (HBr.out.trans (hb.mono HBr.out.size))
    replace hBc := hide (hBc.out.trans (hb.mono hBc.out.size))
    clear hb
    obtain ⟨k0, k1, k2, k3, k4⟩ := two_new HBr.out
    replace hBc := hBc.out
    clear HBr hb0
    have hal : Below wd.heap.size wd (wd.alloc (.cells #[.int .i64 n, .int .i64 d] 28)) := (Below.refl _ _).alloc (Nat.le_refl _) _
    have a0 : (wd.alloc (.cells #[.int .i64 n, .int .i64 d] 28)).cell? ⟨w.heap.size, 0, none⟩ = some (.int .i64 0) := (hal.cell (p := ⟨w.heap.size, 0, none⟩) k4).trans k0
    have a1 : (wd.alloc (.cells #[.int .i64 n, .int .i64 d] 28)).cell? ⟨w.heap.size, 1, none⟩ = some (.int .i64 0) := (hal.cell (p := ⟨w.heap.size, 1, none⟩) k4).trans k1
    have b0 : (wd.alloc (.cells #[.int .i64 n, .int .i64 d] 28)).frozen? ⟨w.heap.size, 0, none⟩ = false := (hal.frozen (p := ⟨w.heap.size, 0, none⟩) k4).trans k2
    have b1 : (wd.alloc (.cells #[.int .i64 n, .int .i64 d] 28)).frozen? ⟨w.heap.size, 1, none⟩ = false := (hal.frozen (p := ⟨w.heap.size, 1, none⟩) k4).trans k3
    clear hal
    cases g1
    · have HV := hide (Kf1.out (by first | rfl | trivial))
      obtain ⟨r0, r1⟩ := two_under (.int .i64 0) (.int .i64 0) k0 k1 k4 (.cells #[.int .i64 n, .int .i64 d] 28)
      go_wp2
      refine bodyPost_ret (v := .tuple #[.agg #[.int .i64 0, .int .i64 0], .bool false]) (by simp [results, Tryd.results29, go_sem, r0, r1]) rfl (RetF.no HV.out ?_)
      exact (by repeat (first | exact Below.refl _ _ | (refine below_drewN ?_ _) | (refine Below.drew ?_) | (refine Below.alloc ?_ (by first | exact Nat.le_refl _ | (simp; done) | (simp; omega) | omega) _) | (refine Below.setCell ?_ (by first | exact Nat.le_refl _ | (simp; done) | (simp; omega) | omega) _) | (refine Below.trans ?_ (Below.mono (by assumption) (by first | exact Nat.le_refl _ | (simp; done) | (simp; omega) | omega)))))
    cases g2
    · have HV := hide (Kf2.out (by first | rfl | trivial))
      obtain ⟨r0, r1⟩ := two_under (.int .i64 0) (.int .i64 0) k0 k1 k4 (.cells #[.int .i64 n, .int .i64 d] 28)
      go_wp2
      refine bodyPost_ret (v := .tuple #[.agg #[.int .i64 0, .int .i64 0], .bool false]) (by simp [results, Tryd.results29, go_sem, r0, r1]) rfl (RetF.no HV.out ?_)
      exact (by repeat (first | exact Below.refl _ _ | (refine below_drewN ?_ _) | (refine Below.drew ?_) | (refine Below.alloc ?_ (by first | exact Nat.le_refl _ | (simp; done) | (simp; omega) | omega) _) | (refine Below.setCell ?_ (by first | exact Nat.le_refl _ | (simp; done) | (simp; omega) | omega) _) | (refine Below.trans ?_ (Below.mono (by assumption) (by first | exact Nat.le_refl _ | (simp; done) | (simp; omega) | omega)))))
    cases hg : fracB n d
    · have HV := hide (Kn.out (by first | rfl | trivial) (by first | rfl | trivial) (fun h => by rw [hg] at h; exact absurd h.1 (by decide)))
      have h4 : ∀ w, Calls Tryd.prog 45 #[.agg #[.int .i64 n, .int .i64 d]] w fun e w' => e = .returned (.bool false) ∧ Below w.heap.size w w' := fun w => by rw [← hg]; exact isFrac_any n d w
      clear hg
      go_wp2_with fail
      refine (h4 _).mono ?_
      rintro e w2 ⟨rfl, hb2⟩
      obtain ⟨hc2, hf2⟩ := bcell hb2
      go_wp2
      obtain ⟨r0, r1⟩ := two_cells (w := w2) (b := w.heap.size) (x := .int .i64 0) (y := .int .i64 0) (by rw [hc2 _ _ (by first | (simp; done) | (simp; omega) | omega)]; exact a0) (by rw [hc2 _ _ (by first | (simp; done) | (simp; omega) | omega)]; exact a1)
      refine bodyPost_ret (v := .tuple #[.agg #[.int .i64 0, .int .i64 0], .bool false]) (by simp [results, Tryd.results29, go_sem, r0, r1]) rfl (RetF.no HV.out ?_)
      exact (by repeat (first | exact Below.refl _ _ | (refine below_drewN ?_ _) | (refine Below.drew ?_) | (refine Below.alloc ?_ (by first | exact Nat.le_refl _ | (simp; done) | (simp; omega) | omega) _) | (refine Below.setCell ?_ (by first | exact Nat.le_refl _ | (simp; done) | (simp; omega) | omega) _) | (refine Below.trans ?_ (Below.mono (by assumption) (by first | exact Nat.le_refl _ | (simp; done) | (simp; omega) | omega)))))
    have h4 : ∀ w, Calls Tryd.prog 45 #[.agg #[.int .i64 n, .int .i64 d]] w fun e w' => e = .returned (.bool true) ∧ Below w.heap.size w w' := fun w => by rw [← hg]; exact isFrac_any n d w
    have hbd := frac_bd hg
    have h5 : ∀ w, Tab w → Calls Tryd.prog 46 #[.agg #[.int .i64 n, .int .i64 d]] w fun e w' => e = .returned (.string (fText n d)) ∧ Below w.heap.size w w' := fracText_any n d (by omega) (by omega)
    by_cases ht2 : fText n d = s
    · have HV := hide (Ky.out (by first | rfl | trivial) (by first | rfl | trivial) hg ht2)
      rw [ht2] at h5
      clear hg ht2 hbd
      go_wp2_with fail
      refine (h4 _).mono ?_
      rintro e w2 ⟨rfl, hb2⟩
      obtain ⟨hc2, hf2⟩ := bcell hb2
      have hz2 := hb2.size
      simp at hz2
      have hy2 : wd.heap.size < w2.heap.size := by omega
      have hx2 : w.heap.size < w2.heap.size := by omega
      go_wp2_with fail
      refine (h5 _ (ht.out.below (by repeat (first | exact Below.refl _ _ | (refine below_drewN ?_ _) | (refine Below.drew ?_) | (refine Below.alloc ?_ (by first | exact Nat.le_refl _ | (simp; done) | (simp; omega) | omega) _) | (refine Below.setCell ?_ (by first | exact Nat.le_refl _ | (simp; done) | (simp; omega) | omega) _) | (refine Below.trans ?_ (Below.mono (by assumption) (by first | exact Nat.le_refl _ | (simp; done) | (simp; omega) | omega))))))).mono ?_
      rintro e w3 ⟨rfl, hb3⟩
      obtain ⟨hc3, hf3⟩ := bcell hb3
      have hz3 := hb3.size
      go_wp2
      obtain ⟨r0, r1⟩ := two_cells (w := w3) (b := w.heap.size) (x := .int .i64 0) (y := .int .i64 0) (by rw [hc3 _ _ (by first | (simp; done) | (simp; omega) | omega), hc2 _ _ (by first | (simp; done) | (simp; omega) | omega)]; exact a0) (by rw [hc3 _ _ (by first | (simp; done) | (simp; omega) | omega), hc2 _ _ (by first | (simp; done) | (simp; omega) | omega)]; exact a1)
      refine bodyPost_ret (v := .tuple #[.agg #[.int .i64 n, .int .i64 d], .bool true]) (by simp [results, Tryd.results29, go_sem, r0, r1]) rfl (RetF.yes HV.out ?_)
      exact (by repeat (first | exact Below.refl _ _ | (refine below_drewN ?_ _) | (refine Below.drew ?_) | (refine Below.alloc ?_ (by first | exact Nat.le_refl _ | (simp; done) | (simp; omega) | omega) _) | (refine Below.setCell ?_ (by first | exact Nat.le_refl _ | (simp; done) | (simp; omega) | omega) _) | (refine Below.trans ?_ (Below.mono (by assumption) (by first | exact Nat.le_refl _ | (simp; done) | (simp; omega) | omega)))))
    · have HV := hide (Kn.out (by first | rfl | trivial) (by first | rfl | trivial) (fun h => ht2 h.2))
      have hne := bytes_ne' ht2
      clear hg ht2 hbd
      generalize fText n d = u at h5 hne
      go_wp2_with fail
      refine (h4 _).mono ?_
      rintro e w2 ⟨rfl, hb2⟩
      obtain ⟨hc2, hf2⟩ := bcell hb2
      have hz2 := hb2.size
      simp at hz2
      have hy2 : wd.heap.size < w2.heap.size := by omega
      have hx2 : w.heap.size < w2.heap.size := by omega
      go_wp2_with fail
      refine (h5 _ (ht.out.below (by repeat (first | exact Below.refl _ _ | (refine below_drewN ?_ _) | (refine Below.drew ?_) | (refine Below.alloc ?_ (by first | exact Nat.le_refl _ | (simp; done) | (simp; omega) | omega) _) | (refine Below.setCell ?_ (by first | exact Nat.le_refl _ | (simp; done) | (simp; omega) | omega) _) | (refine Below.trans ?_ (Below.mono (by assumption) (by first | exact Nat.le_refl _ | (simp; done) | (simp; omega) | omega))))))).mono ?_
      rintro e w3 ⟨rfl, hb3⟩
      obtain ⟨hc3, hf3⟩ := bcell hb3
      have hz3 := hb3.size
      go_wp2
      obtain ⟨r0, r1⟩ := two_cells (w := w3) (b := w.heap.size) (x := .int .i64 0) (y := .int .i64 0) (by rw [hc3 _ _ (by first | (simp; done) | (simp; omega) | omega), hc2 _ _ (by first | (simp; done) | (simp; omega) | omega)]; exact a0) (by rw [hc3 _ _ (by first | (simp; done) | (simp; omega) | omega), hc2 _ _ (by first | (simp; done) | (simp; omega) | omega)]; exact a1)
      refine bodyPost_ret (v := .tuple #[.agg #[.int .i64 0, .int .i64 0], .bool false]) (by simp [results, Tryd.results29, go_sem, r0, r1]) rfl (RetF.no HV.out ?_)
      exact (by repeat (first | exact Below.refl _ _ | (refine below_drewN ?_ _) | (refine Below.drew ?_) | (refine Below.alloc ?_ (by first | exact Nat.le_refl _ | (simp; done) | (simp; omega) | omega) _) | (refine Below.setCell ?_ (by first | exact Nat.le_refl _ | (simp; done) | (simp; omega) | omega) _) | (refine Below.trans ?_ (Below.mono (by assumption) (by first | exact Nat.le_refl _ | (simp; done) | (simp; omega) | omega)))))
  · rw [if_neg hp, decide_eq_false hp] at hcut
    have V1 : Hid (∀ b, readOk (s.extract 0 p) = b → (b = false → implRead (s.data.toList.take (posC s.data.toList 47)) = none) ∧ (b = true → implRead (s.data.toList.take (posC s.data.toList 47)) = some (readN (s.extract 0 p)))) := fun b hb => by
      cases hv : implRead (s.extract 0 p).data.toList with
      | none => have e := rd_none hv; rw [e.2] at hb; subst hb; exact ⟨fun _ => K0.out _ _ hv, fun h => by cases h⟩
      | some v => have e := rd_some hv; rw [e.2] at hb; subst hb; exact ⟨fun h => by (cases h), fun _ => by rw [e.1]; exact K0.out _ _ hv⟩
    obtain ⟨d, hd⟩ : ∃ d : Int, d = 1 := ⟨_, rfl⟩
    obtain ⟨g2, hg2⟩ : ∃ g2, g2 = true := ⟨_, rfl⟩
    have W2 : Hid ((g2 = false → denOf implRead s.data.toList = none) ∧ (g2 = true → denOf implRead s.data.toList = some d)) := ⟨fun h => by (rw [hg2] at h; cases h), fun _ => by rw [hd]; exact K2.out hp _⟩
    obtain ⟨n, hn⟩ : ∃ n, n = readN (s.extract 0 p) := ⟨_, rfl⟩
    obtain ⟨g1, hg1⟩ : ∃ g1, g1 = readOk (s.extract 0 p) := ⟨_, rfl⟩
    have W1 := hide (V1.out g1 hg1.symm)
    rw [← hn] at W1
    rw [← hn, ← hg1] at h1
    have Kf1 : Hid (g1 = false → readFrac num9 s.data.toList = none) := fun h => by rw [readFrac_eq]; exact rf_none1 (W1.out.1 h)
    have Kf2 : Hid (g2 = false → readFrac num9 s.data.toList = none) := fun h => by rw [readFrac_eq]; exact rf_none2 (W2.out.1 h)
    have Kn : Hid (g1 = true → g2 = true → ¬ (fracB n d = true ∧ fText n d = s) → readFrac num9 s.data.toList = none) := fun h h2 h3 => by rw [readFrac_eq]; exact rf_no (W1.out.2 h) (W2.out.2 h2) (by rw [byte_text]; exact h3)
    have Ky : Hid (g1 = true → g2 = true → fracB n d = true → fText n d = s → readFrac num9 s.data.toList = some (n, d)) := fun h h2 h3 h4 => by rw [readFrac_eq]; exact rf_yes (W1.out.2 h) (W2.out.2 h2) h3 (by rw [byte_text]; exact h4)
    clear hn hg1 V1 W1 W2
    subst hd
    subst hg2
    replace hcut := hide hcut
    replace h1 := hide h1
    go_enter Tryd.func29, Tryd.ntmps29
    go_wp2_with fail
    refine hcut.out.mono ?_
    rintro e w1 ⟨rfl, q1, rfl⟩
    have HBr := below_drewN (Below.refl (w.alloc (.cells #[.int .i64 0, .int .i64 0] 28)).heap.size (w.alloc (.cells #[.int .i64 0, .int .i64 0] 28))) q1
    have hBc := hide (below_drewN hb0 q1)
    replace HBr := hide HBr
    go_wp2_with fail
    refine (h1.out _ hBc.out).mono ?_
    rintro e wc ⟨rfl, hb⟩
    replace HBr := hide (HBr.out.trans (hb.mono HBr.out.size))
    replace hBc := hide (hBc.out.trans (hb.mono hBc.out.size))
    clear hb
    obtain ⟨k0, k1, k2, k3, k4⟩ := two_new HBr.out
    replace hBc := hBc.out
    clear HBr hb0
    have hal : Below wc.heap.size wc (wc.alloc (.cells #[.int .i64 n, .int .i64 1] 28)) := (Below.refl _ _).alloc (Nat.le_refl _) _
    have a0 : (wc.alloc (.cells #[.int .i64 n, .int .i64 1] 28)).cell? ⟨w.heap.size, 0, none⟩ = some (.int .i64 0) := (hal.cell (p := ⟨w.heap.size, 0, none⟩) k4).trans k0
    have a1 : (wc.alloc (.cells #[.int .i64 n, .int .i64 1] 28)).cell? ⟨w.heap.size, 1, none⟩ = some (.int .i64 0) := (hal.cell (p := ⟨w.heap.size, 1, none⟩) k4).trans k1
    have b0 : (wc.alloc (.cells #[.int .i64 n, .int .i64 1] 28)).frozen? ⟨w.heap.size, 0, none⟩ = false := (hal.frozen (p := ⟨w.heap.size, 0, none⟩) k4).trans k2
    have b1 : (wc.alloc (.cells #[.int .i64 n, .int .i64 1] 28)).frozen? ⟨w.heap.size, 1, none⟩ = false := (hal.frozen (p := ⟨w.heap.size, 1, none⟩) k4).trans k3
    clear hal
    cases g1
    · have HV := hide (Kf1.out (by first | rfl | trivial))
      obtain ⟨r0, r1⟩ := two_under (.int .i64 0) (.int .i64 0) k0 k1 k4 (.cells #[.int .i64 n, .int .i64 1] 28)
      go_wp2
      refine bodyPost_ret (v := .tuple #[.agg #[.int .i64 0, .int .i64 0], .bool false]) (by simp [results, Tryd.results29, go_sem, r0, r1]) rfl (RetF.no HV.out ?_)
      exact (by repeat (first | exact Below.refl _ _ | (refine below_drewN ?_ _) | (refine Below.drew ?_) | (refine Below.alloc ?_ (by first | exact Nat.le_refl _ | (simp; done) | (simp; omega) | omega) _) | (refine Below.setCell ?_ (by first | exact Nat.le_refl _ | (simp; done) | (simp; omega) | omega) _) | (refine Below.trans ?_ (Below.mono (by assumption) (by first | exact Nat.le_refl _ | (simp; done) | (simp; omega) | omega)))))
    cases hg : fracB n 1
    · have HV := hide (Kn.out (by first | rfl | trivial) (by first | rfl | trivial) (fun h => by rw [hg] at h; exact absurd h.1 (by decide)))
      have h4 : ∀ w, Calls Tryd.prog 45 #[.agg #[.int .i64 n, .int .i64 1]] w fun e w' => e = .returned (.bool false) ∧ Below w.heap.size w w' := fun w => by rw [← hg]; exact isFrac_any n 1 w
      clear hg
      go_wp2_with fail
      refine (h4 _).mono ?_
      rintro e w2 ⟨rfl, hb2⟩
      obtain ⟨hc2, hf2⟩ := bcell hb2
      go_wp2
      obtain ⟨r0, r1⟩ := two_cells (w := w2) (b := w.heap.size) (x := .int .i64 0) (y := .int .i64 0) (by rw [hc2 _ _ (by first | (simp; done) | (simp; omega) | omega)]; exact a0) (by rw [hc2 _ _ (by first | (simp; done) | (simp; omega) | omega)]; exact a1)
      refine bodyPost_ret (v := .tuple #[.agg #[.int .i64 0, .int .i64 0], .bool false]) (by simp [results, Tryd.results29, go_sem, r0, r1]) rfl (RetF.no HV.out ?_)
      exact (by repeat (first | exact Below.refl _ _ | (refine below_drewN ?_ _) | (refine Below.drew ?_) | (refine Below.alloc ?_ (by first | exact Nat.le_refl _ | (simp; done) | (simp; omega) | omega) _) | (refine Below.setCell ?_ (by first | exact Nat.le_refl _ | (simp; done) | (simp; omega) | omega) _) | (refine Below.trans ?_ (Below.mono (by assumption) (by first | exact Nat.le_refl _ | (simp; done) | (simp; omega) | omega)))))
    have h4 : ∀ w, Calls Tryd.prog 45 #[.agg #[.int .i64 n, .int .i64 1]] w fun e w' => e = .returned (.bool true) ∧ Below w.heap.size w w' := fun w => by rw [← hg]; exact isFrac_any n 1 w
    have hbd := frac_bd hg
    have h5 : ∀ w, Tab w → Calls Tryd.prog 46 #[.agg #[.int .i64 n, .int .i64 1]] w fun e w' => e = .returned (.string (fText n 1)) ∧ Below w.heap.size w w' := fracText_any n 1 (by omega) (by omega)
    by_cases ht2 : fText n 1 = s
    · have HV := hide (Ky.out (by first | rfl | trivial) (by first | rfl | trivial) hg ht2)
      rw [ht2] at h5
      clear hg ht2 hbd
      go_wp2_with fail
      refine (h4 _).mono ?_
      rintro e w2 ⟨rfl, hb2⟩
      obtain ⟨hc2, hf2⟩ := bcell hb2
      have hz2 := hb2.size
      simp at hz2
      have hy2 : wc.heap.size < w2.heap.size := by omega
      have hx2 : w.heap.size < w2.heap.size := by omega
      go_wp2_with fail
      refine (h5 _ (ht.out.below (by repeat (first | exact Below.refl _ _ | (refine below_drewN ?_ _) | (refine Below.drew ?_) | (refine Below.alloc ?_ (by first | exact Nat.le_refl _ | (simp; done) | (simp; omega) | omega) _) | (refine Below.setCell ?_ (by first | exact Nat.le_refl _ | (simp; done) | (simp; omega) | omega) _) | (refine Below.trans ?_ (Below.mono (by assumption) (by first | exact Nat.le_refl _ | (simp; done) | (simp; omega) | omega))))))).mono ?_
      rintro e w3 ⟨rfl, hb3⟩
      obtain ⟨hc3, hf3⟩ := bcell hb3
      have hz3 := hb3.size
      go_wp2
      obtain ⟨r0, r1⟩ := two_cells (w := w3) (b := w.heap.size) (x := .int .i64 0) (y := .int .i64 0) (by rw [hc3 _ _ (by first | (simp; done) | (simp; omega) | omega), hc2 _ _ (by first | (simp; done) | (simp; omega) | omega)]; exact a0) (by rw [hc3 _ _ (by first | (simp; done) | (simp; omega) | omega), hc2 _ _ (by first | (simp; done) | (simp; omega) | omega)]; exact a1)
      refine bodyPost_ret (v := .tuple #[.agg #[.int .i64 n, .int .i64 1], .bool true]) (by simp [results, Tryd.results29, go_sem, r0, r1]) rfl (RetF.yes HV.out ?_)
      exact (by repeat (first | exact Below.refl _ _ | (refine below_drewN ?_ _) | (refine Below.drew ?_) | (refine Below.alloc ?_ (by first | exact Nat.le_refl _ | (simp; done) | (simp; omega) | omega) _) | (refine Below.setCell ?_ (by first | exact Nat.le_refl _ | (simp; done) | (simp; omega) | omega) _) | (refine Below.trans ?_ (Below.mono (by assumption) (by first | exact Nat.le_refl _ | (simp; done) | (simp; omega) | omega)))))
    · have HV := hide (Kn.out (by first | rfl | trivial) (by first | rfl | trivial) (fun h => ht2 h.2))
      have hne := bytes_ne' ht2
      clear hg ht2 hbd
      generalize fText n 1 = u at h5 hne
      go_wp2_with fail
      refine (h4 _).mono ?_
      rintro e w2 ⟨rfl, hb2⟩
      obtain ⟨hc2, hf2⟩ := bcell hb2
      have hz2 := hb2.size
      simp at hz2
      have hy2 : wc.heap.size < w2.heap.size := by omega
      have hx2 : w.heap.size < w2.heap.size := by omega
      go_wp2_with fail
      refine (h5 _ (ht.out.below (by repeat (first | exact Below.refl _ _ | (refine below_drewN ?_ _) | (refine Below.drew ?_) | (refine Below.alloc ?_ (by first | exact Nat.le_refl _ | (simp; done) | (simp; omega) | omega) _) | (refine Below.setCell ?_ (by first | exact Nat.le_refl _ | (simp; done) | (simp; omega) | omega) _) | (refine Below.trans ?_ (Below.mono (by assumption) (by first | exact Nat.le_refl _ | (simp; done) | (simp; omega) | omega))))))).mono ?_
      rintro e w3 ⟨rfl, hb3⟩
      obtain ⟨hc3, hf3⟩ := bcell hb3
      have hz3 := hb3.size
      go_wp2
      obtain ⟨r0, r1⟩ := two_cells (w := w3) (b := w.heap.size) (x := .int .i64 0) (y := .int .i64 0) (by rw [hc3 _ _ (by first | (simp; done) | (simp; omega) | omega), hc2 _ _ (by first | (simp; done) | (simp; omega) | omega)]; exact a0) (by rw [hc3 _ _ (by first | (simp; done) | (simp; omega) | omega), hc2 _ _ (by first | (simp; done) | (simp; omega) | omega)]; exact a1)
      refine bodyPost_ret (v := .tuple #[.agg #[.int .i64 0, .int .i64 0], .bool false]) (by simp [results, Tryd.results29, go_sem, r0, r1]) rfl (RetF.no HV.out ?_)
      exact (by repeat (first | exact Below.refl _ _ | (refine below_drewN ?_ _) | (refine Below.drew ?_) | (refine Below.alloc ?_ (by first | exact Nat.le_refl _ | (simp; done) | (simp; omega) | omega) _) | (refine Below.setCell ?_ (by first | exact Nat.le_refl _ | (simp; done) | (simp; omega) | omega) _) | (refine Below.trans ?_ (Below.mono (by assumption) (by first | exact Nat.le_refl _ | (simp; done) | (simp; omega) | omega)))))
end Go.Proofs.YtlickpalbfhjoaaDoor
