/- IntervalsOf: the reference and the program return the same; for slices of at most 2^20 numbers that can be read. -/
import Derived.Test.YtaoacpikmpoodaaNext
import Derived.Test.YtaoacpikmpoodaaA2
import Derived.Deep.RegionLaw
import Derived.Deep.AppendLies
namespace Go.Proofs.Ytaoacpikmpoodaa
open Go.RowKit
def intvL (xs : List Int) (m : Nat) : List (Int × Int) := (List.range m).map fun j : Nat => ((j : Int), nextAt xs j)
theorem intvL_len (xs : List Int) (m : Nat) : (intvL xs m).length = m := by simp [intvL]
theorem intvL_snoc (xs : List Int) (m : Nat) : intvL xs (m + 1) = intvL xs m ++ [((m : Int), nextAt xs m)] := by simp [intvL, List.range_succ]
def intervalsOfV (q : Int) (xs : List Int) : List (Int × Int) × Bool := if reqB q xs = true then (intvL xs xs.length, true) else ([], false)
theorem intervalsOfV_len (q : Int) (xs : List Int) (h : xs.length ≤ 1048576) : (intervalsOfV q xs).1.length ≤ 1048576 := by
  unfold intervalsOfV
  split
  · simp [intvL_len]; omega
  · simp
/-- The place of the next same number, or the length. -/
def useAt (xs : List Int) (i : Nat) : Int := if nextAt xs i = -1 then (xs.length : Int) else nextAt xs i
theorem nextAt_bd (xs : List Int) (i : Nat) (h : i < xs.length) : -1 ≤ nextAt xs i ∧ nextAt xs i < xs.length := by
  have := nextFrom_bd xs (xs.getD i 0) (i + 1) (xs.length - (i + 1))
  unfold nextAt
  omega
theorem nextL_get (xs : List Int) (n j : Nat) (h : j < n) : (nextL xs n).getD j 0 = nextAt xs j := by simp [nextL, List.getD, h]

/-- append(out, [2]int{x, y}), and where the new row lies. -/
theorem append_pair_lies {ops : Array Oper} {rest : List Oper} {o : Oper} {a : Act} {Q : Exit → Act → World → Prop} (hgd : o.guard = none) (s x : Operand)
    (ho : o.op = .call { callee := .builtin .append, args := #[s, x], argTypes := #[41, 41] }) (base : Nat) (A : Option Addr) (n c : Nat) (xs : List (Int × Int)) (y z : Int) (w : World)
    (hs : a.eval s = .slice A n c) (hx : a.eval x = .slice (some ⟨w.heap.size, 0, none⟩) 1 1) (hown : OwnP 62 w base A n c xs) (hn : n ≤ 1048576) (hbase : base ≤ w.heap.size)
    (h : ∀ A' c' w', OwnP 62 w' base A' (n + 1) c' (xs ++ [(y, z)]) → Below base w w' → w.grownBy w' (A.map (·.block)) → (∀ a', A' = some a' → A.map (·.block) = some a'.block ∨ w.heap.size ≤ a'.block) → wpList Try.prog ops Q rest (a.put o.dst (.slice A' (n + 1) c')) w') :
    wpList Try.prog ops Q (o :: rest) a (w.alloc (.cells #[.int .i64 y, .int .i64 z] 62)) := by
  obtain ⟨i0, hi, hz0, hz1, hz2⟩ := info_parts info_a2
  refine wpList_append_lies (w.alloc (.cells #[.int .i64 y, .int .i64 z] 62)) hgd s x 41 ho base 62 i0 (.agg #[.int .i64 0, .int .i64 0]) 2 16 Try.underlying41 hi hz0 hz1 hz2 rfl (by decide) _ n (flatP xs) hs (World.ownsRow.alloc hown _) ⟨w.heap.size, 0, none⟩ 1 1 [.int .i64 y, .int .i64 z] hx rfl ?_ ?_ (by omega) (by unfold maxLen; omega) (by omega) (by simp; omega) _ rfl ?_
  · intro j u hj
    match j, hj with
    | 0, hj =>
      simp at hj
      subst hj
      simp [Addr.add_lit]
    | 1, hj =>
      simp at hj
      subst hj
      simp [Addr.add_lit]
  · simp [Value.oneCell']
  · intro g cap w' ho' hg hat _
    rw [show flatP xs ++ [Value.int .i64 y, Value.int .i64 z] = flatP (xs ++ [(y, z)]) by simp [flatP]] at ho'
    have hA : (Value.slice A n c).ownBlock = A.map (·.block) := by cases A <;> rfl
    rw [hA] at hg hat
    have hg2 : w.grownBy w' (A.map (·.block)) := grownBy_trans (World.grownBy_alloc w _ _) hg
    refine h _ cap w' ho' ⟨hg2.os, hg2.tape, hg2.output, hg2.size, fun k hk => hg2.block k (by omega) ?_⟩ hg2 ?_
    · cases A with
      | none => simp
      | some a => have := (hown.lt a rfl).1; simp; omega
    · intro a' e
      injection e with e
      subst e
      rcases hat with h1 | h1
      · exact .inl h1
      · right
        simp at h1
        simp [h1]
theorem sep_after {w : World} {base : Nat} {A A' AN : Option Addr} (hl : ∀ a', A' = some a' → A.map (·.block) = some a'.block ∨ w.heap.size ≤ a'.block) (hs : Sep A AN) (hN : ∀ a, AN = some a → base ≤ a.block ∧ a.block < w.heap.size) : Sep A' AN := by
  intro a' n e en he
  have h1 := (hN n en).2
  rcases hl a' e with h2 | h2
  · cases A with
    | none => cases h2
    | some a =>
      injection h2 with h2
      exact hs a n rfl en (h2.trans he)
  · omega

set_option maxHeartbeats 1600000 in
theorem l5Use_any (A : Option Addr) (n c : Nat) (xs : List Int) (q : Nat) (v : Int) (w : World) (hr : RdI w A n xs) (hn : n ≤ 1048576) (hq : q < n) (hv : xs.getD q 0 = v) :
    Calls Try.prog 86 #[.slice A n c, .int .i64 q, .int .i64 v] w fun e w' => e = .returned (.int .i64 (useAt xs q)) ∧ w = w' := by
  have hlen := hide hr.1
  have HR := hide hr
  have HV := hide hv
  clear hr hv
  go_enter Try.func86, Try.ntmps86
  go_wp2_with fail
  go_loop [7] (fun s => ∃ k : Nat, q + 1 ≤ k ∧ k ≤ n ∧ s = .int .i64 k ∧ Hid (nextFrom xs v k (n - k) = nextAt xs q)) (fun s => n - (intOf s).toNat)
  case atStart => exact ⟨q + 1, by omega, by omega, by go_num, by unfold nextAt Hid; rw [HV.out, hlen.out]⟩
  case round =>
    obtain ⟨k, k1, k2, rfl, HT⟩ := hrel
    by_cases hk : k = n
    · subst hk
      have HE : Hid ((k : Int) = useAt xs q) := by
        have := HT.out
        rw [Nat.sub_self] at this
        unfold useAt Hid
        rw [← this]
        unfold nextFrom
        rw [if_pos rfl, hlen.out]
      have hd : decide ((k : Int) < (k : Int)) = false := by simp
      go_wp2
      go_ret
      exact ⟨ret_int HE.out, rfl⟩
    · have hkn : k < n := by omega
      have hkn' : (k : Int) < (n : Int) := by omega
      have hk0 : (0 : Int) ≤ (k : Int) := by omega
      obtain ⟨x, hx⟩ : ∃ x, Hid (xs.getD k 0 = x) := ⟨_, rfl⟩
      obtain ⟨b, off, rfl, hbb, hcc⟩ := (HR.out).2 (by omega)
      have hcp : w.cell? ⟨b, off + k, none⟩ = some (.int .i64 x) := by rw [← hx.out]; exact hcc k hkn
      clear hcc
      have hs : n - k = (n - (k + 1)) + 1 := by omega
      rw [hs] at HT
      clear hs
      by_cases hxv : x = v
      · have HE : Hid ((k : Int) = useAt xs q) := by
          have h1 := HT.out
          unfold nextFrom at h1
          rw [hx.out, if_pos hxv] at h1
          unfold useAt Hid
          rw [← h1, if_neg (by omega)]
        have hne : (x != v) = false := by simpa using hxv
        clear hxv
        go_wp2
        go_ret
        exact ⟨ret_int HE.out, rfl⟩
      · have HT2 : Hid (nextFrom xs v (k + 1) (n - (k + 1)) = nextAt xs q) := by
          have := HT.out
          unfold nextFrom at this
          rw [hx.out, if_neg hxv] at this
          exact this
        have hne : (x != v) = true := by simpa using hxv
        clear hxv
        go_wp2
        go_round
        case rel => first | exact ⟨k + 1, by omega, by omega, by go_num, HT2⟩ | ((repeat apply Exists.intro); refine ⟨?_, rfl⟩; exact ⟨k + 1, by omega, by omega, by go_num, HT2⟩)
        case measure => first | (simp [intOf]; done) | (simp [intOf]; omega)

set_option maxHeartbeats 3200000 in
theorem l5Intervals_any (A : Option Addr) (n c : Nat) (xs : List Int) (w : World) (hr : RdI w A n xs) (hn : n ≤ 1048576) :
    Calls Try.prog 78 #[.slice A n c] w fun e w' => ∃ A' c', e = .returned (.slice A' n c') ∧ OwnP 62 w' w.heap.size A' n c' (intvL xs n) ∧ Below w.heap.size w w' := by
  have hlen := hide hr.1
  have HR := hide hr
  clear hr
  go_enter Try.func78, Try.ntmps78
  go_wp2_with fail
  go_loopw [3, 4, 5] (fun u i _ wr => ∃ (q : Nat) (A' : Option Addr) (c' : Nat), q ≤ n ∧ i = .int .i64 q ∧ u = .slice A' q c' ∧ Hid (OwnP 62 wr w.heap.size A' q c' (intvL xs q)) ∧ Hid (Below w.heap.size w wr)) (fun _ i _ _ => n - (intOf i).toNat)
  case atStart => exact ⟨0, _, _, Nat.zero_le _, rfl, rfl, ownP_empty _ _ _ (Nat.le_refl _) _ rfl, (by repeat (first | exact Below.refl _ _ | (refine below_drewN ?_ _) | (refine Below.drew ?_) | (refine Below.alloc ?_ (by first | exact Nat.le_refl _ | (simp; done) | (simp; omega) | omega) _) | (refine Below.setCell ?_ (by first | exact Nat.le_refl _ | (simp; done) | (simp; omega) | omega) _) | (refine Below.trans ?_ (Below.mono (by assumption) (by first | exact Nat.le_refl _ | (simp; done) | (simp; omega) | omega)))))⟩
  case round =>
    obtain ⟨q, A', c', hq, rfl, rfl, HO, HB⟩ := hrel
    by_cases hlt : q < n
    · have hlt' : (q : Int) < (n : Int) := by omega
      have HR2 := hide (HR.out.below HB.out)
      obtain ⟨b, off, rfl, hbb, hcc⟩ := (HR.out).2 (by omega)
      obtain ⟨v, hv⟩ : ∃ v, Hid (xs.getD q 0 = v) := ⟨_, rfl⟩
      have hcq : wr.cell? ⟨b, off + q, none⟩ = some (.int .i64 v) := by rw [← hv.out]; exact (HB.out.cell (p := ⟨b, off + q, none⟩) hbb).trans (hcc q hlt)
      clear hcc hbb
      obtain ⟨u, hu⟩ : ∃ u, Hid (useAt xs q = u) := ⟨_, rfl⟩
      obtain ⟨z, hz⟩ : ∃ z, Hid (nextAt xs q = z) := ⟨_, rfl⟩
      have hbd := nextAt_bd xs q (by rw [hlen.out]; exact hlt)
      rw [hz.out, hlen.out] at hbd
      obtain ⟨bd1, bd2⟩ := hbd
      by_cases hz1 : z = -1
      · subst hz1
        obtain rfl : (n : Int) = u := by rw [← hu.out]; unfold useAt; rw [hz.out, if_pos rfl, hlen.out]
        go_wp2_with (first
          | (go_at_call 86; refine (l5Use_any _ _ _ xs q v _ HR2.out hn hlt hv.out).mono ?_; rintro e w2 ⟨rfl, rfl⟩; rw [hu.out])
          | (at_builtin; refine append_pair rfl _ _ rfl w.heap.size A' q c' (intvL xs q) _ _ _ rfl rfl HO.out (by omega) HB.out.size ?_; intro A2 c2 w1 ho' hb' hg'; replace ho' := hide ho'; replace hb' := hide hb'; clear hg'))
        go_roundw
        case rel => first | exact ⟨q + 1, A2, c2, by omega, by go_num, rfl, by have := ho'.out; rw [intvL_snoc, hz.out]; exact this, HB.out.trans hb'.out⟩ | ((repeat apply Exists.intro); refine ⟨?_, rfl⟩; exact ⟨q + 1, A2, c2, by omega, by go_num, rfl, by have := ho'.out; rw [intvL_snoc, hz.out]; exact this, HB.out.trans hb'.out⟩)
        case measure => first | (simp [intOf]; done) | (simp [intOf]; omega)
      · obtain rfl : z = u := by rw [← hu.out]; unfold useAt; rw [hz.out, if_neg hz1]
        have hzn : (z == (n : Int)) = false := by simp; omega
        clear hz1
        go_wp2_with (first
          | (go_at_call 86; refine (l5Use_any _ _ _ xs q v _ HR2.out hn hlt hv.out).mono ?_; rintro e w2 ⟨rfl, rfl⟩; rw [hu.out])
          | (at_builtin; refine append_pair rfl _ _ rfl w.heap.size A' q c' (intvL xs q) _ _ _ rfl rfl HO.out (by omega) HB.out.size ?_; intro A2 c2 w1 ho' hb' hg'; replace ho' := hide ho'; replace hb' := hide hb'; clear hg'))
        go_roundw
        case rel => first | exact ⟨q + 1, A2, c2, by omega, by go_num, rfl, by have := ho'.out; rw [intvL_snoc, hz.out]; exact this, HB.out.trans hb'.out⟩ | ((repeat apply Exists.intro); refine ⟨?_, rfl⟩; exact ⟨q + 1, A2, c2, by omega, by go_num, rfl, by have := ho'.out; rw [intvL_snoc, hz.out]; exact this, HB.out.trans hb'.out⟩)
        case measure => first | (simp [intOf]; done) | (simp [intOf]; omega)
    · have hqn : q = n := by omega
      subst hqn
      go_wp2
      go_ret
      exact ⟨A', c', rfl, HO.out, HB.out⟩

set_option maxHeartbeats 1600000 in
theorem spec_IntervalsOf (q : Int) (A : Option Addr) (n c : Nat) (xs : List Int) (w : World) (_ : -9223372036854775808 ≤ q) (_ : q ≤ 9223372036854775807) (hr : RdI w A n xs) (hn : n ≤ 1048576) (_ : ∀ x ∈ xs, -9223372036854775808 ≤ x ∧ x ≤ 9223372036854775807) :
    Calls Try.prog 49 #[.int .i64 q, .slice A n c] w (RetP w (intervalsOfV q xs)) := by
  cases hg : reqB q xs
  · have HV := hide (show intervalsOfV q xs = ([], false) by unfold intervalsOfV; rw [hg]; rfl)
    replace hg := hide hg
    go_enter Try.func49, Try.ntmps49
    go_wp2_with (go_at_call 63; refine (l3Good_any _ _ _ xs _ _ hr hn).mono ?_; rintro e w1 ⟨rfl, rfl⟩; rw [hg.out])
    go_ret2
    exact RetP.of (ownP_empty _ _ _ (Nat.le_refl _) _ rfl) (by repeat (first | exact Below.refl _ _ | (refine below_drewN ?_ _) | (refine Below.drew ?_) | (refine Below.alloc ?_ (by first | exact Nat.le_refl _ | (simp; done) | (simp; omega) | omega) _) | (refine Below.setCell ?_ (by first | exact Nat.le_refl _ | (simp; done) | (simp; omega) | omega) _) | (refine Below.trans ?_ (Below.mono (by assumption) (by first | exact Nat.le_refl _ | (simp; done) | (simp; omega) | omega))))) HV.out
  · have HV := hide (show intervalsOfV q xs = (intvL xs n, true) by unfold intervalsOfV; rw [hg, hr.1]; rfl)
    replace hg := hide hg
    go_enter Try.func49, Try.ntmps49
    go_wp2_with (first | (go_at_call 63; refine (l3Good_any _ _ _ xs _ _ hr hn).mono ?_; rintro e w1 ⟨rfl, rfl⟩; rw [hg.out]) | (go_at_call 78; refine (l5Intervals_any _ _ _ xs _ hr hn).mono ?_; rintro e w1 ⟨A', c', rfl, ho, hb⟩))
    go_ret2
    exact RetP.of ho hb HV.out

set_option maxHeartbeats 3200000 in
theorem impl_IntervalsOf (q : Int) (A : Option Addr) (n c : Nat) (xs : List Int) (w : World) (_ : -9223372036854775808 ≤ q) (_ : q ≤ 9223372036854775807) (hr : RdI w A n xs) (hn : n ≤ 1048576) (_ : ∀ x ∈ xs, -9223372036854775808 ≤ x ∧ x ≤ 9223372036854775807) :
    Calls Try.prog 50 #[.int .i64 q, .slice A n c] w (RetP w (intervalsOfV q xs)) := by
  cases hg : reqB q xs
  · have HV := hide (show intervalsOfV q xs = ([], false) by unfold intervalsOfV; rw [hg]; rfl)
    replace hg := hide hg
    go_enter Try.func50, Try.ntmps50
    go_wp2_with (go_at_call 65; refine (isRequests_any _ _ _ xs _ _ hr hn).mono ?_; rintro e w1 ⟨rfl, hb⟩; rw [hg.out])
    go_ret2
    exact RetP.of (OwnP.nil _ _ _) hb HV.out
  · have HV := hide (show intervalsOfV q xs = (intvL xs n, true) by unfold intervalsOfV; rw [hg, hr.1]; rfl)
    replace hg := hide hg
    have hlen := hide hr.1
    go_enter Try.func50, Try.ntmps50
    go_wp2_with fail
    refine (isRequests_any _ _ _ xs _ _ hr hn).mono ?_
    rintro e wa ⟨rfl, hba⟩
    rw [hg.out]
    have HR := hide (hr.below hba)
    have HBA := hide hba
    have hza := hba.size
    clear hr hba
    go_wp2_with (go_at_call 77; refine (nextUses_any _ _ _ xs _ (HR.out.below ((Below.refl _ _).alloc (Nat.le_refl _) _)) hn).mono ?_; rintro e w1 ⟨AN, cN, rfl, hoN, hbN⟩; replace hoN := hide hoN; replace hbN := hide hbN)
    have hz1 : wa.heap.size + 1 ≤ w1.heap.size := by have := hbN.out.size; simpa using this
    have HB1 : Hid (Below wa.heap.size wa w1) := ((Below.refl _ _).alloc (Nat.le_refl _) _).trans (hbN.out.mono (by simp))
    have HO1 : Hid (OwnP 62 w1 wa.heap.size (some ⟨wa.heap.size, 0, none⟩) 0 0 (intvL xs 0)) := (ownP_empty 62 wa wa.heap.size (Nat.le_refl _) _ rfl).below hbN.out
    have HN1 := hide hoN.out.rd
    have HNs := hide (hoN.out.lt)
    go_loopw [6, 7, 8, 17] (fun u _ _ i wr => ∃ (k : Nat) (A' : Option Addr) (c' : Nat), k ≤ n ∧ i = .int .i64 k ∧ u = .slice A' k c' ∧ Hid (OwnP 62 wr wa.heap.size A' k c' (intvL xs k)) ∧ Hid (Sep A' AN) ∧ Hid (OwnI wr (wa.heap.size + 1) AN n cN (nextL xs n)) ∧ Hid (Below wa.heap.size wa wr)) (fun _ _ _ i _ => n - (intOf i).toNat)
    case atStart => exact ⟨0, _, _, Nat.zero_le _, rfl, rfl, HO1, fun a a' e e' he => by
      injection e with e
      subst e
      have := HNs.out a' e'
      simp at this he
      omega, hide (by have := hoN.out; simpa using this), HB1⟩
    case round =>
      obtain ⟨k, A', c', hk, rfl, rfl, HO, HS, HN, HB⟩ := hrel
      by_cases hlt : k < n
      · have hlt' : (k : Int) < (n : Int) := by omega
        obtain ⟨b, off, rfl, hbb, hc⟩ := (HN.out.rd).at_ hlt
        rw [nextL_get xs n k hlt] at hc
        obtain ⟨z, hz⟩ : ∃ z, Hid (nextAt xs k = z) := ⟨_, rfl⟩
        rw [hz.out] at hc
        go_wp2_with (at_builtin; refine append_pair_lies rfl _ _ rfl wa.heap.size A' k c' (intvL xs k) _ _ _ rfl rfl HO.out (by omega) HB.out.size ?_; intro A2 c2 w2 ho' hb' hg' hl'; have HN2 := hide (HN.out.marked hg' HS.out.symm); have HS2 := hide (sep_after hl' HS.out HN.out.lt); clear hl'; replace ho' := hide ho'; replace hb' := hide hb'; clear hg')
        go_roundw
        case rel => first | exact ⟨k + 1, A2, c2, by omega, by go_num, rfl, by have := ho'.out; rw [intvL_snoc, hz.out]; exact this, HS2, HN2, HB.out.trans hb'.out⟩ | ((repeat apply Exists.intro); refine ⟨?_, rfl⟩; exact ⟨k + 1, A2, c2, by omega, by go_num, rfl, by have := ho'.out; rw [intvL_snoc, hz.out]; exact this, HS2, HN2, HB.out.trans hb'.out⟩)
        case measure => first | (simp [intOf]; done) | (simp [intOf]; omega)
      · have hkn : k = n := by omega
        subst hkn
        go_wp2
        go_ret2
        exact RetP.of (HO.out.more hza) (HBA.out.trans (HB.out.mono hza)) HV.out
end Go.Proofs.Ytaoacpikmpoodaa
