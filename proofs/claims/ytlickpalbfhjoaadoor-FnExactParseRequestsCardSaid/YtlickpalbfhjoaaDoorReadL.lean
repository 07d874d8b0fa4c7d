/- A list of numbers read by the program (readList): what ListP calls readTo over the parts; for texts of at most 2^20 bytes; the premises: Go's table of powers of ten and strconv's two errors are laid. -/
import Derived.Test.YtlickpalbfhjoaaDoorListP
import Derived.Test.YtlickpalbfhjoaaDoorRead
import Derived.Test.YtlickpalbfhjoaaDoorSplitI
import Derived.Test.YtlickpalbfhjoaaDoorInts
namespace Go.Proofs.YtlickpalbfhjoaaDoor
open Go.RowKit

/-- A row of numbers and a row of texts never share a block. -/
theorem own_apartS {w : World} {b1 b2 : Nat} {A1 A2 : Option Addr} {n1 c1 n2 c2 : Nat} {xs : List Int} {ys : List ByteArray} (h1 : OwnI w b1 A1 n1 c1 xs) (h2 : OwnS w b2 A2 n2 c2 ys) : ∀ a a', A1 = some a → A2 = some a' → a.block ≠ a'.block := by
  intro a a' e e' he
  subst e e'
  rcases h1.2 with ⟨k1, _⟩ | ⟨g, cap, cur, k1, _, hh, _⟩
  · cases k1
  · rcases h2.2 with ⟨k2, _⟩ | ⟨g', cap', cur', k2, _, hh', _⟩
    · cases k2
    · injection k1 with k1
      injection k1 with k1
      injection k2 with k2
      injection k2 with k2
      subst k1 k2
      simp only at he
      subst he
      rw [hh] at hh'
      injection hh' with hh'
      injection hh' with _ ht
      exact absurd ht (by decide)
theorem OwnS.grown {w w' : World} {base : Nat} {A A' : Option Addr} {n c : Nat} {xs : List ByteArray} (h : OwnS w base A n c xs) (hg : w.grownBy w' (A'.map (·.block))) (hs : ∀ a a', A' = some a → A = some a' → a.block ≠ a'.block) : OwnS w' base A n c xs := by
  refine World.ownsRow.kept h hg ?_
  cases A with
  | none => exact .inl rfl
  | some a =>
    right
    cases A' with
    | none => simp [Value.ownBlock]
    | some a' => simpa [Value.ownBlock] using (hs a' a rfl rfl).symm

theorem pieces_size (s : ByteArray) (c : UInt8) : ∀ k, ∀ x ∈ (pieces s c k).1, x.size ≤ s.size
  | 0, x, h => by simp [pieces] at h
  | k + 1, x, h => by
    unfold pieces at h
    split at h
    · rw [List.mem_append, List.mem_singleton] at h
      rcases h with h | rfl
      · exact pieces_size s c k x h
      · rw [ByteArray.size_extract]; omega
    · exact pieces_size s c k x h
theorem part_size (s : ByteArray) (c : UInt8) (k : Nat) : ((splitL s c).getD k ByteArray.empty).size ≤ s.size := by
  rw [List.getD_eq_getElem?_getD]
  cases h : (splitL s c)[k]? with
  | none => simp
  | some x =>
    have hm : x ∈ splitL s c := List.mem_of_getElem? h
    unfold splitL at hm
    rw [List.mem_append, List.mem_singleton] at hm
    rcases hm with hm | rfl
    · exact pieces_size s c _ x hm
    · simp only [Option.getD_some]; rw [ByteArray.size_extract]; omega
def rlV (s : ByteArray) : List Int × Bool := match readTo implRead (splitL s 32) (splitL s 32).length with
  | some l => (l, true)
  | none => ([], false)
theorem rlV_some {s : ByteArray} {l : List Int} (h : readTo implRead (splitL s 32) (splitL s 32).length = some l) : rlV s = (l, true) := by unfold rlV; rw [h]
theorem rlV_none {s : ByteArray} (h : readTo implRead (splitL s 32) (splitL s 32).length = none) : rlV s = ([], false) := by unfold rlV; rw [h]
theorem read_yes {s : ByteArray} (h : (implRead s.data.toList).isSome = true) : ∃ v, implRead s.data.toList = some v ∧ readN s = v ∧ readOk s = true := by
  cases hi : implRead s.data.toList with
  | none => rw [hi] at h; cases h
  | some v => exact ⟨v, rfl, by unfold readN; rw [hi]; rfl, by unfold readOk; rw [hi]; rfl⟩
theorem read_no {s : ByteArray} (h : ¬ (implRead s.data.toList).isSome = true) : implRead s.data.toList = none ∧ readN s = 0 ∧ readOk s = false := by
  cases hi : implRead s.data.toList with
  | none => exact ⟨rfl, by unfold readN; rw [hi]; rfl, by unfold readOk; rw [hi]; rfl⟩
  | some v => rw [hi] at h; exact absurd rfl h

set_option maxRecDepth 100000 in
set_option maxHeartbeats 1600000 in
theorem readList_any (s : ByteArray) (w : World) (hs : s.size ≤ 1048576) (ht : Tab w) (he : Errs w) : Calls Tryd.prog 62 #[.string s] w (RetI w (rlV s)) := by
  have h1 := fun w => splitAt_any s 32 w hs
  change ∀ w, Calls _ _ #[_, .int .u8 32] w _ at h1
  have hlen := splitL_len s 32
  have hV1 : ∀ l, readTo implRead (splitL s 32) (splitL s 32).length = some l → rlV s = (l, true) := fun l h => rlV_some h
  have hV0 : readTo implRead (splitL s 32) (splitL s 32).length = none → rlV s = ([], false) := fun h => rlV_none h
  have hsz := fun k => Nat.le_trans (part_size s 32 k) hs
  have hlast : ∃ N, N = (splitL s 32).length := ⟨_, rfl⟩
  obtain ⟨N, HN⟩ := hlast
  generalize hws : splitL s 32 = ws at h1 hlen hV1 hV0 HN hsz
  unfold RetS at h1
  rw [← HN] at h1 hlen hV1 hV0
  replace h1 := hide h1
  replace hV1 := hide hV1
  replace hV0 := hide hV0
  replace hsz := hide hsz
  replace HN := hide HN
  replace ht := hide ht
  replace he := hide he
  have h0 := own_empty w w.heap.size (Nat.le_refl _) #[] rfl
  have hb0 : Below w.heap.size w (w.alloc (.cells #[] 3)) := (by repeat (first | exact Below.refl _ _ | (refine below_drewN ?_ _) | (refine Below.drew ?_) | (refine Below.alloc ?_ (by first | exact Nat.le_refl _ | (simp; done) | (simp; omega) | omega) _) | (refine Below.setCell ?_ (by first | exact Nat.le_refl _ | (simp; done) | (simp; omega) | omega) _) | (refine Below.trans ?_ (Below.mono (by assumption) (by first | exact Nat.le_refl _ | (simp; done) | (simp; omega) | omega)))))
  replace h0 := hide h0
  replace hb0 := hide hb0
  clear hws
  go_enter Tryd.func62, Tryd.ntmps62
  go_wp2_with (go_at_call 80; refine (h1.out _).mono ?_; rintro e w1 ⟨As, cs, rfl, os, hb⟩; replace os := hide (os.more hb0.out.size); replace h0 := hide (h0.out.below hb); replace hb0 := hide (hb0.out.trans (hb.mono hb0.out.size)); clear hb)
  go_loopw [4, 13] (fun o i wr => ∃ (k cc : Nat) (A : Option Addr) (l : List Int), k ≤ N ∧ i = .int .i64 k ∧ o = .slice A k cc ∧ Hid (readTo implRead ws k = some l) ∧ Hid (OwnI wr w.heap.size A k cc l) ∧ Hid (OwnS wr w.heap.size As N cs ws) ∧ Hid (Below w.heap.size w wr)) (fun _ i _ => N - (intOf i).toNat)
  case atStart => exact ⟨0, 0, _, [], Nat.zero_le _, rfl, rfl, rfl, h0, os, hb0⟩
  case round =>
    obtain ⟨k, cc, A, l, hk, rfl, rfl, HT, HO, HS, HB⟩ := hrel
    clear h0 os hb0
    by_cases hlt : k < N
    · obtain ⟨b, off, rfl, hbk, hc⟩ := HS.out.rd.at_ hlt
      have hlt' : (k : Int) < (N : Int) := by omega
      have hxs := hsz.out k
      have h4 := readDec_any (ws.getD k ByteArray.empty) wr hxs (ht.out.below HB.out) (he.out.below HB.out)
      by_cases hr : (implRead (ws.getD k ByteArray.empty).data.toList).isSome = true
      · obtain ⟨v, hv, e1, e2⟩ := read_yes hr
        rw [e1, e2] at h4
        have HT2 := hide (readTo_snoc HT.out hv)
        replace h4 := hide h4
        generalize ws.getD k ByteArray.empty = x at hc h4
        clear hr hv e1 e2 hxs
        go_wp2_with (first
          | (go_at_call 58; refine h4.out.mono ?_; rintro e w1 ⟨rfl, hb⟩; have HO1 := hide (HO.out.below hb); have HS1 := hide (HS.out.below hb); have HB1 := hide (HB.out.trans (hb.mono HB.out.size)); clear hb)
          | (at_builtin; refine append_int rfl _ _ rfl w.heap.size A k cc l v _ rfl rfl HO1.out (by omega) HB1.out.size ?_; intro A2 c2 w2 ho2 hb2 hg2; have HS2 := hide (HS1.out.grown hg2 (own_apartS HO1.out HS1.out)); replace ho2 := hide ho2; replace hb2 := hide hb2; clear hg2))
        go_roundw
        case rel => first | exact ⟨k + 1, c2, A2, l ++ [v], by omega, by go_num, rfl, HT2, ho2, HS2, HB1.out.trans hb2.out⟩ | ((repeat apply Exists.intro); refine ⟨?_, rfl⟩; exact ⟨k + 1, c2, A2, l ++ [v], by omega, by go_num, rfl, HT2, ho2, HS2, HB1.out.trans hb2.out⟩)
        case measure => first | (simp [intOf]; done) | (simp [intOf]; omega)
      · obtain ⟨hv, e1, e2⟩ := read_no hr
        rw [e1, e2] at h4
        have HV := hide (hV0.out (readTo_none hv hlt))
        replace h4 := hide h4
        generalize ws.getD k ByteArray.empty = x at hc h4
        clear hr hv e1 e2 hxs
        go_wp2_with (go_at_call 58; refine h4.out.mono ?_; rintro e w1 ⟨rfl, hb⟩; have HB1 := hide (HB.out.trans (hb.mono HB.out.size)); clear hb)
        go_ret2
        exact RetI.of (OwnI.nil _ _) HB1.out HV.out
    · obtain rfl : k = N := by omega
      have HV := hide (hV1.out l HT.out)
      go_wp2
      go_ret2
      exact RetI.of HO.out HB.out HV.out
end Go.Proofs.YtlickpalbfhjoaaDoor
