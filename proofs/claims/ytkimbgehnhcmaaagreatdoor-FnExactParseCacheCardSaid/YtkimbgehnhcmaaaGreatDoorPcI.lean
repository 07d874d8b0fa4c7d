/- ParseCache by the program: what PcP calls pcI; for texts of at most 2^20 bytes; the premises: Go's own tables and strconv's two errors are laid. -/
import Derived.Test.YtkimbgehnhcmaaaGreatDoorPcS
import Derived.Test.YtkimbgehnhcmaaaGreatDoorSplitI
import Derived.Test.YtkimbgehnhcmaaaGreatDoorRead
import Derived.Test.YtkimbgehnhcmaaaGreatDoorCacheTI
namespace Go.Proofs.YtkimbgehnhcmaaaGreatDoor
open Go.RowKit

theorem isMarked_any (p : Int) (w : World) : Calls Tryz.prog 20 #[.int .i64 p] w fun e w' => e = .returned (.bool (mkB p)) ∧ w = w' := by
  unfold mkB
  by_cases h5 : p = 5
  · subst h5
    rw [decide_eq_true (.inl rfl)]
    exact isMarked_five w
  · by_cases h6 : p = 6
    · subst h6
      rw [decide_eq_true (.inr rfl)]
      exact isMarked_six w
    · rw [decide_eq_false (by omega)]
      exact isMarked_no p h5 h6 w
/-- What the program's reading asks of the world: Go's own tables, strconv's two errors. -/
def Env (m : Int) (w : World) : Prop := Tabs m w ∧ Errs w
theorem Env.below {m : Int} {w w' : World} (h : Env m w) (hb : Below w.heap.size w w') : Env m w' := ⟨h.1.below hb, h.2.below hb⟩
theorem cut_any (s : ByteArray) (c : UInt8) (m : Int) (w : World) (hs : s.size ≤ 1048576) (h : Env m w) : Calls Tryz.prog 17 #[.string s, .string ⟨#[c]⟩] w (RetCut c s w) := by
  have h1 := Tryz.strings_Cut s ⟨#[c]⟩ m w (by omega) h.1.2
  rw [show (⟨#[c]⟩ : ByteArray).data.toList = [c] from rfl, cut_pos] at h1
  exact h1
theorem readN_cutA (c : UInt8) (s : ByteArray) : readN (cutAB c s) = readZ (cutA c s.data.toList) := by unfold readN readZ; rw [cutAB_bytes]
theorem readN_cutB (c : UInt8) (s : ByteArray) : readN (cutBB c s) = readZ (cutB c s.data.toList) := by unfold readN readZ; rw [cutBB_bytes]

theorem pcI_none {n : Int} {t : ByteArray} {M : Nat} (hM : (splitL t 32).length = M + 1) (h : rdTo (wordI (mkB (polH (w0 t)))) (splitL t 32) M = none) : pcI n t = none := by
  unfold pcI
  rw [hM, Nat.add_sub_cancel, h]
theorem pcI_some {n : Int} {t : ByteArray} {M : Nat} {xs ys : List Int} (hM : (splitL t 32).length = M + 1) (h : rdTo (wordI (mkB (polH (w0 t)))) (splitL t 32) M = some (xs, ys)) : pcI n t = endC n (polH (w0 t)) (readZ (cutA 64 (cutB 47 (w0 t)))) (readZ (cutB 64 (cutB 47 (w0 t)))) t xs ys := by
  unfold pcI
  rw [hM, Nat.add_sub_cancel, h]
theorem wordI_no {m : Bool} {l : List UInt8} (h : implRead (cutA 58 l) = none) : wordI m l = none := by unfold wordI; rw [h]
theorem wordI_two {l : List UInt8} {v : Int} (h : implRead (cutA 58 l) = some v) : wordI true l = some (v, [readZ (cutB 58 l)]) := by unfold wordI; rw [h]; rfl
theorem wordI_one {l : List UInt8} {v : Int} (h : implRead (cutA 58 l) = some v) : wordI false l = some (v, []) := by unfold wordI; rw [h]; rfl

set_option maxRecDepth 100000 in
set_option maxHeartbeats 6400000 in
theorem impl_ParseCache (n m : Int) (s : ByteArray) (w : World) (hs : s.size ≤ 1048576) (he : Env m w) : Calls Tryz.prog 5 #[.int .i64 n, .string s] w (RetPC w (pcI n s)) := by
  have kS := fun w => splitAt_any s 32 w hs
  change ∀ w, Calls _ _ #[_, .int .u8 32] w _ at kS
  have hsz := fun k => Nat.le_trans (part_size s 32 k) hs
  obtain ⟨M, hM⟩ : ∃ M, (splitL s 32).length = M + 1 := ⟨(splitL s 32).length - 1, by have := splitL_pos s 32; omega⟩
  have hMs : M ≤ 1048576 := by have := splitL_len s 32; omega
  have hV1 := pcI_none (n := n) hM
  have hV2 := fun xs ys => pcI_some (n := n) (xs := xs) (ys := ys) hM
  have kA := fun w h => cut_any ((splitL s 32).getD 0 ByteArray.empty) 47 m w (hsz 0) h
  have kB := fun w h => cut_any (cutBB 47 ((splitL s 32).getD 0 ByteArray.empty)) 64 m w (Nat.le_trans (cutBB_size 47 _) (hsz 0)) h
  have kP := fun w (h : Env m w) => iPolicyOf_any (cutAB 47 ((splitL s 32).getD 0 ByteArray.empty)) m w h.1.2
  have kZ := fun w (h : Env m w) => readDec_any (cutAB 64 (cutBB 47 ((splitL s 32).getD 0 ByteArray.empty))) w (Nat.le_trans (cutAB_size 64 _) (Nat.le_trans (cutBB_size 47 _) (hsz 0))) h.1.1 h.2
  have kH := fun w (h : Env m w) => readDec_any (cutBB 64 (cutBB 47 ((splitL s 32).getD 0 ByteArray.empty))) w (Nat.le_trans (cutBB_size 64 _) (Nat.le_trans (cutBB_size 47 _) (hsz 0))) h.1.1 h.2
  rw [readN_cutA, cutBB_bytes] at kZ
  rw [readN_cutB, cutBB_bytes] at kH
  unfold RetCut at kA kB
  unfold RetS at kS
  rw [hM] at kS
  change ∀ w, _ → Calls _ _ _ w fun e w' => e = .returned (.tuple #[.int .i64 (polH (w0 s)), _]) ∧ _ at kP
  change ∀ w, _ → Calls _ _ _ w fun e w' => e = .returned (.tuple #[.int .i64 (readZ (cutA 64 (cutB 47 (w0 s)))), _]) ∧ _ at kZ
  change ∀ w, _ → Calls _ _ _ w fun e w' => e = .returned (.tuple #[.int .i64 (readZ (cutB 64 (cutB 47 (w0 s)))), _]) ∧ _ at kH
  generalize readZ (cutA 64 (cutB 47 (w0 s))) = Z at kZ hV2
  generalize readZ (cutB 64 (cutB 47 (w0 s))) = H at kH hV2
  generalize polH (w0 s) = P at kP hV1 hV2
  generalize decide (0 < polIdx (cutAB 47 ((splitL s 32).getD 0 ByteArray.empty))) = b0 at kP
  generalize readOk (cutAB 64 (cutBB 47 ((splitL s 32).getD 0 ByteArray.empty))) = b1 at kZ
  generalize readOk (cutBB 64 (cutBB 47 ((splitL s 32).getD 0 ByteArray.empty))) = b2 at kH
  generalize cutF 64 (cutBB 47 ((splitL s 32).getD 0 ByteArray.empty)).data.toList = b3 at kB
  generalize cutF 47 ((splitL s 32).getD 0 ByteArray.empty).data.toList = b4 at kA
  generalize cutAB 64 (cutBB 47 ((splitL s 32).getD 0 ByteArray.empty)) = many at kB kZ
  generalize cutBB 64 (cutBB 47 ((splitL s 32).getD 0 ByteArray.empty)) = hand at kB kH
  generalize cutAB 47 ((splitL s 32).getD 0 ByteArray.empty) = name at kA kP
  generalize cutBB 47 ((splitL s 32).getD 0 ByteArray.empty) = rest at kA kB
  generalize splitL s 32 = ws at kS kA hV1 hV2 hsz
  generalize hpc : pcI n s = out at hV1 hV2 ⊢
  clear hpc hM
  generalize hx0 : ws.getD 0 ByteArray.empty = x0 at kA
  replace hx0 := hide hx0
  have HR := hide (Blk.new w (.int .i64 0) (.int .i64 0) (.slice none 0 0) (.slice none 0 0) (.int .i64 0))
  have HB0 := hide ((Below.refl w.heap.size w).alloc (Nat.le_refl _) (.cells #[.int .i64 0, .int .i64 0, .slice none 0 0, .slice none 0 0, .int .i64 0] 24))
  have HE := hide (he.below HB0.out)
  replace kS := hide kS
  replace kA := hide kA
  replace kB := hide kB
  replace kP := hide kP
  replace kZ := hide kZ
  replace kH := hide kH
  replace hV1 := hide hV1
  replace hV2 := hide hV2
  replace hsz := hide hsz
  clear he
  go_enter Tryz.func5, Tryz.ntmps5
  go_wp2_with fail
  generalize hW0 : w.alloc (.cells #[.int .i64 0, .int .i64 0, .slice none 0 0, .slice none 0 0, .int .i64 0] 24) = W0 at HR HB0 HE ⊢
  clear hW0
  refine (kS.out _).mono ?_
  rintro e W1 ⟨As, cs, rfl, os, hb⟩
  obtain ⟨b, off, rfl, _, hc⟩ := os.rd.at_ (show 0 < M + 1 by omega)
  rw [hx0.out, Nat.add_zero] at hc
  have hroom := os.room
  have HB := hide hb
  replace os := hide os
  clear hb
  go_wp2_with fail
  refine (kA.out _ (HE.out.below HB.out)).mono ?_
  rintro e W2 ⟨rfl, m2, rfl⟩
  have hb := below_drewN (Below.refl W1.heap.size W1) m2
  replace os := hide (os.out.below hb)
  replace HB := hide (HB.out.trans (hb.mono HB.out.size))
  clear hb hc
  go_wp2_with fail
  refine (kB.out _ (HE.out.below HB.out)).mono ?_
  rintro e W3 ⟨rfl, m3, rfl⟩
  have hb := below_drewN (Below.refl (W1.drewN m2).heap.size (W1.drewN m2)) m3
  replace os := hide (os.out.below hb)
  replace HB := hide (HB.out.trans (hb.mono HB.out.size))
  clear hb
  generalize (W1.drewN m2).drewN m3 = W3 at os HB ⊢
  have HX := hide (Blk.new W3 (.int .i64 0) (.int .i64 0) (.slice none 0 0) (.slice none 0 0) (.int .i64 0))
  have hb := (Below.refl W3.heap.size W3).alloc (Nat.le_refl _) (.cells #[.int .i64 0, .int .i64 0, .slice none 0 0, .slice none 0 0, .int .i64 0] 24)
  have hXB := HB.out.size
  replace os := hide (os.out.below hb)
  replace HB := hide (HB.out.trans (hb.mono HB.out.size))
  clear hb
  go_upto_region 5 with (fail)
  generalize W3.alloc (.cells #[.int .i64 0, .int .i64 0, .slice none 0 0, .slice none 0 0, .int .i64 0] 24) = V3 at HX HB os ⊢
  generalize W3.heap.size = X at HX hXB ⊢
  go_wp2_with fail
  refine (kP.out _ (HE.out.below HB.out)).mono ?_
  rintro e W4 ⟨rfl, hb⟩
  replace os := hide (os.out.below hb)
  replace HX := hide (HX.out.on hb)
  replace HB := hide (HB.out.trans (hb.mono HB.out.size))
  clear hb
  obtain ⟨z0, x0', x1, x2, x3, x4⟩ := HX.out.five
  have xz := HX.out.frz 0
  replace os := hide (os.out.setx (b := X) (j := 0) (.int .i64 P) (HX.out.apartS os.out))
  replace HX := hide (HX.out.set0 (.int .i64 P))
  replace HB := hide (HB.out.setCell (p := ⟨X, 0, none⟩) hXB (.int .i64 P))
  go_upto_region 6 with (fail)
  generalize W4.setCell ⟨X, 0, none⟩ (.int .i64 P) = V4 at HX HB os ⊢
  clear z0 x0' x1 x2 x3 x4 xz
  go_wp2_with fail
  refine (kZ.out _ (HE.out.below HB.out)).mono ?_
  rintro e W5 ⟨rfl, hb⟩
  replace os := hide (os.out.below hb)
  replace HX := hide (HX.out.on hb)
  replace HB := hide (HB.out.trans (hb.mono HB.out.size))
  clear hb
  obtain ⟨z0, x0', x1, x2, x3, x4⟩ := HX.out.five
  have xz := HX.out.frz 1
  replace os := hide (os.out.setx (b := X) (j := 1) (.int .i64 Z) (HX.out.apartS os.out))
  replace HX := hide (HX.out.set1 (.int .i64 Z))
  replace HB := hide (HB.out.setCell (p := ⟨X, 1, none⟩) hXB (.int .i64 Z))
  go_upto_region 7 with (fail)
  generalize W5.setCell ⟨X, 1, none⟩ (.int .i64 Z) = V5 at HX HB os ⊢
  clear z0 x0' x1 x2 x3 x4 xz
  go_wp2_with fail
  refine (kH.out _ (HE.out.below HB.out)).mono ?_
  rintro e W6 ⟨rfl, hb⟩
  replace os := hide (os.out.below hb)
  replace HX := hide (HX.out.on hb)
  replace HB := hide (HB.out.trans (hb.mono HB.out.size))
  clear hb
  obtain ⟨z0, x0', x1, x2, x3, x4⟩ := HX.out.five
  have xz := HX.out.frz 4
  replace os := hide (os.out.setx (b := X) (j := 4) (.int .i64 H) (HX.out.apartS os.out))
  replace HX := hide (HX.out.set4 (.int .i64 H))
  replace HB := hide (HB.out.setCell (p := ⟨X, 4, none⟩) hXB (.int .i64 H))
  go_upto_region 8 with (fail)
  generalize W6.setCell ⟨X, 4, none⟩ (.int .i64 H) = V6 at HX HB os ⊢
  clear z0 x0' x1 x2 x3 x4 xz
  have HP : Hid (PS W0.heap.size W0 V6 X P Z H (some ⟨b, off, none⟩) (M + 1) cs ws none 0 0 [] none 0 0 []) :=
    ⟨HX.out, OwnI.nil _ _, OwnI.nil _ _, (fun _ _ e => by cases e), os.out, HB.out, HB.out.size, hXB⟩
  clear HX os HB
  have finN : ∀ V, Below W0.heap.size W0 V → out = none → RetPC w out (.returned (.tuple #[.agg #[.int .i64 0, .int .i64 0, .slice none 0 0, .slice none 0 0, .int .i64 0], .bool false])) (set5 V w.heap.size (.int .i64 0) (.int .i64 0) (.slice none 0 0) (.slice none 0 0) (.int .i64 0)) :=
    fun V hb ho => RetPC.no ho (below_set5 (HB0.out.trans (hb.mono HB0.out.size)) (Nat.le_refl _) _ _ _ _ _)
  have finY : ∀ V A1 c1 n2 c2 A2 xs ys, PS W0.heap.size W0 V X P Z H (some ⟨b, off, none⟩) (M + 1) cs ws A1 M c1 xs A2 n2 c2 ys → out = some ⟨P, Z, H, xs, ys⟩ → RetPC w out (.returned (.tuple #[.agg #[.int .i64 P, .int .i64 Z, .slice A1 M c1, .slice A2 n2 c2, .int .i64 H], .bool true])) (set5 V w.heap.size (.int .i64 P) (.int .i64 Z) (.slice A1 M c1) (.slice A2 n2 c2) (.int .i64 H)) :=
    fun V A1 c1 n2 c2 A2 xs ys hp ho => RetPC.yes ho (((hp.o1.set5 _ _ _ _ _ ((HR.out.on hp.b).apart hp.o1))).more HB0.out.size) (((hp.o2.set5 _ _ _ _ _ ((HR.out.on hp.b).apart hp.o2))).more HB0.out.size) hp.s (below_set5 (HB0.out.trans (hp.b.mono HB0.out.size)) (Nat.le_refl _) _ _ _ _ _)
  replace finN := hide finN
  replace finY := hide finY
  clear kS kA kB kP kZ kH hx0 hXB
  by_cases hcs : cs = 1
  · obtain rfl : M = 0 := by omega
    subst hcs
    go_wp2_with fail
    go_loopw [61] (fun i wr => ∃ (j c1 n2 c2 : Nat) (A1 A2 : Option Addr) (xs ys : List Int), j ≤ 0 ∧ n2 ≤ j ∧ i = .int .i64 (j : Int) ∧ Hid (rdTo (wordI (mkB P)) ws j = some (xs, ys)) ∧ Hid (PS W0.heap.size W0 wr X P Z H (some ⟨b, off, none⟩) (0 + 1) 1 ws A1 j c1 xs A2 n2 c2 ys)) (fun i _ => 0 - (intOf i).toNat)
    case atStart => exact ⟨0, 0, 0, 0, none, none, [], [], Nat.zero_le _, Nat.zero_le _, rfl, rfl, HP⟩
    case round =>
      clear HP
      obtain ⟨j, c1, n2, c2, A1, A2, xs, ys, hj, hn2, rfl, HT, HP⟩ := hrel
      by_cases hlt : j < 0
      · exact absurd hlt (Nat.not_lt_zero _)
      · obtain rfl : j = 0 := by omega
        have hE := hV2.out xs ys HT.out
        have hlen := rdTo_len HT.out
        have kG := impl_IsCache n P Z H A1 0 c1 A2 n2 c2 xs ys wr HP.out.o1.rd HP.out.o2.rd (by omega)
        have kT := fun V q1 q2 f q3 => iText_any m P Z H A1 0 c1 A2 n2 c2 xs ys V q1 q2 f q3
        obtain ⟨z0, x0', x1, x2, x3, x4⟩ := HP.out.x.five
        cases hcb : cacheB n P Z xs ys H with
        | false =>
          have HV := hide (hE.trans (endC_bad hcb))
          rw [hcb] at kG
          replace kG := hide kG
          clear kT hE hcb hlen
          go_wp2_with fail
          refine kG.out.mono ?_
          rintro e V2 ⟨rfl, hb⟩
          have HP2 := hide (HP.out.on hb)
          clear hb z0 x0' x1 x2 x3 x4
          obtain ⟨y0, r0, r1, r2, r3, r4⟩ := (HR.out.on HP2.out.b).five
          have rz := (HR.out.on HP2.out.b).frz
          obtain ⟨q0, q1, q2, q3, q4⟩ := five_cells r0 r1 r2 r3 r4
          go_wp2_with fail
          refine bodyPost_ret (v := .tuple #[.agg #[.int .i64 0, .int .i64 0, .slice none 0 0, .slice none 0 0, .int .i64 0], .bool false]) (by simp [results, Tryz.results5, go_sem, q0, q1, q2, q3, q4]) rfl ?_
          exact finN.out _ HP2.out.b HV.out
        | true =>
          have hf := fine_of hcb
          rw [hcb] at kG
          replace kG := hide kG
          by_cases ht : ctTo P Z H xs ys 0 = s
          · have HV := hide (hE.trans (endC_yes hcb (by rw [hlen]; exact ht)))
            have hself := str_self s
            rw [ht] at kT
            replace kT := hide kT
            clear hE hcb hlen ht
            go_wp2_with fail
            refine kG.out.mono ?_
            rintro e V2 ⟨rfl, hb⟩
            have HP2 := hide (HP.out.on hb)
            clear hb z0 x0' x1 x2 x3 x4
            obtain ⟨z0, x0', x1, x2, x3, x4⟩ := HP2.out.x.five
            go_wp2_with fail
            refine (kT.out _ HP2.out.o1.rd HP2.out.o2.rd hf (HE.out.below HP2.out.b).1).mono ?_
            rintro e V3 ⟨rfl, hb⟩
            have HP3 := hide (HP2.out.on hb)
            clear hb z0 x0' x1 x2 x3 x4
            obtain ⟨z0, x0, x1, x2, x3, x4⟩ := HP3.out.x.five
            obtain ⟨y0, r0, r1, r2, r3, r4⟩ := (HR.out.on HP3.out.b).five
            have rz := (HR.out.on HP3.out.b).frz
            obtain ⟨q0, q1, q2, q3, q4⟩ := five_cells r0 r1 r2 r3 r4
            go_wp2_with fail
            refine bodyPost_ret (v := .tuple #[.agg #[.int .i64 P, .int .i64 Z, .slice A1 0 c1, .slice A2 n2 c2, .int .i64 H], .bool true]) (by simp [results, Tryz.results5, go_sem, q0, q1, q2, q3, q4]) rfl ?_
            exact finY.out _ _ _ _ _ _ _ _ HP3.out HV.out
          · have HV := hide (hE.trans (endC_ne (by rw [hlen]; exact ht)))
            have hne := bytes_ne' ht
            generalize ctTo P Z H xs ys 0 = u at kT hne
            replace kT := hide kT
            clear hE hcb hlen ht
            go_wp2_with fail
            refine kG.out.mono ?_
            rintro e V2 ⟨rfl, hb⟩
            have HP2 := hide (HP.out.on hb)
            clear hb z0 x0' x1 x2 x3 x4
            obtain ⟨z0, x0', x1, x2, x3, x4⟩ := HP2.out.x.five
            go_wp2_with fail
            refine (kT.out _ HP2.out.o1.rd HP2.out.o2.rd hf (HE.out.below HP2.out.b).1).mono ?_
            rintro e V3 ⟨rfl, hb⟩
            have HP3 := hide (HP2.out.on hb)
            clear hb z0 x0' x1 x2 x3 x4
            obtain ⟨y0, r0, r1, r2, r3, r4⟩ := (HR.out.on HP3.out.b).five
            have rz := (HR.out.on HP3.out.b).frz
            obtain ⟨q0, q1, q2, q3, q4⟩ := five_cells r0 r1 r2 r3 r4
            go_wp2_with fail
            refine bodyPost_ret (v := .tuple #[.agg #[.int .i64 0, .int .i64 0, .slice none 0 0, .slice none 0 0, .int .i64 0], .bool false]) (by simp [results, Tryz.results5, go_sem, q0, q1, q2, q3, q4]) rfl ?_
            exact finN.out _ HP3.out.b HV.out
  · go_wp2_with fail
    go_loopw [61] (fun i wr => ∃ (j c1 n2 c2 : Nat) (A1 A2 : Option Addr) (xs ys : List Int), j ≤ M ∧ n2 ≤ j ∧ i = .int .i64 (j : Int) ∧ Hid (rdTo (wordI (mkB P)) ws j = some (xs, ys)) ∧ Hid (PS W0.heap.size W0 wr X P Z H (some ⟨b, off, none⟩) (M + 1) cs ws A1 j c1 xs A2 n2 c2 ys)) (fun i _ => M - (intOf i).toNat)
    case atStart => exact ⟨0, 0, 0, 0, none, none, [], [], Nat.zero_le _, Nat.zero_le _, rfl, rfl, HP⟩
    case round =>
      clear HP
      obtain ⟨j, c1, n2, c2, A1, A2, xs, ys, hj, hn2, rfl, HT, HP⟩ := hrel
      by_cases hlt : j < M
      · have hc := cell_of HP.out.words (show j + 1 < M + 1 by omega)
        rw [show off + (j + 1) = off + 1 + j by omega] at hc
        have hx := hsz.out (j + 1)
        have hlt' : (j : Int) < (M : Int) := by omega
        have kC := fun w h => cut_any (ws.getD (j + 1) ByteArray.empty) 58 m w hx h
        have kI := fun w (h : Env m w) => readDec_any (cutAB 58 (ws.getD (j + 1) ByteArray.empty)) w (Nat.le_trans (cutAB_size 58 _) hx) h.1.1 h.2
        have kM := fun w (h : Env m w) => readDec_any (cutBB 58 (ws.getD (j + 1) ByteArray.empty)) w (Nat.le_trans (cutBB_size 58 _) hx) h.1.1 h.2
        have kK := fun w => isMarked_any P w
        unfold RetCut at kC
        rw [readN_cutB] at kM
        unfold readN readOk at kI
        rw [cutAB_bytes] at kI
        generalize readOk (cutBB 58 (ws.getD (j + 1) ByteArray.empty)) = b5 at kM
        generalize cutF 58 (ws.getD (j + 1) ByteArray.empty).data.toList = b6 at kC
        cases hr : implRead (cutA 58 (ws.getD (j + 1) ByteArray.empty).data.toList) with
        | none =>
          have HV := hide (hV1.out (rdTo_none (wordI_no hr) hlt))
          rw [hr] at kI
          replace kC := hide kC
          replace kI := hide kI
          generalize ws.getD (j + 1) ByteArray.empty = x at hc kC kI
          clear hr kM kK hx
          go_wp2_with fail
          refine (kC.out _ (HE.out.below HP.out.b)).mono ?_
          rintro e V1 ⟨rfl, m1, rfl⟩
          have HP1 := hide (HP.out.on (below_drewN (Below.refl _ _) m1))
          go_wp2_with fail
          refine (kI.out _ (HE.out.below HP1.out.b)).mono ?_
          rintro e V2 ⟨rfl, hb⟩
          have HP2 := hide (HP1.out.on hb)
          clear hb
          obtain ⟨y0, r0, r1, r2, r3, r4⟩ := (HR.out.on HP2.out.b).five
          have rz := (HR.out.on HP2.out.b).frz
          obtain ⟨q0, q1, q2, q3, q4⟩ := five_cells r0 r1 r2 r3 r4
          go_wp2_with fail
          refine bodyPost_ret (v := .tuple #[.agg #[.int .i64 0, .int .i64 0, .slice none 0 0, .slice none 0 0, .int .i64 0], .bool false]) (by simp [results, Tryz.results5, go_sem, q0, q1, q2, q3, q4]) rfl ?_
          exact finN.out _ HP2.out.b HV.out
        | some v =>
          rw [hr] at kI
          by_cases hm : mkB P = true
          · have HT2 := hide (rdTo_snoc HT.out (by rw [hm]; exact wordI_two hr))
            rw [hm] at kK
            generalize readZ (cutB 58 (ws.getD (j + 1) ByteArray.empty).data.toList) = y at kM HT2
            replace kC := hide kC
            replace kI := hide kI
            replace kM := hide kM
            replace kK := hide kK
            generalize ws.getD (j + 1) ByteArray.empty = x at hc kC kI kM
            clear hr hm hx
            go_wp2_with fail
            refine (kC.out _ (HE.out.below HP.out.b)).mono ?_
            rintro e V1 ⟨rfl, m1, rfl⟩
            have HP1 := hide (HP.out.on (below_drewN (Below.refl _ _) m1))
            go_wp2_with fail
            refine (kI.out _ (HE.out.below HP1.out.b)).mono ?_
            rintro e V2 ⟨rfl, hb⟩
            have HP2 := hide (HP1.out.on hb)
            clear hb
            obtain ⟨z0, x0', x1, x2, x3, x4⟩ := HP2.out.x.five
            go_wp2_with (at_builtin; refine append_int_lies rfl _ _ rfl W0.heap.size A1 j c1 xs v _ rfl rfl HP2.out.o1 (by omega) HP2.out.hb ?_; intro A1' c1' V4 ho hb hg hl; obtain ⟨hx4, HP3⟩ := HP2.out.page ho hb hg hl; replace HP3 := hide HP3; clear ho hb hg hl z0 x0' x1 x2 x3 x4; obtain ⟨z0, x0', x1, x2, x3, x4⟩ := hx4.five; have xz := hx4.frz 2; replace hx4 := hide hx4)
            refine (kK.out _).mono ?_
            rintro e V5 ⟨rfl, rfl⟩
            clear z0 x0' x1 x2 x3 x4 xz
            go_wp2_with fail
            refine (kM.out _ (HE.out.below HP3.out.b)).mono ?_
            rintro e V6 ⟨rfl, hb⟩
            have HP4 := hide (HP3.out.on hb)
            clear hb
            obtain ⟨z0, x0', x1, x2, x3, x4⟩ := HP4.out.x.five
            go_wp2_with (at_builtin; refine append_int_lies rfl _ _ rfl W0.heap.size A2 n2 c2 ys y _ rfl rfl HP4.out.o2 (by omega) HP4.out.hb ?_; intro A2' c2' V7 ho hb hg hl; obtain ⟨hx6, HP5⟩ := HP4.out.mark ho hb hg hl; replace HP5 := hide HP5; clear ho hb hg hl z0 x0' x1 x2 x3 x4; obtain ⟨z0, x0', x1, x2, x3, x4⟩ := hx6.five; have xz := hx6.frz 3; replace hx6 := hide hx6)
            go_roundw
            case rel => first | exact ⟨j + 1, c1', n2 + 1, c2', A1', A2', xs ++ [v], ys ++ [y], by omega, by omega, by go_num, HT2, HP5⟩ | ((repeat apply Exists.intro); refine ⟨?_, rfl⟩; exact ⟨j + 1, c1', n2 + 1, c2', A1', A2', xs ++ [v], ys ++ [y], by omega, by omega, by go_num, HT2, HP5⟩)
            case measure => first | (simp [intOf]; done) | (simp [intOf]; omega)
          · have hm' : mkB P = false := by simpa using hm
            have HT2 := hide (rdTo_one HT.out (by rw [hm']; exact wordI_one hr))
            rw [hm'] at kK
            replace kC := hide kC
            replace kI := hide kI
            replace kK := hide kK
            generalize ws.getD (j + 1) ByteArray.empty = x at hc kC kI
            clear hr hm hm' hx kM
            go_wp2_with fail
            refine (kC.out _ (HE.out.below HP.out.b)).mono ?_
            rintro e V1 ⟨rfl, m1, rfl⟩
            have HP1 := hide (HP.out.on (below_drewN (Below.refl _ _) m1))
            go_wp2_with fail
            refine (kI.out _ (HE.out.below HP1.out.b)).mono ?_
            rintro e V2 ⟨rfl, hb⟩
            have HP2 := hide (HP1.out.on hb)
            clear hb
            obtain ⟨z0, x0', x1, x2, x3, x4⟩ := HP2.out.x.five
            go_wp2_with (at_builtin; refine append_int_lies rfl _ _ rfl W0.heap.size A1 j c1 xs v _ rfl rfl HP2.out.o1 (by omega) HP2.out.hb ?_; intro A1' c1' V4 ho hb hg hl; obtain ⟨hx4, HP3⟩ := HP2.out.page ho hb hg hl; replace HP3 := hide HP3; clear ho hb hg hl z0 x0' x1 x2 x3 x4; obtain ⟨z0, x0', x1, x2, x3, x4⟩ := hx4.five; have xz := hx4.frz 2; replace hx4 := hide hx4)
            refine (kK.out _).mono ?_
            rintro e V5 ⟨rfl, rfl⟩
            go_wp2_with fail
            go_roundw
            case rel => first | exact ⟨j + 1, c1', n2, c2, A1', A2, xs ++ [v], ys, by omega, by omega, by go_num, HT2, HP3⟩ | ((repeat apply Exists.intro); refine ⟨?_, rfl⟩; exact ⟨j + 1, c1', n2, c2, A1', A2, xs ++ [v], ys, by omega, by omega, by go_num, HT2, HP3⟩)
            case measure => first | (simp [intOf]; done) | (simp [intOf]; omega)
      · obtain rfl : j = M := by omega
        have hE := hV2.out xs ys HT.out
        have hlen := rdTo_len HT.out
        have kG := impl_IsCache n P Z H A1 j c1 A2 n2 c2 xs ys wr HP.out.o1.rd HP.out.o2.rd (by omega)
        have kT := fun V q1 q2 f q3 => iText_any m P Z H A1 j c1 A2 n2 c2 xs ys V q1 q2 f q3
        obtain ⟨z0, x0', x1, x2, x3, x4⟩ := HP.out.x.five
        cases hcb : cacheB n P Z xs ys H with
        | false =>
          have HV := hide (hE.trans (endC_bad hcb))
          rw [hcb] at kG
          replace kG := hide kG
          clear kT hE hcb hlen
          go_wp2_with fail
          refine kG.out.mono ?_
          rintro e V2 ⟨rfl, hb⟩
          have HP2 := hide (HP.out.on hb)
          clear hb z0 x0' x1 x2 x3 x4
          obtain ⟨y0, r0, r1, r2, r3, r4⟩ := (HR.out.on HP2.out.b).five
          have rz := (HR.out.on HP2.out.b).frz
          obtain ⟨q0, q1, q2, q3, q4⟩ := five_cells r0 r1 r2 r3 r4
          go_wp2_with fail
          refine bodyPost_ret (v := .tuple #[.agg #[.int .i64 0, .int .i64 0, .slice none 0 0, .slice none 0 0, .int .i64 0], .bool false]) (by simp [results, Tryz.results5, go_sem, q0, q1, q2, q3, q4]) rfl ?_
          exact finN.out _ HP2.out.b HV.out
        | true =>
          have hf := fine_of hcb
          rw [hcb] at kG
          replace kG := hide kG
          by_cases ht : ctTo P Z H xs ys j = s
          · have HV := hide (hE.trans (endC_yes hcb (by rw [hlen]; exact ht)))
            have hself := str_self s
            rw [ht] at kT
            replace kT := hide kT
            clear hE hcb hlen ht
            go_wp2_with fail
            refine kG.out.mono ?_
            rintro e V2 ⟨rfl, hb⟩
            have HP2 := hide (HP.out.on hb)
            clear hb z0 x0' x1 x2 x3 x4
            obtain ⟨z0, x0', x1, x2, x3, x4⟩ := HP2.out.x.five
            go_wp2_with fail
            refine (kT.out _ HP2.out.o1.rd HP2.out.o2.rd hf (HE.out.below HP2.out.b).1).mono ?_
            rintro e V3 ⟨rfl, hb⟩
            have HP3 := hide (HP2.out.on hb)
            clear hb z0 x0' x1 x2 x3 x4
            obtain ⟨z0, x0, x1, x2, x3, x4⟩ := HP3.out.x.five
            obtain ⟨y0, r0, r1, r2, r3, r4⟩ := (HR.out.on HP3.out.b).five
            have rz := (HR.out.on HP3.out.b).frz
            obtain ⟨q0, q1, q2, q3, q4⟩ := five_cells r0 r1 r2 r3 r4
            go_wp2_with fail
            refine bodyPost_ret (v := .tuple #[.agg #[.int .i64 P, .int .i64 Z, .slice A1 j c1, .slice A2 n2 c2, .int .i64 H], .bool true]) (by simp [results, Tryz.results5, go_sem, q0, q1, q2, q3, q4]) rfl ?_
            exact finY.out _ _ _ _ _ _ _ _ HP3.out HV.out
          · have HV := hide (hE.trans (endC_ne (by rw [hlen]; exact ht)))
            have hne := bytes_ne' ht
            generalize ctTo P Z H xs ys j = u at kT hne
            replace kT := hide kT
            clear hE hcb hlen ht
            go_wp2_with fail
            refine kG.out.mono ?_
            rintro e V2 ⟨rfl, hb⟩
            have HP2 := hide (HP.out.on hb)
            clear hb z0 x0' x1 x2 x3 x4
            obtain ⟨z0, x0', x1, x2, x3, x4⟩ := HP2.out.x.five
            go_wp2_with fail
            refine (kT.out _ HP2.out.o1.rd HP2.out.o2.rd hf (HE.out.below HP2.out.b).1).mono ?_
            rintro e V3 ⟨rfl, hb⟩
            have HP3 := hide (HP2.out.on hb)
            clear hb z0 x0' x1 x2 x3 x4
            obtain ⟨y0, r0, r1, r2, r3, r4⟩ := (HR.out.on HP3.out.b).five
            have rz := (HR.out.on HP3.out.b).frz
            obtain ⟨q0, q1, q2, q3, q4⟩ := five_cells r0 r1 r2 r3 r4
            go_wp2_with fail
            refine bodyPost_ret (v := .tuple #[.agg #[.int .i64 0, .int .i64 0, .slice none 0 0, .slice none 0 0, .int .i64 0], .bool false]) (by simp [results, Tryz.results5, go_sem, q0, q1, q2, q3, q4]) rfl ?_
            exact finN.out _ HP3.out.b HV.out
end Go.Proofs.YtkimbgehnhcmaaaGreatDoor
