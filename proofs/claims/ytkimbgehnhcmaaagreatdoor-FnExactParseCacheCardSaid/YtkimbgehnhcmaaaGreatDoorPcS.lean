/- ParseCache by the reference: what PcP calls pcS (and so pcI); for texts of at most 2^20 bytes. -/
import Derived.Test.YtkimbgehnhcmaaaGreatDoorPcH
import Derived.Test.YtkimbgehnhcmaaaGreatDoorSplit
import Derived.Test.YtkimbgehnhcmaaaGreatDoorCacheTS
import Derived.Test.YtkimbgehnhcmaaaGreatDoorIsCacheS
namespace Go.Proofs.YtkimbgehnhcmaaaGreatDoor
open Go.RowKit

theorem l4Marked_any (p : Int) (w : World) : Calls Tryz.prog 13 #[.int .i64 p] w fun e w' => e = .returned (.bool (mkB p)) ∧ w = w' := by
  unfold mkB
  by_cases h5 : p = 5
  · subst h5
    rw [decide_eq_true (.inl rfl)]
    exact l4Marked_five w
  · by_cases h6 : p = 6
    · subst h6
      rw [decide_eq_true (.inr rfl)]
      exact l4Marked_six w
    · rw [decide_eq_false (by omega)]
      exact l4Marked_no p h5 h6 w
theorem pieces_size (s : ByteArray) (c : UInt8) : ∀ k, ∀ x ∈ (pieces s c k).1, x.size ≤ s.size
  | 0, x, h => by simp [pieces] at h
  | k + 1, x, h => by
    unfold pieces at h
    split at h
    · rw [List.mem_append, List.mem_singleton] at h
      rcases h with h | rfl
      · exact pieces_size s c k x h
      · rw [ByteArray.size_extract]; omega
    · exact pieces_size s c k x h
theorem part_size (s : ByteArray) (c : UInt8) (k : Nat) : ((splitL s c).getD k ByteArray.empty).size ≤ s.size := by
  rw [List.getD_eq_getElem?_getD]
  cases h : (splitL s c)[k]? with
  | none => simp
  | some x =>
    have hm : x ∈ splitL s c := List.mem_of_getElem? h
    unfold splitL at hm
    rw [List.mem_append, List.mem_singleton] at hm
    rcases hm with hm | rfl
    · exact pieces_size s c _ x hm
    · simp only [Option.getD_some]; rw [ByteArray.size_extract]; omega
theorem str_self (t : ByteArray) : (t.toList == t.toList) = true := by simp
theorem cell_of {w : World} {base b off n c : Nat} {xs : List ByteArray} (h : OwnS w base (some ⟨b, off, none⟩) n c xs) {j : Nat} (hj : j < n) : w.cell? ⟨b, off + j, none⟩ = some (.string (xs.getD j ByteArray.empty)) := by
  obtain ⟨b', off', e, _, hc⟩ := h.rd.at_ hj
  injection (Option.some.inj e) with e1 e2
  subst e1 e2
  exact hc

theorem pcS_head {n : Int} {t : ByteArray} (h : ¬ (okS (w0 t) = true ∧ (splitL t 32).length ≤ 7)) : pcS n t = none := by unfold pcS; rw [if_neg h]
theorem pcS_none {n : Int} {t : ByteArray} {M : Nat} (hM : (splitL t 32).length = M + 1) (h : rdTo (wordS (mkB (polH (w0 t)))) (splitL t 32) M = none) : pcS n t = none := by
  unfold pcS
  rw [hM, Nat.add_sub_cancel, h]
  simp
theorem pcS_some {n : Int} {t : ByteArray} {M : Nat} {xs ys : List Int} (hM : (splitL t 32).length = M + 1) (hok : okS (w0 t) = true) (h7 : M + 1 ≤ 7) (h : rdTo (wordS (mkB (polH (w0 t)))) (splitL t 32) M = some (xs, ys)) : pcS n t = endC n (polH (w0 t)) (specZ (cutA 64 (cutB 47 (w0 t)))) (handS (w0 t)) t xs ys := by
  unfold pcS
  rw [hM, Nat.add_sub_cancel, h, if_pos ⟨hok, h7⟩]
theorem endC_bad {n p s h : Int} {t : ByteArray} {xs ys : List Int} (c : cacheB n p s xs ys h = false) : endC n p s h t xs ys = none := by unfold endC; rw [c]; simp
theorem endC_ne {n p s h : Int} {t : ByteArray} {xs ys : List Int} (c : ¬ ctTo p s h xs ys xs.length = t) : endC n p s h t xs ys = none := by unfold endC; rw [if_neg (fun q => c q.2)]
theorem endC_yes {n p s h : Int} {t : ByteArray} {xs ys : List Int} (c : cacheB n p s xs ys h = true) (c2 : ctTo p s h xs ys xs.length = t) : endC n p s h t xs ys = some ⟨p, s, h, xs, ys⟩ := by unfold endC; rw [if_pos ⟨c, c2⟩]
theorem wordS_item {m : Bool} {l : List UInt8} (h : specRead (cutA 58 l) = none) : wordS m l = none := by unfold wordS; rw [h]
theorem wordS_has {m : Bool} {l : List UInt8} (h : ¬ cutF 58 l = m) : wordS m l = none := by
  unfold wordS
  split
  · rw [if_neg h]
  · rfl
theorem wordS_mark {l : List UInt8} (h : specRead (cutB 58 l) = none) : wordS true l = none := by
  unfold wordS
  split
  · rw [h]; simp
  · rfl
theorem wordS_two {l : List UInt8} {v y : Int} (h : specRead (cutA 58 l) = some v) (hf : cutF 58 l = true) (h2 : specRead (cutB 58 l) = some y) : wordS true l = some (v, [y]) := by unfold wordS; rw [h, hf, h2]; rfl
theorem wordS_one {l : List UInt8} {v : Int} (h : specRead (cutA 58 l) = some v) (hf : cutF 58 l = false) : wordS false l = some (v, []) := by unfold wordS; rw [h, hf]; rfl
theorem rdTo_one {rd : List UInt8 → Option (Int × List Int)} {ws : List ByteArray} {k : Nat} {xs ys : List Int} {v : Int} (h : rdTo rd ws k = some (xs, ys)) (h2 : rd (ws.getD (k + 1) ByteArray.empty).data.toList = some (v, [])) : rdTo rd ws (k + 1) = some (xs ++ [v], ys) := by
  have := rdTo_snoc h h2
  rwa [List.append_nil] at this

set_option maxRecDepth 100000 in
set_option maxHeartbeats 6400000 in
theorem spec_ParseCache (n : Int) (s : ByteArray) (w : World) (hs : s.size ≤ 1048576) : Calls Tryz.prog 4 #[.int .i64 n, .string s] w (RetPC w (pcI n s)) := by
  rw [← pc_eq]
  have kS := fun w => l1Split_any s 32 w hs
  change ∀ w, Calls _ _ #[_, .int .u8 32] w _ at kS
  have hsz := fun k => Nat.le_trans (part_size s 32 k) hs
  have kH := fun w => l4Head_any ((splitL s 32).getD 0 ByteArray.empty) w (hsz 0)
  obtain ⟨M, hM⟩ : ∃ M, (splitL s 32).length = M + 1 := ⟨(splitL s 32).length - 1, by have := splitL_pos s 32; omega⟩
  have hMs : M ≤ 1048576 := by have := splitL_len s 32; omega
  have hV0 := pcS_head (n := n) (t := s)
  have hV1 := pcS_none (n := n) hM
  have hV2 := fun xs ys => pcS_some (n := n) (xs := xs) (ys := ys) hM
  rw [hM] at hV0
  unfold RetS at kS
  rw [hM] at kS
  unfold RetHead at kH
  change ∀ w, Calls _ _ _ w fun e w' => ∃ A1 A2, e = .returned (.tuple #[.agg #[.int .i64 (polH (w0 s)), .int .i64 (specZ (cutA 64 (cutB 47 (w0 s)))), .slice A1 0 0, .slice A2 0 0, .int .i64 (handS (w0 s))], .bool (okS (w0 s))]) ∧ OwnI w' w.heap.size A1 0 0 [] ∧ OwnI w' w.heap.size A2 0 0 [] ∧ Sep A1 A2 ∧ Below w.heap.size w w' at kH
  generalize okS (w0 s) = ok at kH hV0 hV2
  generalize handS (w0 s) = H at kH hV2
  generalize specZ (cutA 64 (cutB 47 (w0 s))) = Z at kH hV2
  generalize polH (w0 s) = P at kH hV1 hV2
  generalize splitL s 32 = ws at kS kH hV1 hV2 hsz
  generalize hpc : pcS n s = out at hV0 hV1 hV2 ⊢
  clear hpc hM
  have h0 := hide (show (ws.getD 0 ByteArray.empty) = ws.getD 0 ByteArray.empty from rfl)
  generalize hx0 : ws.getD 0 ByteArray.empty = x0 at kH
  replace hx0 := hide hx0
  clear h0
  have HR := hide (Blk.new w (.int .i64 0) (.int .i64 0) (.slice none 0 0) (.slice none 0 0) (.int .i64 0))
  have HB0 := hide ((Below.refl w.heap.size w).alloc (Nat.le_refl _) (.cells #[.int .i64 0, .int .i64 0, .slice none 0 0, .slice none 0 0, .int .i64 0] 24))
  replace kS := hide kS
  replace kH := hide kH
  replace hV0 := hide hV0
  replace hV1 := hide hV1
  replace hV2 := hide hV2
  replace hsz := hide hsz
  go_enter Tryz.func4, Tryz.ntmps4
  go_wp2_with fail
  generalize hW0 : w.alloc (.cells #[.int .i64 0, .int .i64 0, .slice none 0 0, .slice none 0 0, .int .i64 0] 24) = W0 at HR HB0 ⊢
  clear hW0
  refine (kS.out _).mono ?_
  rintro e W1 ⟨As, cs, rfl, os, hb⟩
  obtain ⟨b, off, rfl, _, hc⟩ := os.rd.at_ (show 0 < M + 1 by omega)
  rw [hx0.out, Nat.add_zero] at hc
  have HBn := hide hb
  replace os := hide os
  clear hb
  go_wp2_with fail
  refine (kH.out _).mono ?_
  rintro e W2 ⟨A1, A2, rfl, o1, o2, hsep, hb⟩
  have hb2 := (Below.refl W2.heap.size W2).alloc (Nat.le_refl _) (.cells #[.int .i64 P, .int .i64 Z, .slice A1 0 0, .slice A2 0 0, .int .i64 H] 24)
  have HP : Hid (PS W0.heap.size W0 (W2.alloc (.cells #[.int .i64 P, .int .i64 Z, .slice A1 0 0, .slice A2 0 0, .int .i64 H] 24)) W2.heap.size P Z H (some ⟨b, off, none⟩) (M + 1) cs ws A1 0 0 [] A2 0 0 []) :=
    ⟨Blk.new W2 _ _ _ _ _, (o1.more HBn.out.size).below hb2, (o2.more HBn.out.size).below hb2, hsep, ((os.out.below hb).below hb2), (HBn.out.trans (hb.mono HBn.out.size)).trans (hb2.mono (Nat.le_trans HBn.out.size hb.size)), Nat.le_trans HBn.out.size (Nat.le_trans hb.size hb2.size), Nat.le_trans HBn.out.size hb.size⟩
  clear o1 o2 hsep hb hb2 os HBn hc
  have hnR : w.heap.size < W0.heap.size := HR.out.lt
  have finN : ∀ V, Below W0.heap.size W0 V → out = none → RetPC w out (.returned (.tuple #[.agg #[.int .i64 0, .int .i64 0, .slice none 0 0, .slice none 0 0, .int .i64 0], .bool false])) (set5 V w.heap.size (.int .i64 0) (.int .i64 0) (.slice none 0 0) (.slice none 0 0) (.int .i64 0)) :=
    fun V hb ho => RetPC.no ho (below_set5 (HB0.out.trans (hb.mono HB0.out.size)) (Nat.le_refl _) _ _ _ _ _)
  have finY : ∀ V A1 c1 n2 c2 A2 xs ys, PS W0.heap.size W0 V W2.heap.size P Z H (some ⟨b, off, none⟩) (M + 1) cs ws A1 M c1 xs A2 n2 c2 ys → out = some ⟨P, Z, H, xs, ys⟩ → RetPC w out (.returned (.tuple #[.agg #[.int .i64 P, .int .i64 Z, .slice A1 M c1, .slice A2 n2 c2, .int .i64 H], .bool true])) (set5 V w.heap.size (.int .i64 P) (.int .i64 Z) (.slice A1 M c1) (.slice A2 n2 c2) (.int .i64 H)) :=
    fun V A1 c1 n2 c2 A2 xs ys hp ho => RetPC.yes ho (((hp.o1.set5 _ _ _ _ _ ((HR.out.on hp.b).apart hp.o1))).more HB0.out.size) (((hp.o2.set5 _ _ _ _ _ ((HR.out.on hp.b).apart hp.o2))).more HB0.out.size) hp.s (below_set5 (HB0.out.trans (hp.b.mono HB0.out.size)) (Nat.le_refl _) _ _ _ _ _)
  replace finN := hide finN
  replace finY := hide finY
  replace hnR := hide hnR
  go_upto_region 3 with (fail)
  generalize W2.alloc (.cells #[.int .i64 P, .int .i64 Z, .slice A1 0 0, .slice A2 0 0, .int .i64 H] 24) = V at HP ⊢
  generalize W2.heap.size = X at HP finY ⊢
  clear kS kH hx0
  cases ok with
  | false =>
    have HV := hide (hV0.out (by simp))
    obtain ⟨y0, r0, r1, r2, r3, r4⟩ := (HR.out.on HP.out.b).five
    have rz := (HR.out.on HP.out.b).frz
    obtain ⟨q0, q1, q2, q3, q4⟩ := five_cells r0 r1 r2 r3 r4
    go_wp2_with fail
    refine bodyPost_ret (v := .tuple #[.agg #[.int .i64 0, .int .i64 0, .slice none 0 0, .slice none 0 0, .int .i64 0], .bool false]) (by simp [results, Tryz.results4, go_sem, q0, q1, q2, q3, q4]) rfl ?_
    exact finN.out _ HP.out.b HV.out
  | true =>
    by_cases h7 : M + 1 ≤ 7
    · clear hV0
      have hV3 := hide (fun xs ys => hV2.out xs ys rfl h7)
      clear hV2
      go_wp2_with fail
      go_loopw [9] (fun i wr => ∃ (j c1 n2 c2 : Nat) (A1 A2 : Option Addr) (xs ys : List Int), j ≤ M ∧ n2 ≤ j ∧ i = .int .i64 ((j : Int) + 1) ∧ Hid (rdTo (wordS (mkB P)) ws j = some (xs, ys)) ∧ Hid (PS W0.heap.size W0 wr X P Z H (some ⟨b, off, none⟩) (M + 1) cs ws A1 j c1 xs A2 n2 c2 ys)) (fun i _ => M + 1 - (intOf i).toNat)
      case atStart => exact ⟨0, 0, 0, 0, A1, A2, [], [], Nat.zero_le _, Nat.zero_le _, rfl, rfl, HP⟩
      case round =>
        clear HP
        obtain ⟨j, c1, n2, c2, A1, A2, xs, ys, hj, hn2, rfl, HT, HP⟩ := hrel
        by_cases hlt : j < M
        · have hc := cell_of HP.out.words (show j + 1 < M + 1 by omega)
          have hx := hsz.out (j + 1)
          have hlt' : (j : Int) + 1 < (M : Int) + 1 := by omega
          have kC := fun w => l4Cut_any (ws.getD (j + 1) ByteArray.empty) 58 w hx
          have kI := fun w => l1Read_any (cutAB 58 (ws.getD (j + 1) ByteArray.empty)) w (Nat.le_trans (cutAB_size 58 _) hx)
          have kM := fun w => l1Read_any (cutBB 58 (ws.getD (j + 1) ByteArray.empty)) w (Nat.le_trans (cutBB_size 58 _) hx)
          have kP := fun w => l4Marked_any P w
          change ∀ w, Calls _ _ #[_, .int .u8 58] w _ at kC
          unfold RetCut at kC
          unfold RetN specN specOk at kI kM
          rw [cutAB_bytes] at kI
          rw [cutBB_bytes] at kM
          have hW0 : wordS (mkB P) (ws.getD (j + 1) ByteArray.empty).data.toList = none → out = none := fun h => hV1.out (rdTo_none h hlt)
          replace hW0 := hide hW0
          cases hr : specRead (cutA 58 (ws.getD (j + 1) ByteArray.empty).data.toList) with
          | none =>
            have HV := hide (hW0.out (wordS_item hr))
            rw [hr] at kI
            replace kC := hide kC
            replace kI := hide kI
            generalize ws.getD (j + 1) ByteArray.empty = x at hc kC kI
            clear hr kM kP hW0 hx
            go_wp2_with fail
            refine (kC.out _).mono ?_
            rintro e V1 ⟨rfl, m1, rfl⟩
            have HP1 := hide (HP.out.on (below_drewN (Below.refl _ _) m1))
            go_wp2_with fail
            refine (kI.out _).mono ?_
            rintro e V2 ⟨rfl, hb⟩
            have HP2 := hide (HP1.out.on hb)
            clear hb
            obtain ⟨y0, r0, r1, r2, r3, r4⟩ := (HR.out.on HP2.out.b).five
            have rz := (HR.out.on HP2.out.b).frz
            obtain ⟨q0, q1, q2, q3, q4⟩ := five_cells r0 r1 r2 r3 r4
            go_wp2_with fail
            refine bodyPost_ret (v := .tuple #[.agg #[.int .i64 0, .int .i64 0, .slice none 0 0, .slice none 0 0, .int .i64 0], .bool false]) (by simp [results, Tryz.results4, go_sem, q0, q1, q2, q3, q4]) rfl ?_
            exact finN.out _ HP2.out.b HV.out
          | some v =>
            rw [hr] at kI
            by_cases hf : cutF 58 (ws.getD (j + 1) ByteArray.empty).data.toList = mkB P
            · by_cases hm : mkB P = true
              · rw [hf.trans hm] at kC
                rw [hm] at kP
                cases h2 : specRead (cutB 58 (ws.getD (j + 1) ByteArray.empty).data.toList) with
                | none =>
                  have HV := hide (hW0.out (by rw [hm]; exact wordS_mark h2))
                  rw [h2] at kM
                  replace kC := hide kC
                  replace kI := hide kI
                  replace kM := hide kM
                  replace kP := hide kP
                  generalize ws.getD (j + 1) ByteArray.empty = x at hc kC kI kM
                  clear hr hf hm h2 hW0 hx
                  go_wp2_with fail
                  refine (kC.out _).mono ?_
                  rintro e V1 ⟨rfl, m1, rfl⟩
                  have HP1 := hide (HP.out.on (below_drewN (Below.refl _ _) m1))
                  go_wp2_with fail
                  refine (kI.out _).mono ?_
                  rintro e V2 ⟨rfl, hb⟩
                  have HP2 := hide (HP1.out.on hb)
                  clear hb
                  obtain ⟨z0, x0, x1, x2, x3, x4⟩ := HP2.out.x.five
                  go_wp2_with fail
                  refine (kP.out _).mono ?_
                  rintro e V3 ⟨rfl, rfl⟩
                  go_wp2_with (at_builtin; refine append_int_lies rfl _ _ rfl W0.heap.size A1 j c1 xs v _ rfl rfl HP2.out.o1 (by omega) HP2.out.hb ?_; intro A1' c1' V4 ho hb hg hl; obtain ⟨hx4, HP3⟩ := HP2.out.page ho hb hg hl; replace HP3 := hide HP3; clear ho hb hg hl z0 x0 x1 x2 x3 x4; obtain ⟨z0, x0, x1, x2, x3, x4⟩ := hx4.five; have xz := hx4.frz 2; replace hx4 := hide hx4)
                  refine (kM.out _).mono ?_
                  rintro e V5 ⟨rfl, hb⟩
                  have HP4 := hide (HP3.out.on hb)
                  clear hb z0 x0 x1 x2 x3 x4 xz
                  obtain ⟨y0, r0, r1, r2, r3, r4⟩ := (HR.out.on HP4.out.b).five
                  have rz := (HR.out.on HP4.out.b).frz
                  obtain ⟨q0, q1, q2, q3, q4⟩ := five_cells r0 r1 r2 r3 r4
                  go_wp2_with fail
                  refine bodyPost_ret (v := .tuple #[.agg #[.int .i64 0, .int .i64 0, .slice none 0 0, .slice none 0 0, .int .i64 0], .bool false]) (by simp [results, Tryz.results4, go_sem, q0, q1, q2, q3, q4]) rfl ?_
                  exact finN.out _ HP4.out.b HV.out
                | some y =>
                  have HT2 := hide (rdTo_snoc HT.out (by rw [hm]; exact wordS_two hr (hf.trans hm) h2))
                  rw [h2] at kM
                  replace kC := hide kC
                  replace kI := hide kI
                  replace kM := hide kM
                  replace kP := hide kP
                  generalize ws.getD (j + 1) ByteArray.empty = x at hc kC kI kM
                  clear hr hf hm h2 hW0 hx
                  go_wp2_with fail
                  refine (kC.out _).mono ?_
                  rintro e V1 ⟨rfl, m1, rfl⟩
                  have HP1 := hide (HP.out.on (below_drewN (Below.refl _ _) m1))
                  go_wp2_with fail
                  refine (kI.out _).mono ?_
                  rintro e V2 ⟨rfl, hb⟩
                  have HP2 := hide (HP1.out.on hb)
                  clear hb
                  obtain ⟨z0, x0, x1, x2, x3, x4⟩ := HP2.out.x.five
                  go_wp2_with fail
                  refine (kP.out _).mono ?_
                  rintro e V3 ⟨rfl, rfl⟩
                  go_wp2_with (at_builtin; refine append_int_lies rfl _ _ rfl W0.heap.size A1 j c1 xs v _ rfl rfl HP2.out.o1 (by omega) HP2.out.hb ?_; intro A1' c1' V4 ho hb hg hl; obtain ⟨hx4, HP3⟩ := HP2.out.page ho hb hg hl; replace HP3 := hide HP3; clear ho hb hg hl z0 x0 x1 x2 x3 x4; obtain ⟨z0, x0, x1, x2, x3, x4⟩ := hx4.five; have xz := hx4.frz 2; replace hx4 := hide hx4)
                  refine (kM.out _).mono ?_
                  rintro e V5 ⟨rfl, hb⟩
                  have HP4 := hide (HP3.out.on hb)
                  clear hb z0 x0 x1 x2 x3 x4 xz
                  obtain ⟨z0, x0, x1, x2, x3, x4⟩ := HP4.out.x.five
                  go_wp2_with (at_builtin; refine append_int_lies rfl _ _ rfl W0.heap.size A2 n2 c2 ys y _ rfl rfl HP4.out.o2 (by omega) HP4.out.hb ?_; intro A2' c2' V6 ho hb hg hl; obtain ⟨hx6, HP5⟩ := HP4.out.mark ho hb hg hl; replace HP5 := hide HP5; clear ho hb hg hl z0 x0 x1 x2 x3 x4; obtain ⟨z0, x0, x1, x2, x3, x4⟩ := hx6.five; have xz := hx6.frz 3; replace hx6 := hide hx6)
                  go_roundw
                  case rel => first | exact ⟨j + 1, c1', n2 + 1, c2', A1', A2', xs ++ [v], ys ++ [y], by omega, by omega, by go_num, HT2, HP5⟩ | ((repeat apply Exists.intro); refine ⟨?_, rfl⟩; exact ⟨j + 1, c1', n2 + 1, c2', A1', A2', xs ++ [v], ys ++ [y], by omega, by omega, by go_num, HT2, HP5⟩)
                  case measure => first | (simp [intOf]; done) | (simp [intOf]; omega)
              · have hm' : mkB P = false := by simpa using hm
                rw [hf.trans hm'] at kC
                rw [hm'] at kP
                have HT2 := hide (rdTo_one HT.out (by rw [hm']; exact wordS_one hr (hf.trans hm')))
                replace kC := hide kC
                replace kI := hide kI
                replace kP := hide kP
                generalize ws.getD (j + 1) ByteArray.empty = x at hc kC kI
                clear hr hf hm hm' hW0 hx kM
                go_wp2_with fail
                refine (kC.out _).mono ?_
                rintro e V1 ⟨rfl, m1, rfl⟩
                have HP1 := hide (HP.out.on (below_drewN (Below.refl _ _) m1))
                go_wp2_with fail
                refine (kI.out _).mono ?_
                rintro e V2 ⟨rfl, hb⟩
                have HP2 := hide (HP1.out.on hb)
                clear hb
                obtain ⟨z0, x0, x1, x2, x3, x4⟩ := HP2.out.x.five
                go_wp2_with fail
                refine (kP.out _).mono ?_
                rintro e V3 ⟨rfl, rfl⟩
                go_wp2_with (at_builtin; refine append_int_lies rfl _ _ rfl W0.heap.size A1 j c1 xs v _ rfl rfl HP2.out.o1 (by omega) HP2.out.hb ?_; intro A1' c1' V4 ho hb hg hl; obtain ⟨hx4, HP3⟩ := HP2.out.page ho hb hg hl; replace HP3 := hide HP3; clear ho hb hg hl z0 x0 x1 x2 x3 x4; obtain ⟨z0, x0, x1, x2, x3, x4⟩ := hx4.five; have xz := hx4.frz 2; replace hx4 := hide hx4)
                go_roundw
                case rel => first | exact ⟨j + 1, c1', n2, c2, A1', A2, xs ++ [v], ys, by omega, by omega, by go_num, HT2, HP3⟩ | ((repeat apply Exists.intro); refine ⟨?_, rfl⟩; exact ⟨j + 1, c1', n2, c2, A1', A2, xs ++ [v], ys, by omega, by omega, by go_num, HT2, HP3⟩)
                case measure => first | (simp [intOf]; done) | (simp [intOf]; omega)
            · have HV := hide (hW0.out (wordS_has hf))
              have hne : (cutF 58 (ws.getD (j + 1) ByteArray.empty).data.toList != mkB P) = true := by simpa using hf
              generalize cutF 58 (ws.getD (j + 1) ByteArray.empty).data.toList = F at kC hne
              generalize mkB P = mk at kP hne
              have hFm : (F = true ∧ mk = false) ∨ (F = false ∧ mk = true) := by cases F <;> cases mk <;> simp_all
              clear hne
              rcases hFm with ⟨rfl, rfl⟩ | ⟨rfl, rfl⟩
              all_goals
                replace kC := hide kC
                replace kI := hide kI
                replace kP := hide kP
                generalize ws.getD (j + 1) ByteArray.empty = x at hc kC kI
                clear hr hf hW0 hx kM
                go_wp2_with fail
                refine (kC.out _).mono ?_
                rintro e V1 ⟨rfl, m1, rfl⟩
                have HP1 := hide (HP.out.on (below_drewN (Below.refl _ _) m1))
                go_wp2_with fail
                refine (kI.out _).mono ?_
                rintro e V2 ⟨rfl, hb⟩
                have HP2 := hide (HP1.out.on hb)
                clear hb
                obtain ⟨z0, x0, x1, x2, x3, x4⟩ := HP2.out.x.five
                go_wp2_with fail
                refine (kP.out _).mono ?_
                rintro e V3 ⟨rfl, rfl⟩
                clear z0 x0 x1 x2 x3 x4
                obtain ⟨y0, r0, r1, r2, r3, r4⟩ := (HR.out.on HP2.out.b).five
                have rz := (HR.out.on HP2.out.b).frz
                obtain ⟨q0, q1, q2, q3, q4⟩ := five_cells r0 r1 r2 r3 r4
                go_wp2_with fail
                refine bodyPost_ret (v := .tuple #[.agg #[.int .i64 0, .int .i64 0, .slice none 0 0, .slice none 0 0, .int .i64 0], .bool false]) (by simp [results, Tryz.results4, go_sem, q0, q1, q2, q3, q4]) rfl ?_
                exact finN.out _ HP2.out.b HV.out
        · obtain rfl : j = M := by omega
          have hE := hV3.out xs ys HT.out
          have hlen := rdTo_len HT.out
          have kG := l4Good_any n P Z H A1 j c1 A2 n2 c2 xs ys wr HP.out.o1.rd HP.out.o2.rd (by omega)
          have kT := fun V q1 q2 f => l4Text_any P Z H A1 j c1 A2 n2 c2 xs ys V q1 q2 f
          obtain ⟨z0, x0, x1, x2, x3, x4⟩ := HP.out.x.five
          cases hcb : cacheB n P Z xs ys H with
          | false =>
            have HV := hide (hE.trans (endC_bad hcb))
            rw [hcb] at kG
            replace kG := hide kG
            clear kT hE hcb hlen
            go_wp2_with fail
            refine kG.out.mono ?_
            rintro e V2 ⟨rfl, hb⟩
            have HP2 := hide (HP.out.on hb)
            clear hb z0 x0 x1 x2 x3 x4
            obtain ⟨y0, r0, r1, r2, r3, r4⟩ := (HR.out.on HP2.out.b).five
            have rz := (HR.out.on HP2.out.b).frz
            obtain ⟨q0, q1, q2, q3, q4⟩ := five_cells r0 r1 r2 r3 r4
            go_wp2_with fail
            refine bodyPost_ret (v := .tuple #[.agg #[.int .i64 0, .int .i64 0, .slice none 0 0, .slice none 0 0, .int .i64 0], .bool false]) (by simp [results, Tryz.results4, go_sem, q0, q1, q2, q3, q4]) rfl ?_
            exact finN.out _ HP2.out.b HV.out
          | true =>
            have hf := fine_of hcb
            rw [hcb] at kG
            replace kG := hide kG
            by_cases ht : ctTo P Z H xs ys j = s
            · have HV := hide (hE.trans (endC_yes hcb (by rw [hlen]; exact ht)))
              have hself := str_self s
              rw [ht] at kT
              replace kT := hide kT
              clear hE hcb hlen ht
              go_wp2_with fail
              refine kG.out.mono ?_
              rintro e V2 ⟨rfl, hb⟩
              have HP2 := hide (HP.out.on hb)
              clear hb z0 x0 x1 x2 x3 x4
              obtain ⟨z0, x0, x1, x2, x3, x4⟩ := HP2.out.x.five
              go_wp2_with fail
              refine (kT.out _ HP2.out.o1.rd HP2.out.o2.rd hf).mono ?_
              rintro e V3 ⟨rfl, hb⟩
              have HP3 := hide (HP2.out.on hb)
              clear hb z0 x0 x1 x2 x3 x4
              obtain ⟨z0, x0, x1, x2, x3, x4⟩ := HP3.out.x.five
              obtain ⟨y0, r0, r1, r2, r3, r4⟩ := (HR.out.on HP3.out.b).five
              have rz := (HR.out.on HP3.out.b).frz
              obtain ⟨q0, q1, q2, q3, q4⟩ := five_cells r0 r1 r2 r3 r4
              go_wp2_with fail
              refine bodyPost_ret (v := .tuple #[.agg #[.int .i64 P, .int .i64 Z, .slice A1 j c1, .slice A2 n2 c2, .int .i64 H], .bool true]) (by simp [results, Tryz.results4, go_sem, q0, q1, q2, q3, q4]) rfl ?_
              exact finY.out _ _ _ _ _ _ _ _ HP3.out HV.out
            · have HV := hide (hE.trans (endC_ne (by rw [hlen]; exact ht)))
              have hne := bytes_ne' ht
              generalize ctTo P Z H xs ys j = u at kT hne
              replace kT := hide kT
              clear hE hcb hlen ht
              go_wp2_with fail
              refine kG.out.mono ?_
              rintro e V2 ⟨rfl, hb⟩
              have HP2 := hide (HP.out.on hb)
              clear hb z0 x0 x1 x2 x3 x4
              obtain ⟨z0, x0, x1, x2, x3, x4⟩ := HP2.out.x.five
              go_wp2_with fail
              refine (kT.out _ HP2.out.o1.rd HP2.out.o2.rd hf).mono ?_
              rintro e V3 ⟨rfl, hb⟩
              have HP3 := hide (HP2.out.on hb)
              clear hb z0 x0 x1 x2 x3 x4
              obtain ⟨y0, r0, r1, r2, r3, r4⟩ := (HR.out.on HP3.out.b).five
              have rz := (HR.out.on HP3.out.b).frz
              obtain ⟨q0, q1, q2, q3, q4⟩ := five_cells r0 r1 r2 r3 r4
              go_wp2_with fail
              refine bodyPost_ret (v := .tuple #[.agg #[.int .i64 0, .int .i64 0, .slice none 0 0, .slice none 0 0, .int .i64 0], .bool false]) (by simp [results, Tryz.results4, go_sem, q0, q1, q2, q3, q4]) rfl ?_
              exact finN.out _ HP3.out.b HV.out
    · have HV := hide (hV0.out (fun h => h7 h.2))
      obtain ⟨y0, r0, r1, r2, r3, r4⟩ := (HR.out.on HP.out.b).five
      have rz := (HR.out.on HP.out.b).frz
      obtain ⟨q0, q1, q2, q3, q4⟩ := five_cells r0 r1 r2 r3 r4
      go_wp2_with fail
      refine bodyPost_ret (v := .tuple #[.agg #[.int .i64 0, .int .i64 0, .slice none 0 0, .slice none 0 0, .int .i64 0], .bool false]) (by simp [results, Tryz.results4, go_sem, q0, q1, q2, q3, q4]) rfl ?_
      exact finN.out _ HP.out.b HV.out
end Go.Proofs.YtkimbgehnhcmaaaGreatDoor
