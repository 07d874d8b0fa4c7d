/- A cache read from its text: the reference's reading and the program's give the same; plain lists, no program. -/
import Derived.Test.YtkimbgehnhcmaaaGreatDoorPcW
import Derived.Test.YtkimbgehnhcmaaaGreatDoorCacheTP
import Derived.Test.YtkimbgehnhcmaaaGreatDoorPolicyOfS
namespace Go.Proofs.YtkimbgehnhcmaaaGreatDoor
open Go.RowKit

/-- Whether a policy has marks. -/
def mkB (p : Int) : Bool := decide (p = 5 ∨ p = 6)
/-- The bytes of a valid cache's first word, and of its word for one page. -/
def headL (p s h : Int) : List UInt8 := (polText p).data.toList ++ 47 :: (Lib.itoa s ++ if p = 6 then 64 :: Lib.itoa h else [])
def pageL (p x y : Int) : List UInt8 := Lib.itoa x ++ if mkB p = true then 58 :: Lib.itoa y else []
def wordsL (p s h : Int) (xs ys : List Int) (k : Nat) : List (List UInt8) := headL p s h :: (List.range k).map fun i => pageL p (xs.getD i 0) (ys.getD i 0)
theorem numC_bytes (n : Int) : (numC n).data.toList = Lib.itoa n := by simp [numC]
theorem bytes_cat (a b : ByteArray) : (a ++ b).data.toList = a.data.toList ++ b.data.toList := by rw [ByteArray.data_append, Array.toList_append]
theorem head_bytes (p s h : Int) : (ctHead p s h).data.toList = headL p s h := by
  unfold ctHead ctBase headL
  split
  · rw [bytes_cat, bytes_cat, bytes_cat, bytes_cat, numC_bytes, numC_bytes]
    simp
  · rw [bytes_cat, bytes_cat, numC_bytes]
    simp
theorem page_bytes (p s h : Int) (xs ys : List Int) (k : Nat) : (ctTo p s h xs ys (k + 1)).data.toList = (ctTo p s h xs ys k).data.toList ++ ([32] ++ pageL p (xs.getD k 0) (ys.getD k 0)) := by
  unfold pageL mkB
  rw [ctTo]
  by_cases h5 : p = 5 ∨ p = 6
  · rw [if_pos h5, decide_eq_true h5, if_pos rfl]
    rw [bytes_cat, bytes_cat, bytes_cat, bytes_cat, numC_bytes, numC_bytes]
    simp
  · rw [if_neg h5, decide_eq_false h5, if_neg (by simp)]
    rw [bytes_cat, bytes_cat, numC_bytes]
    simp
theorem text_words (p s h : Int) (xs ys : List Int) : ∀ k, Lib.join (wordsL p s h xs ys k) [32] = (ctTo p s h xs ys k).data.toList
  | 0 => by
    unfold wordsL
    rw [ctTo, head_bytes]
    simp [Lib.join_one]
  | k + 1 => by
    have ih := text_words p s h xs ys k
    rw [page_bytes, ← ih]
    unfold wordsL
    rw [List.range_succ, List.map_append, List.map_cons, List.map_nil, ← List.cons_append, join_snoc]
theorem pol_clean (p : Int) (c : UInt8) (hc : c = 32 ∨ c = 47 ∨ c = 64 ∨ c = 58) : c ∉ (polText p).data.toList := by
  by_cases hp : 1 ≤ p ∧ p ≤ 7
  · have hk : p = 1 ∨ p = 2 ∨ p = 3 ∨ p = 4 ∨ p = 5 ∨ p = 6 ∨ p = 7 := by omega
    rcases hk with rfl | rfl | rfl | rfl | rfl | rfl | rfl <;> rcases hc with rfl | rfl | rfl | rfl <;> decide
  · unfold polText
    rw [if_neg hp]
    simp
theorem itoa_clean (n : Int) (c : UInt8) (hc : c = 32 ∨ c = 47 ∨ c = 64 ∨ c = 58) : c ∉ Lib.itoa n := by
  refine itoa_nob c ?_ ?_ n
  · rcases hc with rfl | rfl | rfl | rfl <;> rfl
  · rcases hc with rfl | rfl | rfl | rfl <;> decide
theorem head_clean (p s h : Int) : (32 : UInt8) ∉ headL p s h := by
  unfold headL
  have h1 := pol_clean p 32 (.inl rfl)
  have h2 := itoa_clean s 32 (.inl rfl)
  have h3 := itoa_clean h 32 (.inl rfl)
  split <;> simp [h1, h2, h3]
theorem page_clean (p x y : Int) : (32 : UInt8) ∉ pageL p x y := by
  unfold pageL
  have h2 := itoa_clean x 32 (.inl rfl)
  have h3 := itoa_clean y 32 (.inl rfl)
  split <;> simp [h2, h3]
theorem words_clean (p s h : Int) (xs ys : List Int) (k : Nat) : ∀ x ∈ wordsL p s h xs ys k, (32 : UInt8) ∉ x := by
  intro x hx
  unfold wordsL at hx
  rw [List.mem_cons] at hx
  rcases hx with rfl | hx
  · exact head_clean p s h
  · obtain ⟨i, _, rfl⟩ := List.mem_map.1 hx
    exact page_clean p _ _
/-- The words of a valid cache's text. -/
theorem words_are {p s h : Int} {xs ys : List Int} {k : Nat} {t : ByteArray} (ht : ctTo p s h xs ys k = t) : (splitL t 32).map (·.data.toList) = wordsL p s h xs ys k := by
  refine split_words (by unfold wordsL; exact List.cons_ne_nil _ _) (words_clean p s h xs ys k) ?_
  rw [text_words, ht]
theorem words_len {p s h : Int} {xs ys : List Int} {k : Nat} {t : ByteArray} (ht : ctTo p s h xs ys k = t) : (splitL t 32).length = k + 1 := by
  have := congrArg List.length (words_are ht)
  simpa [wordsL] using this
theorem word_zero {p s h : Int} {xs ys : List Int} {k : Nat} {t : ByteArray} (ht : ctTo p s h xs ys k = t) : ((splitL t 32).getD 0 ByteArray.empty).data.toList = headL p s h := by
  have hl := words_len ht
  have := congrArg (fun l => l[0]?) (words_are ht)
  simp only [List.getElem?_map, wordsL, List.getElem?_cons_zero] at this
  rw [List.getElem?_eq_getElem (by omega)] at this
  rw [List.getD_eq_getElem?_getD, List.getElem?_eq_getElem (by omega)]
  simpa using this
theorem word_succ {p s h : Int} {xs ys : List Int} {k : Nat} {t : ByteArray} (ht : ctTo p s h xs ys k = t) {i : Nat} (hi : i < k) : ((splitL t 32).getD (i + 1) ByteArray.empty).data.toList = pageL p (xs.getD i 0) (ys.getD i 0) := by
  have hl := words_len ht
  have := congrArg (fun l => l[i + 1]?) (words_are ht)
  simp only [List.getElem?_map, wordsL, List.getElem?_cons_succ] at this
  rw [List.getElem?_eq_getElem (by omega)] at this
  rw [List.getD_eq_getElem?_getD, List.getElem?_eq_getElem (by omega)]
  simp only [Option.map_some, List.getElem?_range hi, Option.some.injEq] at this
  simpa using this
theorem page_cut (p x y : Int) : cutA 58 (pageL p x y) = Lib.itoa x ∧ cutB 58 (pageL p x y) = (if mkB p = true then Lib.itoa y else []) ∧ cutF 58 (pageL p x y) = mkB p := by
  have h2 := itoa_clean x 58 (.inr (.inr (.inr rfl)))
  unfold pageL
  by_cases hm : mkB p = true
  · rw [if_pos hm, if_pos hm, hm]
    exact cut_at h2
  · rw [if_neg hm, if_neg hm, List.append_nil, Bool.eq_false_iff.2 hm]
    exact cut_no h2
theorem head_cut (p s h : Int) : cutA 47 (headL p s h) = (polText p).data.toList ∧ cutB 47 (headL p s h) = (Lib.itoa s ++ if p = 6 then 64 :: Lib.itoa h else []) := by
  have h1 := pol_clean p 47 (.inr (.inl rfl))
  unfold headL
  have := cut_at (b := Lib.itoa s ++ if p = 6 then 64 :: Lib.itoa h else []) h1
  exact ⟨this.1, this.2.1⟩
theorem rest_cut (p s h : Int) : cutA 64 (Lib.itoa s ++ if p = 6 then 64 :: Lib.itoa h else []) = Lib.itoa s ∧ cutB 64 (Lib.itoa s ++ if p = 6 then 64 :: Lib.itoa h else []) = (if p = 6 then Lib.itoa h else []) ∧ cutF 64 (Lib.itoa s ++ if p = 6 then 64 :: Lib.itoa h else []) = decide (p = 6) := by
  have h2 := itoa_clean s 64 (.inr (.inr (.inl rfl)))
  by_cases hp : p = 6
  · rw [if_pos hp, if_pos hp, decide_eq_true hp]
    exact cut_at h2
  · rw [if_neg hp, if_neg hp, List.append_nil, decide_eq_false hp]
    exact cut_no h2

/-- What a cache is read as. -/
structure PC where
  p : Int
  s : Int
  h : Int
  xs : List Int
  ys : List Int
/-- The first k words behind the head, read one by one. -/
def rdTo (rd : List UInt8 → Option (Int × List Int)) (ws : List ByteArray) : Nat → Option (List Int × List Int)
  | 0 => some ([], [])
  | k + 1 => match rdTo rd ws k, rd (ws.getD (k + 1) ByteArray.empty).data.toList with
    | some r, some q => some (r.1 ++ [q.1], r.2 ++ q.2)
    | _, _ => none
theorem rdTo_snoc {rd : List UInt8 → Option (Int × List Int)} {ws : List ByteArray} {k : Nat} {xs ys m : List Int} {v : Int} (h : rdTo rd ws k = some (xs, ys)) (h2 : rd (ws.getD (k + 1) ByteArray.empty).data.toList = some (v, m)) : rdTo rd ws (k + 1) = some (xs ++ [v], ys ++ m) := by
  rw [rdTo, h, h2]
theorem rdTo_no {rd : List UInt8 → Option (Int × List Int)} {ws : List ByteArray} {k : Nat} (h2 : rd (ws.getD (k + 1) ByteArray.empty).data.toList = none) : ∀ d, rdTo rd ws (k + 1 + d) = none
  | 0 => by
    rw [Nat.add_zero, rdTo, h2]
    cases rdTo rd ws k <;> rfl
  | d + 1 => by
    rw [← Nat.add_assoc, rdTo, rdTo_no h2 d]
theorem rdTo_none {rd : List UInt8 → Option (Int × List Int)} {ws : List ByteArray} {k n : Nat} (h2 : rd (ws.getD (k + 1) ByteArray.empty).data.toList = none) (hk : k < n) : rdTo rd ws n = none := by
  have := rdTo_no (rd := rd) (ws := ws) h2 (n - (k + 1))
  rwa [show k + 1 + (n - (k + 1)) = n by omega] at this
theorem rdTo_len {rd : List UInt8 → Option (Int × List Int)} {ws : List ByteArray} : ∀ {k : Nat} {xs ys : List Int}, rdTo rd ws k = some (xs, ys) → xs.length = k
  | 0, xs, ys, h => by injection h with h; injection h with h1 _; subst h1; rfl
  | k + 1, xs, ys, h => by
    rw [rdTo] at h
    split at h
    · rename_i r q h0 hq
      injection h with h
      injection h with h1 _
      subst h1
      rw [List.length_append, List.length_singleton, rdTo_len (xs := r.1) (ys := r.2) h0]
    · cases h
theorem rdTo_mk {rd : List UInt8 → Option (Int × List Int)} {ws : List ByteArray} (xs ys : List Int) (m : Bool) (hy : m = true → ys.length = xs.length) : ∀ k, k ≤ xs.length → (∀ j, j < k → rd (ws.getD (j + 1) ByteArray.empty).data.toList = some (xs.getD j 0, if m = true then [ys.getD j 0] else [])) → rdTo rd ws k = some (xs.take k, if m = true then ys.take k else [])
  | 0, _, _ => by cases m <;> simp [rdTo]
  | k + 1, hk, h => by
    rw [rdTo_snoc (rdTo_mk xs ys m hy k (by omega) (fun j hj => h j (by omega))) (h k (by omega)), List.take_succ_eq_append_getElem (show k < xs.length by omega)]
    cases m with
    | false => simp [List.getD_eq_getElem?_getD, List.getElem?_eq_getElem (show k < xs.length by omega)]
    | true =>
      have := hy rfl
      simp only [if_true]
      rw [List.take_succ_eq_append_getElem (show k < ys.length by omega)]
      simp [List.getD_eq_getElem?_getD, List.getElem?_eq_getElem (show k < xs.length by omega), List.getElem?_eq_getElem (show k < ys.length by omega)]
def readZ (l : List UInt8) : Int := (implRead l).getD 0
def specZ (l : List UInt8) : Int := (specRead l).getD 0
/-- One word, by the program and by the reference. -/
def wordI (m : Bool) (l : List UInt8) : Option (Int × List Int) := match implRead (cutA 58 l) with
  | some v => some (v, if m = true then [readZ (cutB 58 l)] else [])
  | none => none
def wordS (m : Bool) (l : List UInt8) : Option (Int × List Int) := match specRead (cutA 58 l) with
  | some v => if cutF 58 l = m then (if m = true then (match specRead (cutB 58 l) with
    | some y => some (v, [y])
    | none => none) else some (v, [])) else none
  | none => none
/-- The first word: the policy's name, the size, the hand. -/
def nameB (l : List UInt8) : ByteArray := ⟨(cutA 47 l).toArray⟩
def polH (l : List UInt8) : Int := polIdx (nameB l)
def handS (l : List UInt8) : Int := if cutF 64 (cutB 47 l) = true then specZ (cutB 64 (cutB 47 l)) else 0
def okS (l : List UInt8) : Bool := (specRead (cutA 64 (cutB 47 l))).isSome && (!(cutF 64 (cutB 47 l)) || (specRead (cutB 64 (cutB 47 l))).isSome) && (cutF 64 (cutB 47 l) == decide (polH l = 6))
def endC (n p s h : Int) (t : ByteArray) (xs ys : List Int) : Option PC := if cacheB n p s xs ys h = true ∧ ctTo p s h xs ys xs.length = t then some ⟨p, s, h, xs, ys⟩ else none
def w0 (t : ByteArray) : List UInt8 := ((splitL t 32).getD 0 ByteArray.empty).data.toList
def pcI (n : Int) (t : ByteArray) : Option PC := match rdTo (wordI (mkB (polH (w0 t)))) (splitL t 32) ((splitL t 32).length - 1) with
  | some r => endC n (polH (w0 t)) (readZ (cutA 64 (cutB 47 (w0 t)))) (readZ (cutB 64 (cutB 47 (w0 t)))) t r.1 r.2
  | none => none
def pcS (n : Int) (t : ByteArray) : Option PC := if okS (w0 t) = true ∧ (splitL t 32).length ≤ 7 then (match rdTo (wordS (mkB (polH (w0 t)))) (splitL t 32) ((splitL t 32).length - 1) with
  | some r => endC n (polH (w0 t)) (specZ (cutA 64 (cutB 47 (w0 t)))) (handS (w0 t)) t r.1 r.2
  | none => none) else none
theorem endC_form {n p s h : Int} {t : ByteArray} {xs ys : List Int} {x : PC} (e : endC n p s h t xs ys = some x) : cacheB n x.p x.s x.xs x.ys x.h = true ∧ ctTo x.p x.s x.h x.xs x.ys x.xs.length = t := by
  unfold endC at e
  split at e
  · rename_i hc
    injection e with e
    subst e
    exact hc
  · cases e
theorem pcI_form {n : Int} {t : ByteArray} {x : PC} (e : pcI n t = some x) : cacheB n x.p x.s x.xs x.ys x.h = true ∧ ctTo x.p x.s x.h x.xs x.ys x.xs.length = t := by
  unfold pcI at e
  split at e
  · exact endC_form e
  · cases e
theorem pcS_form {n : Int} {t : ByteArray} {x : PC} (e : pcS n t = some x) : cacheB n x.p x.s x.xs x.ys x.h = true ∧ ctTo x.p x.s x.h x.xs x.ys x.xs.length = t := by
  unfold pcS at e
  split at e
  · split at e
    · exact endC_form e
    · cases e
  · cases e
/-- A valid cache has no marks where its policy has none, and no hand but with the clock. -/
theorem marks_of {n p s h : Int} {xs ys : List Int} (c : cacheB n p s xs ys h = true) : (if mkB p = true then ys else []) = ys ∧ (¬ p = 6 → h = 0) := by
  unfold cacheB at c
  simp only [Bool.and_eq_true, decide_eq_true_eq] at c
  obtain ⟨_, _, _, _, _, c6, c7⟩ := c
  refine ⟨?_, fun hp => ?_⟩
  · unfold mkB
    by_cases hp : p = 5 ∨ p = 6
    · rw [decide_eq_true hp, if_pos rfl]
    · rw [decide_eq_false hp, if_neg (by simp)]
      rw [marks0 (fun e => hp (.inl e)) (fun e => hp (.inr e))] at c6
      simp only [decide_eq_true_eq] at c6
      exact (List.length_eq_zero_iff.1 c6).symm
  · unfold handB at c7
    rw [if_neg (fun e => hp e.1)] at c7
    simpa using c7
theorem pol_back (p : Int) (hp : 1 ≤ p ∧ p ≤ 7) : polIdx ⟨(polText p).data.toList.toArray⟩ = p := by
  have hk : p = 1 ∨ p = 2 ∨ p = 3 ∨ p = 4 ∨ p = 5 ∨ p = 6 ∨ p = 7 := by omega
  rcases hk with rfl | rfl | rfl | rfl | rfl | rfl | rfl <;> rfl
theorem pcI_of {n p s h : Int} {xs ys : List Int} {t : ByteArray} (c : cacheB n p s xs ys h = true) (ht : ctTo p s h xs ys xs.length = t) : pcI n t = some ⟨p, s, h, xs, ys⟩ := by
  have f := fine_of c
  have hm := marks_of c
  have hl := words_len ht
  have h0 : w0 t = headL p s h := word_zero ht
  have hc := head_cut p s h
  have hr := rest_cut p s h
  have hpol : polH (w0 t) = p := by
    unfold polH nameB
    rw [h0, hc.1]
    exact pol_back p f.pp
  have hs : readZ (cutA 64 (cutB 47 (w0 t))) = s := by
    unfold readZ
    rw [h0, hc.2, hr.1, implRead_itoa (by have := f.ss; omega)]
    rfl
  have hh : readZ (cutB 64 (cutB 47 (w0 t))) = h := by
    unfold readZ
    rw [h0, hc.2, hr.2.1]
    by_cases hp : p = 6
    · rw [if_pos hp, implRead_itoa (by have := f.hand; omega)]
      rfl
    · rw [if_neg hp, hm.2 hp]
      rfl
  have hy : mkB p = true → ys.length = xs.length := fun e => (f.marked (by simpa [mkB] using e)).1
  have hrd := rdTo_mk (rd := wordI (mkB p)) (ws := splitL t 32) xs ys (mkB p) hy xs.length (Nat.le_refl _) (fun j hj => by
    have hpc := page_cut p (xs.getD j 0) (ys.getD j 0)
    rw [word_succ ht hj]
    unfold wordI readZ
    rw [hpc.1, implRead_itoa (by have := f.pages j hj; omega), hpc.2.1]
    by_cases e : mkB p = true
    · have hyj := (f.marked (by simpa [mkB] using e)).2 j (by rw [hy e]; exact hj)
      simp only [if_pos e]
      rw [implRead_itoa (by omega)]
      rfl
    · simp only [if_neg e])
  rw [List.take_length, show (if mkB p = true then ys.take xs.length else []) = ys by
    rw [← hm.1]
    by_cases e : mkB p = true
    · simp only [if_pos e]
      rw [← hy e, List.take_length]
    · simp only [if_neg e]] at hrd
  unfold pcI
  rw [hpol, hs, hh, hl, Nat.add_sub_cancel, hrd]
  simp only
  unfold endC
  rw [if_pos ⟨c, ht⟩]
theorem pcS_of {n p s h : Int} {xs ys : List Int} {t : ByteArray} (c : cacheB n p s xs ys h = true) (ht : ctTo p s h xs ys xs.length = t) : pcS n t = some ⟨p, s, h, xs, ys⟩ := by
  have f := fine_of c
  have hm := marks_of c
  have hl := words_len ht
  have h0 : w0 t = headL p s h := word_zero ht
  have hc := head_cut p s h
  have hr := rest_cut p s h
  have hpol : polH (w0 t) = p := by
    unfold polH nameB
    rw [h0, hc.1]
    exact pol_back p f.pp
  have hs : specRead (cutA 64 (cutB 47 (w0 t))) = some s := by
    rw [h0, hc.2, hr.1, specRead_itoa (by have := f.ss; omega)]
  have hF : cutF 64 (cutB 47 (w0 t)) = decide (p = 6) := by rw [h0, hc.2, hr.2.2]
  have hh : p = 6 → specRead (cutB 64 (cutB 47 (w0 t))) = some h := by
    intro hp
    rw [h0, hc.2, hr.2.1, if_pos hp, specRead_itoa (by have := f.hand; omega)]
  have hok : okS (w0 t) = true := by
    unfold okS
    rw [hs, hF, hpol]
    by_cases hp : p = 6
    · rw [hh hp, decide_eq_true hp]; rfl
    · rw [decide_eq_false hp]; rfl
  have hhS : handS (w0 t) = h := by
    unfold handS specZ
    rw [hF]
    by_cases hp : p = 6
    · rw [hh hp, decide_eq_true hp]; rfl
    · rw [decide_eq_false hp, hm.2 hp]; rfl
  have hy : mkB p = true → ys.length = xs.length := fun e => (f.marked (by simpa [mkB] using e)).1
  have hrd := rdTo_mk (rd := wordS (mkB p)) (ws := splitL t 32) xs ys (mkB p) hy xs.length (Nat.le_refl _) (fun j hj => by
    have hpc := page_cut p (xs.getD j 0) (ys.getD j 0)
    rw [word_succ ht hj]
    unfold wordS
    rw [hpc.1, specRead_itoa (by have := f.pages j hj; omega), hpc.2.1, hpc.2.2]
    by_cases e : mkB p = true
    · have hyj := (f.marked (by simpa [mkB] using e)).2 j (by rw [hy e]; exact hj)
      simp only [if_pos e, if_true]
      rw [specRead_itoa (by omega)]
    · simp only [if_neg e, if_true])
  rw [List.take_length, show (if mkB p = true then ys.take xs.length else []) = ys by
    rw [← hm.1]
    by_cases e : mkB p = true
    · simp only [if_pos e]
      rw [← hy e, List.take_length]
    · simp only [if_neg e]] at hrd
  unfold pcS specZ
  rw [if_pos ⟨hok, by rw [hl]; have := f.len; omega⟩, hpol, hs, hhS, hl, Nat.add_sub_cancel, hrd]
  simp only [Option.getD_some]
  unfold endC
  rw [if_pos ⟨c, ht⟩]
theorem pc_eq (n : Int) (t : ByteArray) : pcS n t = pcI n t := by
  cases h : pcS n t with
  | some x => exact (pcI_of (pcS_form h).1 (pcS_form h).2).symm
  | none =>
    cases h2 : pcI n t with
    | none => rfl
    | some x =>
      have := pcS_of (pcI_form h2).1 (pcI_form h2).2
      rw [h] at this
      cases this
end Go.Proofs.YtkimbgehnhcmaaaGreatDoor
