/- A list of numbers read from its text: the reference's reading and the program's give the same; plain lists, no program. -/
import Derived.Test.YtlickpalbfhjoaaDoorReqT
import Derived.Test.YtlickpalbfhjoaaDoorCutP
import Derived.Test.YtlickpalbfhjoaaDoorParseP
namespace Go.Proofs.YtlickpalbfhjoaaDoor
open Go.RowKit

/-- The first k texts, read one by one. -/
def readTo (rd : List UInt8 → Option Int) (ws : List ByteArray) : Nat → Option (List Int)
  | 0 => some []
  | k + 1 => match readTo rd ws k, rd (ws.getD k ByteArray.empty).data.toList with
    | some l, some v => some (l ++ [v])
    | _, _ => none
theorem readTo_snoc {rd : List UInt8 → Option Int} {ws : List ByteArray} {k : Nat} {l : List Int} {v : Int} (h : readTo rd ws k = some l) (h2 : rd (ws.getD k ByteArray.empty).data.toList = some v) : readTo rd ws (k + 1) = some (l ++ [v]) := by
  rw [readTo, h, h2]
theorem readTo_no {rd : List UInt8 → Option Int} {ws : List ByteArray} {k : Nat} (h2 : rd (ws.getD k ByteArray.empty).data.toList = none) : ∀ d, readTo rd ws (k + 1 + d) = none
  | 0 => by
    rw [Nat.add_zero, readTo, h2]
    cases readTo rd ws k <;> rfl
  | d + 1 => by
    rw [← Nat.add_assoc, readTo, readTo_no h2 d]
theorem readTo_none {rd : List UInt8 → Option Int} {ws : List ByteArray} {k n : Nat} (h2 : rd (ws.getD k ByteArray.empty).data.toList = none) (hk : k < n) : readTo rd ws n = none := by
  have := readTo_no (rd := rd) (ws := ws) h2 (n - (k + 1))
  rwa [show k + 1 + (n - (k + 1)) = n by omega] at this
theorem readTo_form {rd : List UInt8 → Option Int} {ws : List ByteArray} : ∀ (k : Nat) (l : List Int), readTo rd ws k = some l → l.length = k ∧ ∀ j, j < k → rd (ws.getD j ByteArray.empty).data.toList = some (l.getD j 0)
  | 0, l, h => by
    injection h with h
    subst h
    exact ⟨rfl, fun j hj => absurd hj (Nat.not_lt_zero _)⟩
  | k + 1, l, h => by
    rw [readTo] at h
    split at h
    · rename_i l0 v h0 hv
      injection h with h
      subst h
      obtain ⟨h1, h2⟩ := readTo_form k l0 h0
      refine ⟨by simp [h1], fun j hj => ?_⟩
      by_cases hjk : j < k
      · rw [h2 j hjk]
        simp [List.getD_eq_getElem?_getD, List.getElem?_append_left (show j < l0.length by omega)]
      · obtain rfl : j = k := by omega
        rw [hv]
        simp [List.getD_eq_getElem?_getD, ← h1]
    · cases h
theorem readTo_mk {rd : List UInt8 → Option Int} {ws : List ByteArray} (l : List Int) : ∀ k, k ≤ l.length → (∀ j, j < k → rd (ws.getD j ByteArray.empty).data.toList = some (l.getD j 0)) → readTo rd ws k = some (l.take k)
  | 0, _, _ => by simp [readTo]
  | k + 1, hk, h => by
    rw [readTo_snoc (readTo_mk l k (by omega) (fun j hj => h j (by omega))) (h k (by omega)), List.take_succ_eq_append_getElem (by omega)]
    simp [List.getD_eq_getElem?_getD, List.getElem?_eq_getElem (show k < l.length by omega)]
def specIn (n : Int) (l : List UInt8) : Option Int := match specRead l with
  | some v => if 0 ≤ v ∧ v ≤ n - 1 then some v else none
  | none => none
def noneT : ByteArray := ⟨#[110, 111, 110, 101]⟩
def listSpec (n : Int) (s : ByteArray) : List Int × Bool := match readTo (specIn n) (splitL s 32) (splitL s 32).length with
  | some l => if l.length ≤ 60 ∧ reqText l = s then (l, true) else ([], false)
  | none => ([], false)
def prSpec (n : Int) (s : ByteArray) : List Int × Bool :=
  if (1 ≤ n ∧ n ≤ 8) ∧ s.size ≤ 120 then (if s = noneT then ([], true) else listSpec n s) else ([], false)
def listImpl (n : Int) (s : ByteArray) : List Int × Bool := match readTo implRead (splitL s 32) (splitL s 32).length with
  | some l => if reqB n l = true then (l, true) else ([], false)
  | none => ([], false)
def parseRequestsV (n : Int) (s : ByteArray) : List Int × Bool := if s = noneT then ([], decide (1 ≤ n ∧ n ≤ 8)) else listImpl n s

/-- The parts, joined, are the text. -/
theorem pieces_join (s : ByteArray) (c : UInt8) : ∀ k, k ≤ s.size → (((pieces s c k).1.map fun x => x.data.toList ++ [c]).flatten) = s.data.toList.take (pieces s c k).2
  | 0, _ => by simp [pieces]
  | k + 1, hk => by
    have ih := pieces_join s c k (by omega)
    have hle := (pieces_le s c k).1
    unfold pieces
    by_cases he : s.data.toList[k]? = some c
    · rw [if_pos he]
      simp only [List.map_append, List.map_cons, List.map_nil, List.flatten_append, List.flatten_cons, List.flatten_nil, List.append_nil]
      rw [ih, List.take_add_one, he]
      have e1 : (s.extract (pieces s c k).2 k).data.toList = (s.data.toList.take k).drop (pieces s c k).2 := by
        rw [ByteArray.data_extract, Array.toList_extract, List.extract_eq_take_drop, List.drop_take]
      rw [e1, ← List.append_assoc]
      congr 1
      rw [show s.data.toList.take (pieces s c k).2 = (s.data.toList.take k).take (pieces s c k).2 by rw [List.take_take, Nat.min_eq_left hle], List.take_append_drop]
    · rw [if_neg he]
      exact ih
theorem join_last (sep : List UInt8) (x : List UInt8) : ∀ P : List (List UInt8), Lib.join (P ++ [x]) sep = (P.map fun y => y ++ sep).flatten ++ x
  | [] => by simp [Lib.join_one]
  | y :: P => by
    have ih := join_last sep x P
    rw [List.cons_append, Lib.join_cons]
    simp only [List.map_cons, List.flatten_cons, List.append_assoc]
    congr 1
    cases P with
    | nil => simp [Lib.joinTail]
    | cons z P =>
      rw [List.cons_append, Lib.join_cons] at ih
      unfold Lib.joinTail at ih ⊢
      simp only [List.map_cons, List.flatten_cons, List.cons_append, List.append_assoc] at ih ⊢
      rw [ih]
theorem split_join (s : ByteArray) (c : UInt8) : Lib.join ((splitL s c).map (·.data.toList)) [c] = s.data.toList := by
  have h1 := pieces_join s c s.size (Nat.le_refl _)
  have hle := (pieces_le s c s.size).1
  unfold splitL
  rw [List.map_append, List.map_cons, List.map_nil, join_last, List.map_map]
  have e1 : (s.extract (pieces s c s.size).2 s.size).data.toList = s.data.toList.drop (pieces s c s.size).2 := by
    rw [ByteArray.data_extract, Array.toList_extract, List.extract_eq_take_drop]
    rw [List.take_of_length_le (by simp)]
  rw [e1]
  have e2 : ((fun y : List UInt8 => y ++ [c]) ∘ fun x : ByteArray => x.data.toList) = fun x : ByteArray => x.data.toList ++ [c] := rfl
  rw [e2, h1, List.take_append_drop]
theorem implRead_form {l : List UInt8} {v : Int} (h : implRead l = some v) : Lib.itoa v = l := by
  unfold implRead at h
  split at h
  · rename_i v2 _
    by_cases e : Lib.itoa v2 = l
    · rw [if_pos e] at h; injection h with h; rw [← h]; exact e
    · rw [if_neg e] at h; cases h
  · cases h
theorem specIn_of {n v : Int} {l : List UInt8} (h : implRead l = some v) (hv : 0 ≤ v ∧ v ≤ n - 1) (hn : n ≤ 8) : specIn n l = some v := by
  have : specRead l = some v := by
    rw [specRead_eq]
    unfold parseV
    rw [h]
    simp only
    rw [if_pos (by omega)]
  unfold specIn
  rw [this]
  simp only
  rw [if_pos hv]
theorem specIn_form {n v : Int} {l : List UInt8} (h : specIn n l = some v) : implRead l = some v ∧ 0 ≤ v ∧ v ≤ n - 1 := by
  unfold specIn at h
  split at h
  · rename_i u hu
    split at h
    · rename_i hr
      injection h with h
      subst h
      refine ⟨?_, hr⟩
      rw [specRead_eq] at hu
      unfold parseV at hu
      split at hu
      · rename_i x hx
        split at hu
        · injection hu with hu; rw [← hu]; exact hx
        · cases hu
      · cases hu
    · cases h
  · cases h
theorem ext_bytes {a b : ByteArray} (h : a.data.toList = b.data.toList) : a = b := by
  apply ByteArray.ext
  exact Array.ext' h
theorem words_of {s : ByteArray} {l : List Int} (h : readTo implRead (splitL s 32) (splitL s 32).length = some l) : l.map numText = splitL s 32 := by
  obtain ⟨h1, h2⟩ := readTo_form _ _ h
  apply List.ext_getElem
  · simp [h1]
  · intro j hj hj2
    have h3 := implRead_form (h2 j hj2)
    have hjl : j < l.length := by omega
    apply ext_bytes
    rw [List.getD_eq_getElem?_getD, List.getElem?_eq_getElem hjl, List.getD_eq_getElem?_getD, List.getElem?_eq_getElem hj2] at h3
    simp only [List.getElem_map, numText]
    exact h3
theorem text_of {s : ByteArray} {l : List Int} (h : readTo implRead (splitL s 32) (splitL s 32).length = some l) : reqText l = s := by
  have h1 := (readTo_form _ _ h).1
  have h0 := splitL_pos s 32
  have hw := words_of h
  have hj := join_text l (by omega)
  rw [hw, split_join] at hj
  unfold reqText
  rw [if_neg (by omega)]
  exact (ext_bytes hj).symm
theorem itoa_one {v : Int} (h : 0 ≤ v ∧ v ≤ 7) : (Lib.itoa v).length = 1 := by
  rw [itoa_pos' (by omega), Lib.decDigits, dif_pos (by omega)]
  rfl
theorem size_of {s : ByteArray} {l : List Int} (h : readTo implRead (splitL s 32) (splitL s 32).length = some l) (hr : ∀ x ∈ l, 0 ≤ x ∧ x ≤ 7) : s.size + 1 = 2 * l.length := by
  have h1 := (readTo_form _ _ h).1
  have h0 := splitL_pos s 32
  have hw := words_of h
  have hj := congrArg List.length (split_join s 32)
  rw [← hw] at hj
  have hlen : s.data.toList.length = s.size := by simp
  rw [hlen] at hj
  cases l with
  | nil => simp at h1; omega
  | cons x r =>
    simp only [List.map_cons] at hj
    rw [Lib.join_length] at hj
    have hs : ∀ q : List Int, (∀ y ∈ q, 0 ≤ y ∧ y ≤ 7) → Lib.lens ((q.map numText).map (·.data.toList)) = q.length := by
      intro q
      induction q with
      | nil => intro _; rfl
      | cons y q ih =>
        intro hq
        have h2 := ih (fun z hz => hq z (List.mem_cons_of_mem _ hz))
        have h3 := itoa_one (hq y (List.mem_cons_self ..))
        simp only [Lib.lens, List.map_cons, List.sum_cons, List.length_cons] at h2 ⊢
        rw [h2]
        simp only [numText] at h3 ⊢
        rw [show ((Lib.itoa y).toArray.toList).length = (Lib.itoa y).length by simp, h3]
        omega
    have h4 := hs (x :: r) hr
    simp only [List.map_cons] at h4
    rw [h4] at hj
    simp at hj ⊢
    omega
theorem reqB_form {n : Int} {l : List Int} : reqB n l = true ↔ (1 ≤ n ∧ n ≤ 8) ∧ l.length ≤ 60 ∧ ∀ x ∈ l, 0 ≤ x ∧ x ≤ n - 1 := by
  unfold reqB belowB
  simp only [Bool.and_eq_true, decide_eq_true_eq, List.all_eq_true]
theorem getD_memI {l : List Int} {j : Nat} (h : j < l.length) : l.getD j 0 ∈ l := by
  rw [List.getD_eq_getElem?_getD, List.getElem?_eq_getElem h]
  exact List.getElem_mem _
theorem prSpec_eq (n : Int) (s : ByteArray) : prSpec n s = parseRequestsV n s := by
  unfold prSpec parseRequestsV
  by_cases hs : s = noneT
  · subst hs
    by_cases hn : 1 ≤ n ∧ n ≤ 8
    · rw [if_pos ⟨hn, by decide⟩, if_pos rfl, if_pos rfl, decide_eq_true hn]
    · rw [if_neg (fun h => hn h.1), if_pos rfl, decide_eq_false hn]
  · rw [if_neg hs, if_neg hs]
    cases hi : readTo implRead (splitL s 32) (splitL s 32).length with
    | none =>
      have e : listSpec n s = ([], false) := by
        unfold listSpec
        split
        · rename_i l hl
          obtain ⟨h1, h2⟩ := readTo_form _ _ hl
          have := readTo_mk (rd := implRead) (ws := splitL s 32) l _ (Nat.le_of_eq h1.symm) (fun j hj => (specIn_form (h2 j hj)).1)
          rw [hi] at this
          cases this
        · rfl
      unfold listImpl
      rw [hi, e]
      simp
    | some l =>
      obtain ⟨h1, h2⟩ := readTo_form _ _ hi
      unfold listImpl
      rw [hi]
      simp only
      by_cases hr : reqB n l = true
      · rw [if_pos hr]
        obtain ⟨r1, r2, r3⟩ := reqB_form.1 hr
        have hz := size_of hi (fun x hx => by have := r3 x hx; omega)
        rw [if_pos ⟨r1, by omega⟩]
        unfold listSpec
        have := readTo_mk (rd := specIn n) (ws := splitL s 32) l _ (Nat.le_of_eq h1.symm) (fun j hj => specIn_of (h2 j hj) (r3 _ (getD_memI (by omega))) r1.2)
        rw [← h1, List.take_length] at this
        rw [← h1, this]
        simp only
        rw [if_pos ⟨r2, text_of hi⟩]
      · rw [if_neg hr]
        split
        · rename_i hc
          unfold listSpec
          split
          · rename_i l2 hl2
            obtain ⟨g1, g2⟩ := readTo_form _ _ hl2
            have := readTo_mk (rd := implRead) (ws := splitL s 32) l2 _ (Nat.le_of_eq g1.symm) (fun j hj => (specIn_form (g2 j hj)).1)
            rw [← g1, List.take_length, g1, hi] at this
            injection this with this
            subst this
            rw [if_neg]
            rintro ⟨h5, _⟩
            refine hr (reqB_form.2 ⟨hc.1, h5, fun x hx => ?_⟩)
            obtain ⟨j, hj, rfl⟩ := List.getElem_of_mem hx
            have := (specIn_form (g2 j (by omega))).2
            rwa [List.getD_eq_getElem?_getD, List.getElem?_eq_getElem hj] at this
          · rfl
        · rfl
theorem parseRequestsV_len (n : Int) (s : ByteArray) : (parseRequestsV n s).1.length ≤ 60 := by
  unfold parseRequestsV listImpl
  split
  · simp
  · split
    · split
      · rename_i h
        exact (reqB_form.1 h).2.1
      · simp
    · simp
end Go.Proofs.YtlickpalbfhjoaaDoor
