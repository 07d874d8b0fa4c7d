/- Reading a number in its one decimal form: the reference's l1Read and the program's readDec; for texts of at most 2^20 bytes; the premises: Go's table of powers of ten and strconv's two errors are laid. -/
import Derived.Test.YtkimbgehnhcmaaaGreatDoorDec
import Derived.Test.YtkimbgehnhcmaaaGreatDoorParseP
import Derived.Lib.SlicesS
import Derived.Lib.AtoiErrMem
import Derived.Lib.ConvBytes
import Derived.Lib.Atoi
namespace Go.Proofs.YtkimbgehnhcmaaaGreatDoor
open Go.RowKit

/-- strconv's two errors are laid: each variable holds an interface's value. -/
def Errs (w : World) : Prop := (∃ tp p, w.var? Tryz.prog "strconv.ErrSyntax" = some #[.iface tp p]) ∧ (∃ tp p, w.var? Tryz.prog "strconv.ErrRange" = some #[.iface tp p])
theorem gSyn : Tryz.prog.globalNamed "strconv.ErrSyntax" = some 1 := by kernel_rfl
theorem gRan : Tryz.prog.globalNamed "strconv.ErrRange" = some 2 := by kernel_rfl
theorem Errs.below {w w' : World} (h : Errs w) (hb : Below w.heap.size w w') : Errs w' := by
  obtain ⟨⟨t1, p1, h1⟩, ⟨t2, p2, h2⟩⟩ := h
  exact ⟨⟨t1, p1, Joins.var_stays gSyn h1 hb (Nat.le_refl _)⟩, ⟨t2, p2, Joins.var_stays gRan h2 hb (Nat.le_refl _)⟩⟩

theorem bytes_ne' {x y : ByteArray} (h : ¬ x = y) : (x.toList == y.toList) = false := by
  cases hb : (x.toList == y.toList)
  · rfl
  · exact absurd ((Lib.bytes_beq_iff x y).1 hb) h
theorem text_eq {l : List UInt8} {s : ByteArray} : (⟨l.toArray⟩ : ByteArray) = s ↔ l = s.data.toList := by
  constructor
  · intro h; subst h; simp
  · intro h; subst h; simp

/-- The three ways in which Atoi ends: a number; a text that is none ('ofOption none' is the kit's name for it here); a number too great. -/
theorem atoi_ends (l : List UInt8) : (∃ v, Lib.atoiAll l = .ok v) ∨ Lib.atoiAll l = Lib.NumEnd.ofOption none ∨ Lib.atoiAll l = .range := by
  cases h : Lib.atoiAll l
  · exact .inl ⟨_, rfl⟩
  · exact .inr (.inl rfl)
  · exact .inr (.inr rfl)
def readN (s : ByteArray) : Int := (implRead s.data.toList).getD 0
def readOk (s : ByteArray) : Bool := (implRead s.data.toList).isSome

set_option maxRecDepth 100000 in
set_option maxHeartbeats 800000 in
theorem readDec_any (s : ByteArray) (w : World) (hs : s.size ≤ 1048576) (ht : Tab w) (he : Errs w) :
    Calls Tryz.prog 19 #[.string s] w fun e w' => e = .returned (.tuple #[.int .i64 (readN s), .bool (readOk s)]) ∧ Below w.heap.size w w' := by
  unfold readN readOk implRead
  rcases atoi_ends s.data.toList with ⟨v, h⟩ | h | h
  · rw [h]
    have hv := Lib.atoiAll_bounds h
    have h1 := Tryz.strconv_Atoi_ok s (by omega) v h w
    have h2 := fun w1 (hb : Below w.heap.size w w1) => dec_any v (by omega) (by omega) w1 (ht.below hb)
    by_cases e : Lib.itoa v = s.data.toList
    · have e2 := text_eq.2 e
      rw [e2] at h2
      simp only [if_pos e, Option.getD_some, Option.isSome_some]
      clear e e2 hv h
      go_enter Tryz.func19, Tryz.ntmps19
      go_wp2_with fail
      refine h1.mono ?_
      rintro e w1 ⟨rfl, hw⟩
      have hb : Below w.heap.size w w1 := by
        rcases hw with rfl | ⟨t, rfl⟩
        · exact Below.refl _ _
        · exact Lib.bytesWorld_below _ _ _
      clear hw
      have h3 := h2 w1 hb
      replace hb := hide hb
      go_wp2_with (go_at_call 40; refine h3.mono ?_; rintro e w2 ⟨rfl, hb2⟩)
      go_ret2
      exact ⟨rfl, hb.out.trans (hb2.mono hb.out.size)⟩
    · have e2 := bytes_ne' (fun x => e (text_eq.1 x))
      simp only [if_neg e, Option.getD_none, Option.isSome_none]
      generalize (⟨(Lib.itoa v).toArray⟩ : ByteArray) = u at h2 e2
      clear e hv h
      go_enter Tryz.func19, Tryz.ntmps19
      go_wp2_with fail
      refine h1.mono ?_
      rintro e w1 ⟨rfl, hw⟩
      have hb : Below w.heap.size w w1 := by
        rcases hw with rfl | ⟨t, rfl⟩
        · exact Below.refl _ _
        · exact Lib.bytesWorld_below _ _ _
      clear hw
      have h3 := h2 w1 hb
      replace hb := hide hb
      go_wp2_with (go_at_call 40; refine h3.mono ?_; rintro e w2 ⟨rfl, hb2⟩)
      go_ret2
      exact ⟨rfl, hb.out.trans (hb2.mono hb.out.size)⟩
  · rw [h]
    obtain ⟨⟨t1, p1, e1⟩, _⟩ := he
    have h1 := Tryz.strconv_Atoi_syntax_var s (by omega) h t1 p1 w e1
    simp only [Lib.NumEnd.ofOption, Option.getD_none, Option.isSome_none]
    clear h e1
    go_enter Tryz.func19, Tryz.ntmps19
    go_wp2_with fail
    refine h1.mono ?_
    rintro e w1 ⟨N, rfl, -, -, hb⟩
    go_wp2
    go_ret2
    exact ⟨rfl, hb⟩
  · rw [h]
    obtain ⟨_, ⟨t1, p1, e1⟩⟩ := he
    have h1 := Tryz.strconv_Atoi_range_var s (by omega) h t1 p1 w e1
    simp only [Option.getD_none, Option.isSome_none]
    generalize Lib.atoiSat s.data.toList = z at h1
    clear h e1
    go_enter Tryz.func19, Tryz.ntmps19
    go_wp2_with fail
    refine h1.mono ?_
    rintro e w1 ⟨N, rfl, -, -, hb⟩
    go_wp2
    go_ret2
    exact ⟨rfl, hb⟩

def parseN (s : ByteArray) : Int := (parseV s.data.toList).getD 0
def parseOk (s : ByteArray) : Bool := (parseV s.data.toList).isSome
end Go.Proofs.YtkimbgehnhcmaaaGreatDoor
