/- The law's own marks of texts (markText): each number has its text; for numbers up to four millions. -/
import Derived.Test.YtlickpalbfhjoaaStrs
import Derived.Lib.ConvBytes
namespace Go.Proofs.Ytlickpalbfhjoaa
open Go.RowKit

/-- The digits of n ahead of s. -/
def digB (n : Nat) (s : ByteArray) : ByteArray := if _h : n = 0 then s else digB (n / 10) (⟨#[UInt8.ofNat (48 + n % 10)]⟩ ++ s)
termination_by n
decreasing_by omega
def markB (k : Nat) : ByteArray := if k = 0 then ⟨#[109, 48]⟩ else ⟨#[109]⟩ ++ digB k ByteArray.empty
theorem conv_one (w : World) (r : Nat) (h : r < 10) :
    (convert 37 9 (.slice (some ⟨w.heap.size, 0, none⟩) 1 1)).run Try.prog (w.alloc (.cells #[.int .u8 (48 + (r : Int))] 5)) =
      .ok (.string ⟨#[UInt8.ofNat (48 + r)]⟩) (w.alloc (.cells #[.int .u8 (48 + (r : Int))] 5)) :=
  run_convert_bytes_back _ _ _ 5 _ 1 [UInt8.ofNat (48 + r)] Try.underlying37 Try.underlying5 Try.underlying9 (fun j hj => by
    obtain rfl : j = 0 := by simpa using hj
    have e : ((UInt8.ofNat (48 + r)).toNat : Int) = 48 + (r : Int) := by rw [UInt8.toNat_ofNat']; omega
    simp only [List.getElem_cons_zero]
    rw [e, Addr.add_lit]
    simp)
set_option maxRecDepth 100000 in
set_option maxHeartbeats 800000 in
theorem markText_any (k : Nat) (hk : k ≤ 4000000) (w : World) :
    Calls Try.prog 16 #[.int .i64 k] w fun e w' => e = .returned (.string (markB k)) ∧ Below w.heap.size w w' := by
  by_cases h0 : k = 0
  · subst h0
    go_enter Try.func16, Try.ntmps16
    go_wp2
    go_ret
    exact ⟨rfl, Below.refl _ _⟩
  · have hB0 := hide (Below.refl w.heap.size w)
    go_enter Try.func16, Try.ntmps16
    go_wp2
    go_loopw [0, 3] (fun x u wr => ∃ (n : Nat) (s : ByteArray), x = .int .i64 n ∧ u = .string s ∧ n ≤ 4000000 ∧ n * 10 ^ s.size ≤ 4000000 ∧ s.size ≤ 8 ∧ Hid (digB n s = digB k ByteArray.empty) ∧ Hid (Below w.heap.size w wr)) (fun x _ _ => (intOf x).toNat)
    case atStart => exact ⟨k, ByteArray.empty, rfl, rfl, hk, by simpa using hk, by decide, rfl, hB0⟩
    case round =>
      obtain ⟨n, s, rfl, rfl, h1, h2, h3, HD, HB⟩ := hrel
      by_cases hn : n = 0
      · subst hn
        have HE : Hid (digB k ByteArray.empty = s) := by
          have := HD.out
          rw [digB, dif_pos rfl] at this
          exact this.symm
        have c1 : ¬ (9223372036854775807 < 1 + s.size) := by omega
        have c2 : (⟨#[109]⟩ : ByteArray).size = 1 := rfl
        clear h2 HD
        go_wp2
        go_ret
        refine ⟨?_, HB.out⟩
        rw [markB, if_neg h0, HE.out]
        rfl
      · obtain ⟨q, hq⟩ : ∃ q : Nat, q = n / 10 := ⟨_, rfl⟩
        obtain ⟨r, hr⟩ : ∃ r : Nat, r = n % 10 := ⟨_, rfl⟩
        have HN : Hid (digB q (⟨#[UInt8.ofNat (48 + r)]⟩ ++ s) = digB k ByteArray.empty) := by
          have := HD.out
          rw [digB, dif_neg hn, ← hq, ← hr] at this
          exact this
        have hn0 : (0 : Int) < (n : Int) := by omega
        have hd : (n : Int) / 10 = (q : Int) := by omega
        have hd' : (n : Int).tdiv 10 = (q : Int) := by rw [hq]; rfl
        have hm' : (n : Int).tmod 10 = (r : Int) := by rw [hr]; rfl
        have hm : (n : Int) % 10 = (r : Int) := by omega
        have h10 : r < 10 := by omega
        have hq4 : q ≤ 4000000 := by omega
        have hp : q * 10 ^ (s.size + 1) ≤ 4000000 := by
          rw [Nat.pow_succ]
          have : q * (10 ^ s.size * 10) = (q * 10) * 10 ^ s.size := by rw [Nat.mul_comm (10 ^ s.size) 10, Nat.mul_assoc]
          rw [this]
          exact Nat.le_trans (Nat.mul_le_mul_right _ (by omega)) h2
        have h8 : s.size ≤ 7 := by
          rcases Nat.lt_or_ge 7 s.size with h | h
          · have h9 : 10 ^ 7 ≤ 10 ^ s.size := Nat.pow_le_pow_right (by omega) (by omega)
            have h10 : 1 * 10 ^ s.size ≤ n * 10 ^ s.size := Nat.mul_le_mul_right _ (by omega)
            omega
          · exact h
        have c1 : ¬ (9223372036854775807 < 1 + s.size) := by omega
        replace hq := hide hq
        replace hr := hide hr
        have hlt : q < n := by have := hq.out; omega
        clear HD h2 h3
        obtain ⟨d, hdd⟩ : ∃ d : ByteArray, d = ⟨#[UInt8.ofNat (48 + r)]⟩ := ⟨_, rfl⟩
        have hd1 : d.size = 1 := by rw [hdd]; rfl
        have hconv := conv_one wr r h10
        rw [← hdd] at hconv HN
        replace hdd := hide hdd
        go_wp2
        go_roundw
        case rel => first | exact ⟨q, d ++ s, rfl, rfl, hq4, by rw [ByteArray.size_append, hd1, Nat.add_comm]; exact hp, by rw [ByteArray.size_append, hd1]; omega, HN, HB.out.alloc HB.out.size _⟩ | ((repeat apply Exists.intro); refine ⟨?_, rfl⟩; exact ⟨q, d ++ s, rfl, rfl, hq4, by rw [ByteArray.size_append, hd1, Nat.add_comm]; exact hp, by rw [ByteArray.size_append, hd1]; omega, HN, HB.out.alloc HB.out.size _⟩)
        case measure => first | (simp [intOf]; done) | (simp [intOf]; omega)
end Go.Proofs.Ytlickpalbfhjoaa
