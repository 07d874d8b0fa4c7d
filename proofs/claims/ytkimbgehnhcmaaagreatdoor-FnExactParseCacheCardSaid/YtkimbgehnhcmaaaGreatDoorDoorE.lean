/- From the row's listed sentinels to what strconv.Atoi's contracts ask; no conditions. -/
import Derived.Test.YtkimbgehnhcmaaaGreatDoorDoor
import Derived.Test.YtkimbgehnhcmaaaGreatDoorRead
namespace Go.Proofs.YtkimbgehnhcmaaaGreatDoor
open Go.RowKit

theorem star_err : "*" ++ "errors.errorString" = "*errors.errorString" := by decide
theorem row_err (u : TypeId) (h : Tryz.prog.typeName? 3 u = some "*errors.errorString") : u = 105 :=
  typeName_ptr_named (nm := "errors.errorString") (by rw [star_err]; kernel_rfl) (by kernel_rfl) (by decide) u (by rw [star_err]; exact h)
/-- The two errors, as the rows list them behind the four tables. -/
theorem errs_of {rest : List (String × DataW Unit)} {W : World}
    (h : laidMet Tryz.prog (("math/bits.deBruijn32tab", Rows.laid_math_bits_deBruijn32tab) :: ("math/bits.deBruijn64tab", Rows.laid_math_bits_deBruijn64tab) :: ("internal/strconv.uint64pow10", Rows.laid_internal_strconv_uint64pow10) :: ("unicode/utf8.acceptRanges", Rows.laid_unicode_utf8_acceptRanges) :: ("strconv.ErrRange", Rows.laid_strconv_ErrRange) :: ("strconv.ErrSyntax", Rows.laid_strconv_ErrSyntax) :: rest) W) : Errs W := by
  have h2 := h.tail.tail.tail.tail
  obtain ⟨a0, s0, hv0, -, -, -⟩ := laid_sentinel h2 gRan (show (Tryz.prog.globals[2]?).map (·.type) = some 55 by kernel_rfl) Tryz.underlying55 row_err Tryz.underlying105 Tryz.underlying107 rfl rfl Tryz.underlying9 (by kernel_rfl) (by kernel_rfl)
  obtain ⟨a1, s1, hv1, -, -, -⟩ := laid_sentinel h2.tail gSyn (show (Tryz.prog.globals[1]?).map (·.type) = some 55 by kernel_rfl) Tryz.underlying55 row_err Tryz.underlying105 Tryz.underlying107 rfl rfl Tryz.underlying9 (by kernel_rfl) (by kernel_rfl)
  exact ⟨⟨_, _, hv1⟩, ⟨_, _, hv0⟩⟩
end Go.Proofs.YtkimbgehnhcmaaaGreatDoor
