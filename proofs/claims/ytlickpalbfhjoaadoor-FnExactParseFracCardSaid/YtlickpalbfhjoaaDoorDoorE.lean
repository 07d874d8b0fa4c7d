/- From the row's listed sentinels to what strconv.Atoi's contracts ask; no conditions. -/
import Derived.Test.YtlickpalbfhjoaaDoorDoor
import Derived.Test.YtlickpalbfhjoaaDoorRead
namespace Go.Proofs.YtlickpalbfhjoaaDoor
open Go.RowKit

theorem star_err : "*" ++ "errors.errorString" = "*errors.errorString" := by decide
theorem row_err (u : TypeId) (h : Tryd.prog.typeName? 3 u = some "*errors.errorString") : u = 118 :=
  typeName_ptr_named (nm := "errors.errorString") (by rw [star_err]; kernel_rfl) (by kernel_rfl) (by decide) u (by rw [star_err]; exact h)
/-- The two errors, as the rows list them behind the three tables. -/
theorem errs_of {rest : List (String × DataW Unit)} {W : World}
    (h : laidMet Tryd.prog (("math/bits.deBruijn32tab", Rows.laid_math_bits_deBruijn32tab) :: ("math/bits.deBruijn64tab", Rows.laid_math_bits_deBruijn64tab) :: ("internal/strconv.uint64pow10", Rows.laid_internal_strconv_uint64pow10) :: ("strconv.ErrRange", Rows.laid_strconv_ErrRange) :: ("strconv.ErrSyntax", Rows.laid_strconv_ErrSyntax) :: rest) W) : Errs W := by
  have h2 := h.tail.tail.tail
  obtain ⟨a0, s0, hv0, -, -, -⟩ := laid_sentinel h2 gRan (show (Tryd.prog.globals[2]?).map (·.type) = some 68 by kernel_rfl) Tryd.underlying68 row_err Tryd.underlying118 Tryd.underlying120 rfl rfl Tryd.underlying9 (by kernel_rfl) (by kernel_rfl)
  obtain ⟨a1, s1, hv1, -, -, -⟩ := laid_sentinel h2.tail gSyn (show (Tryd.prog.globals[1]?).map (·.type) = some 68 by kernel_rfl) Tryd.underlying68 row_err Tryd.underlying118 Tryd.underlying120 rfl rfl Tryd.underlying9 (by kernel_rfl) (by kernel_rfl)
  exact ⟨⟨_, _, hv1⟩, ⟨_, _, hv0⟩⟩
end Go.Proofs.YtlickpalbfhjoaaDoor
