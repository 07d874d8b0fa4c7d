/- From the row's listed tables to what strconv's contracts ask; no conditions. -/
import Derived.Test.YtlickpalbfhjoaaDoorDec
import Derived.Test.YtlickpalbfhjoaaDoorTie
import Derived.Test.YtlickpalbfhjoaaDoorCards
import Derived.LaidMore
import Derived.Stop.LaidErr
import Derived.Stop.Joined
import Derived.SevenTiedAt
import Derived.LaidHandle
namespace Go.Proofs.YtlickpalbfhjoaaDoor
open Go.RowKit

/-- The three tables that strconv's text of a number names, as the rows list them. -/
theorem tab_of {rest : List (String × DataW Unit)} {W : World}
    (h : laidMet Tryd.prog (("math/bits.deBruijn32tab", Rows.laid_math_bits_deBruijn32tab) :: ("math/bits.deBruijn64tab", Rows.laid_math_bits_deBruijn64tab) :: ("internal/strconv.uint64pow10", Rows.laid_internal_strconv_uint64pow10) :: rest) W) : Tab W := by
  have h2 := h.tail.tail
  have e : (Rows.laid_internal_strconv_uint64pow10 : DataW Unit) = Lib.tabData .u64 Lib.pow10Tab := by kernel_rfl
  rw [e] at h2
  exact Lib.tabIs_of_head (g := 3) (t := 111) (e := 94) (n := 20) (by kernel_rfl) (by kernel_rfl) (by kernel_rfl) (by kernel_rfl) (by kernel_rfl) (by kernel_rfl) h2
end Go.Proofs.YtlickpalbfhjoaaDoor
