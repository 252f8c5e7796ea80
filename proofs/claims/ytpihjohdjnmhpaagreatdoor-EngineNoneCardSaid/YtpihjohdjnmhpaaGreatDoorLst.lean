/-
  THE VARIABLES THAT THE ROW LISTS, as one list; no statement. Conditions: none.
-/
import Derived.Test.YtpihjohdjnmhpaaGreatDoorRows
import Derived.LaidByTextLater
namespace Go.Proofs.YtpihjohdjnmhpaaGreatDoor
open Go
abbrev lst : List (String × DataW Unit) := [("internal/strconv.uint64pow10", Rows.laid_internal_strconv_uint64pow10), ("math/bits.deBruijn32tab", Rows.laid_math_bits_deBruijn32tab), ("math/bits.deBruijn64tab", Rows.laid_math_bits_deBruijn64tab), ("strconv.ErrSyntax", Rows.laid_strconv_ErrSyntax), ("strconv.ErrRange", Rows.laid_strconv_ErrRange), ("errors.errorType", Rows.laid_errors_errorType)]
end Go.Proofs.YtpihjohdjnmhpaaGreatDoor
