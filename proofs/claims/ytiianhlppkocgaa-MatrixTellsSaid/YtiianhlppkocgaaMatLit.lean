/- Matrices that are written out; the numbers of the chapter's examples. -/
import Derived.Test.YtiianhlppkocgaaMatErrs
import Derived.Test.YtiianhlppkocgaaMatSquare
import Derived.Test.YtiianhlppkocgaaMatCauchy
import Derived.Test.YtiianhlppkocgaaLits
namespace Go.Proofs.Ytiianhlppkocgaa
open Go.RowKit

theorem awake_numbers : Gm.unit 2 = [[1, 0], [0, 1]] ∧ Gm.cauchy 1 2 = [[142, 244]] ∧ Gm.mulL [[1, 2]] [[3], [4]] = [[11]] ∧ Gm.invert [[1, 1], [1, 0]] = [[0, 1], [1, 1]] ∧ Gm.rank [[1, 1], [1, 0]] = 2 ∧ Gm.rank [[1, 1], [1, 1]] = 1 ∧ picked (Gm.unit 2) [1, 1] = [[0, 1], [0, 1]] := by
  refine ⟨?_, ?_, ?_, ?_, ?_, ?_, ?_⟩ <;> decide +kernel
end Go.Proofs.Ytiianhlppkocgaa
