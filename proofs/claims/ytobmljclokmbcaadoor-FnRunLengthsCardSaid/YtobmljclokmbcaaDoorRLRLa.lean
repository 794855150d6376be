/- RLa: a part of the proofs of this seat. -/
import Derived.Test.YtobmljclokmbcaaDoorRLG2
namespace Go.Proofs.YtobmljclokmbcaaDoor
open Go.RowKit
set_option linter.all false
theorem chk_0 : chkK 0 = true := by decide +kernel
theorem chk_1 : chkK 1 = true := by decide +kernel
theorem chk_2 : chkK 2 = true := by decide +kernel
theorem chk_3 : chkK 3 = true := by decide +kernel
end Go.Proofs.YtobmljclokmbcaaDoor
