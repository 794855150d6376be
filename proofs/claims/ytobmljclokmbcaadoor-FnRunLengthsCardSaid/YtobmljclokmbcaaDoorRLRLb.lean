/- RLb: a part of the proofs of this seat. -/
import Derived.Test.YtobmljclokmbcaaDoorRLG2
namespace Go.Proofs.YtobmljclokmbcaaDoor
open Go.RowKit
set_option linter.all false
theorem chk_4 : chkK 4 = true := by decide +kernel
theorem chk_5 : chkK 5 = true := by decide +kernel
end Go.Proofs.YtobmljclokmbcaaDoor
