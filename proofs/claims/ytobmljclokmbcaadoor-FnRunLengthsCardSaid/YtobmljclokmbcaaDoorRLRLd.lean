/- RLd: a part of the proofs of this seat. -/
import Derived.Test.YtobmljclokmbcaaDoorRLG2
namespace Go.Proofs.YtobmljclokmbcaaDoor
open Go.RowKit
set_option linter.all false
theorem chk_7 : chkK 7 = true := by decide +kernel
end Go.Proofs.YtobmljclokmbcaaDoor
