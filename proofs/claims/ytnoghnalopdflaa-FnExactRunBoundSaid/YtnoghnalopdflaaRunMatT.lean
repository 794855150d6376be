/- RunMatT: a part of the proofs of this seat. -/
import Derived.Test.YtnoghnalopdflaaRunLab
import Derived.Test.YtnoghnalopdflaaMatT
namespace Go.Proofs.Ytnoghnalopdflaa
open Go.RowKit
set_option linter.all false
def runMV (d k : Int) : List (List Int) := matV (runL d k) (runS d k) (runX d k)
def runMO (d k : Int) : Bool := matOk (runL d k) (runS d k) (runX d k)
end Go.Proofs.Ytnoghnalopdflaa
