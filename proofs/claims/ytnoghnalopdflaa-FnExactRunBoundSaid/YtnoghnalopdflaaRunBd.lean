/- The growth of words that keep bounds. -/
import Derived.Test.YtnoghnalopdflaaRunMatT
import Derived.Test.YtnoghnalopdflaaGrowT
namespace Go.Proofs.Ytnoghnalopdflaa
open Go.RowKit
set_option linter.all false
def runBound (d k : Int) : Int := if runMO d k && !decide (3 < k) then floorG (runMV d k) 100 else -1
end Go.Proofs.Ytnoghnalopdflaa
