/- The lesser of two numbers. -/
import Derived.Test.YtjkpndhfdlnpdaaBase
namespace Go.Proofs.Ytjkpndhfdlnpdaa
open Go.RowKit
set_option linter.all false
def mn (x y : Int) : Int := if x < y then x else y
end Go.Proofs.Ytjkpndhfdlnpdaa
