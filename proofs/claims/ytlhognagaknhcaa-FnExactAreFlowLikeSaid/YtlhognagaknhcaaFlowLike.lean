/- Groups and signs are equal. -/
import Derived.Test.YtlhognagaknhcaaGroup
import Derived.Test.YtlhognagaknhcaaSSignOf
namespace Go.Proofs.Ytlhognagaknhcaa
open Go.RowKit
set_option linter.all false
def flowLike (a b : List (List Int)) : Bool := isSmallM a && (isSmallM b && (eqL (groupV a) (groupV b) && (signOf a == signOf b)))
end Go.Proofs.Ytlhognagaknhcaa
