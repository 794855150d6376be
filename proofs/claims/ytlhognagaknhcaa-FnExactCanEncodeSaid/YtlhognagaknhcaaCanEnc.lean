/- Bits can be encoded: the power of the small matrix has a vector. -/
import Derived.Test.YtlhognagaknhcaaLeast
import Derived.Test.YtlhognagaknhcaaPowM
import Derived.Test.YtlhognagaknhcaaSmallM
namespace Go.Proofs.Ytlhognagaknhcaa
open Go.RowKit
set_option linter.all false
def canEnc (m : List (List Int)) (p q : Int) : Bool :=
  isSmallM m && (inR p 1 3 && (inR q 1 4 && match powM m q with
    | none => false
    | some t => least t (2 ^ p.toNat)))
theorem canEnc_none {m : List (List Int)} {p q : Int} (h : powM m q = none) : canEnc m p q = false := by simp [canEnc, h]
theorem canEnc_some {m t : List (List Int)} {p q : Int} (h1 : isSmallM m = true) (h2 : inR p 1 3 = true) (h3 : inR q 1 4 = true) (h : powM m q = some t) : canEnc m p q = least t (2 ^ p.toNat) := by simp [canEnc, h, h1, h2, h3]
end Go.Proofs.Ytlhognagaknhcaa
