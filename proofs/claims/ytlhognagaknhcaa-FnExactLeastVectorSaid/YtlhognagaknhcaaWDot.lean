/- Products of two lists, summed as the program sums them. -/
import Derived.Test.YtlhognagaknhcaaMem2
namespace Go.Proofs.Ytlhognagaknhcaa
open Go.RowKit
set_option linter.all false
def wdot : Int → List Int → List Int → Int
  | a, x :: r, y :: v => wdot (wrap64 (a + wrap64 (x * y))) r v
  | a, _, _ => a
theorem wdot_step {r v : List Int} {j : Nat} {x y a b : Int} (hx : r[j]? = some x) (hy : v[j]? = some y) (h : wdot a (r.drop j) (v.drop j) = b) :
    wdot (wrap64 (a + wrap64 (x * y))) (r.drop (j + 1)) (v.drop (j + 1)) = b := by
  rw [drop_of_get hx, drop_of_get hy] at h
  exact h
theorem wdot_end {r v : List Int} {j : Nat} {a b : Int} (hx : r.length ≤ j) (h : wdot a (r.drop j) (v.drop j) = b) : a = b := by
  rw [drop_all r j hx] at h
  exact h
end Go.Proofs.Ytlhognagaknhcaa
