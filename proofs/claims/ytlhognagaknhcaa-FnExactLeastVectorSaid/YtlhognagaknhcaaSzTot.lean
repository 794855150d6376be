/- SzTot: a part of the proofs of this seat. -/
import Derived.Test.YtlhognagaknhcaaSzIntSS
import Derived.Test.YtlhognagaknhcaaMarks
namespace Go.Proofs.Ytlhognagaknhcaa
open Go.RowKit
set_option linter.all false
theorem szl_tot : ∀ (xss : List (List Int)) (l : Int), 0 ≤ szl l xss → tot xss ≤ l
  | [], l, h => by simpa [szl, tot] using h
  | r :: rs, l, h => by
    unfold szl at h
    split at h
    · omega
    · have := szl_tot rs _ h
      rw [tot_cons]
      omega
theorem sz2_tot {xss : List (List Int)} {l : Int} (h : 0 ≤ sz2 xss l) : tot xss ≤ l := by
  unfold sz2 at h
  split at h
  · omega
  · have := szl_tot _ _ h
    omega
end Go.Proofs.Ytlhognagaknhcaa
