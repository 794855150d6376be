/- The labelled graph of words that keep bounds. -/
import Derived.Test.YtnoghnalopdflaaArcPush
import Derived.Test.YtnoghnalopdflaaRunFits
import Derived.Test.YtnoghnalopdflaaIRunFits
namespace Go.Proofs.Ytnoghnalopdflaa
open Go.RowKit
set_option linter.all false
def runA (d k : Nat) : Nat → List Ar
  | 0 => []
  | n + 1 => runA d k n ++ ((if n < k then [((n : Int), (n : Int) + 1, 0)] else []) ++ (if d ≤ n then [((n : Int), 0, 1)] else []))
def runX (d k : Int) : List Ar := if fitsR d k then runA d.toNat k.toNat (k.toNat + 1) else []
def runS (d k : Int) : Int := if fitsR d k then k + 1 else 0
def runL (d k : Int) : Int := if fitsR d k then 2 else 0
theorem runA_len (d k : Nat) : ∀ n, (runA d k n).length ≤ 2 * n
  | 0 => Nat.le_refl _
  | n + 1 => by
    have := runA_len d k n
    simp only [runA, List.length_append]
    by_cases h1 : n < k <;> by_cases h2 : d ≤ n <;> simp [h1, h2] <;> omega
theorem runA_two {d k n : Nat} (h1 : n < k) (h2 : d ≤ n) : runA d k (n + 1) = (runA d k n ++ [((n : Int), (n : Int) + 1, 0)]) ++ [((n : Int), 0, 1)] := by simp [runA, h1, h2]
theorem runA_one {d k n : Nat} (h1 : n < k) (h2 : ¬ d ≤ n) : runA d k (n + 1) = runA d k n ++ [((n : Int), (n : Int) + 1, 0)] := by simp [runA, h1, h2]
theorem runA_last {d k n : Nat} (h1 : ¬ n < k) (h2 : d ≤ n) : runA d k (n + 1) = runA d k n ++ [((n : Int), 0, 1)] := by simp [runA, h1, h2]
end Go.Proofs.Ytnoghnalopdflaa
