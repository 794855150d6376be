/- The greatest vector for the least number for which there is one. -/
import Derived.Test.YtlhognagaknhcaaGreatV
namespace Go.Proofs.Ytlhognagaknhcaa
open Go.RowKit
set_option linter.all false
def leastFrom (m : List (List Int)) (a : Int) : Nat → Nat → Option (List Int)
  | 0, _ => none
  | f + 1, b => if great m a (b : Int) then some (greatV m a (b : Int)) else leastFrom m a f (b + 1)
def leastO (m : List (List Int)) (a : Int) : Option (List Int) := leastFrom m a 9 1
def least (m : List (List Int)) (a : Int) : Bool := (leastO m a).isSome
def leastV (m : List (List Int)) (a : Int) : List Int := (leastO m a).getD []
theorem least_at {m : List (List Int)} {a : Int} {k : Nat} (hk : k ≤ 9) (h : Hid (leastFrom m a (10 - k) k = leastO m a)) (hg : great m a (k : Int) = true) : least m a = true ∧ leastV m a = greatV m a (k : Int) := by
  have e : 10 - k = (9 - k) + 1 := by omega
  have h := h.out
  rw [e] at h
  simp only [leastFrom, hg, if_true] at h
  simp [least, leastV, ← h]
theorem least_next {m : List (List Int)} {a : Int} {k : Nat} (hk : k ≤ 9) (h : Hid (leastFrom m a (10 - k) k = leastO m a)) (hg : great m a (k : Int) = false) : Hid (leastFrom m a (10 - (k + 1)) (k + 1) = leastO m a) := by
  have e : 10 - k = (10 - (k + 1)) + 1 := by omega
  have h := h.out
  rw [e] at h
  simp only [leastFrom, hg] at h
  exact h
theorem least_end {m : List (List Int)} {a : Int} {k : Nat} (hk : k = 10) (h : Hid (leastFrom m a (10 - k) k = leastO m a)) : least m a = false ∧ leastV m a = [] := by
  subst hk
  have h := h.out
  simp [leastFrom] at h
  simp [least, leastV, ← h]
end Go.Proofs.Ytlhognagaknhcaa
