/- When a list of numbers is a vector. -/
import Derived.Test.YtlhognagaknhcaaBase
import Derived.Test.YtlhognagaknhcaaSVectorSum
import Derived.Test.YtlhognagaknhcaaSums
namespace Go.Proofs.Ytlhognagaknhcaa
open Go.RowKit
set_option linter.all false
def vrows (a : Int) (v : List Int) : List (List Int) → List Int → Bool
  | r :: rs, y :: ys => !decide (wdot 0 r v < wrap64 (a * y)) && vrows a v rs ys
  | _, _ => true
def isVec (m : List (List Int)) (a : Int) (v : List Int) : Bool := isGraph m && (inR a 1 9 && (decide (v.length = m.length) && (all9 v && (!(vsum v == 0) && vrows a v m v))))
theorem vrows_step {a : Int} {v : List Int} {m : List (List Int)} {k : Nat} {r : List Int} {y : Int} {b : Bool} (hr : m[k]? = some r) (hy : v[k]? = some y) (h : vrows a v (m.drop k) (v.drop k) = b) :
    (wdot 0 r v < wrap64 (a * y) → b = false) ∧ (¬ wdot 0 r v < wrap64 (a * y) → vrows a v (m.drop (k + 1)) (v.drop (k + 1)) = b) := by
  rw [drop_of_get hr, drop_of_get hy] at h
  constructor
  · intro e; simpa [vrows, e] using h.symm
  · intro e
    have e' : decide (wdot 0 r v < wrap64 (a * y)) = false := by simpa using e
    simp only [vrows, e', Bool.not_false, Bool.true_and] at h
    exact h
theorem vrows_end {a : Int} {v : List Int} {m : List (List Int)} {k : Nat} {b : Bool} (hk : m.length ≤ k) (h : vrows a v (m.drop k) (v.drop k) = b) : b = true := by
  rw [drop_all m k hk] at h
  rw [← h]
  simp [vrows]
theorem vsum_small {v : List Int} (hl : v.length ≤ 9) : (vsum v < 1) ↔ (all9 v = false ∨ vsum v = 0) := by
  unfold vsum
  rw [if_neg (by omega)]
  cases h : all9 v
  · simp
  · have h1 : allIn 0 9 v = true := h
    have h2 := isum_row (by decide) (by decide) h1 (by omega)
    simp only [if_true, Bool.true_eq_false, false_or]
    omega
end Go.Proofs.Ytlhognagaknhcaa
