/- Tables for Smith's form: square, of 1 to 4 rows, numbers from -100 to 100. -/
import Derived.Test.YtlhognagaknhcaaBase
namespace Go.Proofs.Ytlhognagaknhcaa
open Go.RowKit
set_option linter.all false
def smith (xss : List (List Int)) : Bool := tabIn xss.length (-100) 100 xss && inR xss.length 1 4
def square (L : Int) (xss : List (List Int)) : Bool := decide (xss.length ≤ 4) && tabIn xss.length (-L) L xss
theorem smith_len {xss : List (List Int)} (h : smith xss = true) : 1 ≤ xss.length ∧ xss.length ≤ 4 := by
  simp only [smith, Bool.and_eq_true] at h
  have := inR_true h.2
  omega
theorem smith_row {xss : List (List Int)} (h : smith xss = true) {k : Nat} {r : List Int} (hk : xss[k]? = some r) : r.length = xss.length ∧ allIn (-100) 100 r = true := by
  simp only [smith, Bool.and_eq_true] at h
  exact tabIn_get h.1 hk
theorem smith_square (xss : List (List Int)) : smith xss = (decide (0 < xss.length) && square 100 xss) := by
  unfold smith square
  by_cases h0 : 0 < xss.length
  · by_cases h4 : xss.length ≤ 4
    · rw [inR_mk ⟨by omega, by omega⟩]; simp [h0, h4]
    · rw [inR_no (.inr (by omega))]; simp [h4]
  · rw [inR_no (.inl (by omega))]; simp [h0]
end Go.Proofs.Ytlhognagaknhcaa
