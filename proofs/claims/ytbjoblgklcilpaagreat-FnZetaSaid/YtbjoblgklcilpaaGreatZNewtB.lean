/- Four rows. -/
import Derived.Test.YtbjoblgklcilpaaGreatZG1a
namespace Go.Proofs.YtbjoblgklcilpaaGreat
open Go.RowKit
set_option linter.all false
set_option maxHeartbeats 4000000 in
theorem ch4 (A : Nat → Nat → Int) (j l : Nat) (hj : j < 4) (hl : l < 4) : TT 4 j A 4 l - (A 0 0 + A 1 1 + A 2 2 + A 3 3) * TT 4 j A 3 l + (D2f A 0 1 + D2f A 0 2 + D2f A 0 3 + D2f A 1 2 + D2f A 1 3 + D2f A 2 3) * TT 4 j A 2 l - (D3f A 0 1 2 + D3f A 0 1 3 + D3f A 0 2 3 + D3f A 1 2 3) * TT 4 j A 1 l + D4f A * TT 4 j A 0 l = 0 := by
  have hj : j = 0 ∨ j = 1 ∨ j = 2 ∨ j = 3 := by omega
  have hl : l = 0 ∨ l = 1 ∨ l = 2 ∨ l = 3 := by omega
  unfold D4f D3g D3f D2f
  rcases hj with rfl | rfl | rfl | rfl <;> rcases hl with rfl | rfl | rfl | rfl <;> simp [TT, Sm] <;> grind
end Go.Proofs.YtbjoblgklcilpaaGreat
