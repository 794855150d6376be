/- Words that keep bounds. -/
import Derived.Test.YtnoghnalopdflaaDoorLensT
namespace Go.Proofs.YtnoghnalopdflaaDoor
open Go.RowKit
set_option linter.all false
def kpBad (d k : Int) (len i : Nat) (x : Int) : Bool := decide (k < x) || (decide (0 < i) && (decide (i + 1 < len) && decide (x < d)))
def kpF (d k : Int) (len : Nat) : Nat → List Int → Bool
  | _, [] => true
  | i, x :: r => !kpBad d k len i x && kpF d k len (i + 1) r
def keepsL (d k : Int) (xs : List Int) : Bool := kpF d k xs.length 0 xs
def keepsB (d k : Int) (s : ByteArray) : Bool := fitsR d k && (isWd 2 s && keepsL d k (lens s))
theorem kp_step {d k x : Int} {len i : Nat} {xs : List Int} {b : Bool} (hx : xs[i]? = some x) (h : kpF d k len i (xs.drop i) = b) :
    (kpBad d k len i x = true → b = false) ∧ (kpBad d k len i x = false → kpF d k len (i + 1) (xs.drop (i + 1)) = b) := by
  rw [drop_of_get hx] at h
  generalize List.drop (i + 1) xs = r at *
  constructor
  · intro e; simpa [kpF, e] using h.symm
  · intro e; simpa [kpF, e] using h
theorem kp_end {d k : Int} {len i : Nat} {xs : List Int} {b : Bool} (hi : xs.length ≤ i) (h : kpF d k len i (xs.drop i) = b) : b = true := by
  rw [drop_all xs i hi] at h
  exact h.symm
end Go.Proofs.YtnoghnalopdflaaDoor
