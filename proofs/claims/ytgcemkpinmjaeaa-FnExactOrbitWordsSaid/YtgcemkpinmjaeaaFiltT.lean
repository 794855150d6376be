/- FiltT: a part of the proofs of this seat. -/
import Derived.Test.YtgcemkpinmjaeaaBase
namespace Go.Proofs.Ytgcemkpinmjaeaa
open Go.RowKit
set_option linter.all false
theorem filt_step {α : Type} {p : α → Bool} {L acc R : List α} {i : Nat} {x : α} (hx : L[i]? = some x) (h : acc ++ (L.drop i).filter p = R) :
    (p x = true → (acc ++ [x]) ++ (L.drop (i + 1)).filter p = R) ∧ (p x = false → acc ++ (L.drop (i + 1)).filter p = R) := by
  rw [drop_of_get hx, List.filter_cons] at h
  constructor
  · intro e; simpa [e] using h
  · intro e; simpa [e] using h
theorem filt_end {α : Type} {p : α → Bool} {L acc R : List α} {i : Nat} (hi : L.length ≤ i) (h : acc ++ (L.drop i).filter p = R) : acc = R := by
  rw [drop_all L i hi] at h
  simpa using h
end Go.Proofs.Ytgcemkpinmjaeaa
