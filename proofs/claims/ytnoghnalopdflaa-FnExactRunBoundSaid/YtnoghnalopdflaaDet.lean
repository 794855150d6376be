/- The determinant by the first row, as both programs reckon it. -/
import Derived.Test.YtnoghnalopdflaaMinorT
namespace Go.Proofs.Ytnoghnalopdflaa
open Go.RowKit
set_option linter.all false
def dloop (D : List (List Int) → Int) (t : List (List Int)) : List Int → Nat → Int → Int → Int
  | [], _, s, _ => s
  | x :: xs, j, s, g => dloop D t xs (j + 1) (if x = 0 then s else wrap64 (s + wrap64 (wrap64 (g * x) * D (minorT t 0 j)))) (-g)
def det : Nat → List (List Int) → Int
  | 0, _ => 1
  | m + 1, t => dloop (det m) t (t.getD 0 []) 0 0 1
theorem dloop_zero {D : List (List Int) → Int} {t : List (List Int)} {r : List Int} {j : Nat} {s g b : Int} (hx : r[j]? = some 0) (h : dloop D t (r.drop j) j s g = b) : dloop D t (r.drop (j + 1)) (j + 1) s (-g) = b := by
  rw [drop_of_get hx] at h
  simpa only [dloop, if_true] using h
theorem dloop_step {D : List (List Int) → Int} {t : List (List Int)} {r : List Int} {j : Nat} {s g x b : Int} (hx : r[j]? = some x) (h0 : x ≠ 0) (h : dloop D t (r.drop j) j s g = b) :
    dloop D t (r.drop (j + 1)) (j + 1) (wrap64 (s + wrap64 (wrap64 (g * x) * D (minorT t 0 j)))) (-g) = b := by
  rw [drop_of_get hx] at h
  simpa only [dloop, if_neg h0] using h
theorem dloop_end {D : List (List Int) → Int} {t : List (List Int)} {r : List Int} {j : Nat} {s g b : Int} (hx : r.length ≤ j) (h : dloop D t (r.drop j) j s g = b) : s = b := by
  rw [drop_all r j hx] at h
  exact h
theorem wrap_i64_eq (n : Int) : IntKind.i64.wrap n = wrap64 n := by
  rw [IntKind.wrap_i64]; unfold wrap64; omega
end Go.Proofs.Ytnoghnalopdflaa
