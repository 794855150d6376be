/- Resting numbers times chances are the same in both directions. -/
import Derived.Test.YtjkpndhfdlnpdaaResting
namespace Go.Proofs.Ytjkpndhfdlnpdaa
open Go.RowKit
set_option linter.all false
def bwI (t : List (List Int)) (r : List Int) (i : Nat) : Nat → Nat → Bool
  | 0, _ => true
  | c + 1, j => if r.getD i 0 * en t i j = r.getD j 0 * en t j i then bwI t r i c (j + 1) else false
def bwA (t : List (List Int)) (r : List Int) (n : Nat) : Nat → Nat → Bool
  | 0, _ => true
  | c + 1, i => if bwI t r i n 0 = true then bwA t r n c (i + 1) else false
def bothB (t : List (List Int)) : Bool := restOk t && bwA t (restV t) t.length t.length 0
theorem bwI_step {t : List (List Int)} {r : List Int} {n i j : Nat} {R : Bool} (hj : j < n) (h : bwI t r i (n - j) j = R) :
    (r.getD i 0 * en t i j = r.getD j 0 * en t j i → bwI t r i (n - (j + 1)) (j + 1) = R) ∧ (r.getD i 0 * en t i j ≠ r.getD j 0 * en t j i → R = false) := by
  rw [show n - j = (n - (j + 1)) + 1 by omega] at h
  simp only [bwI] at h
  constructor
  · intro e; rw [if_pos e] at h; exact h
  · intro e; rw [if_neg e] at h; exact h.symm
theorem bwA_step {t : List (List Int)} {r : List Int} {n i : Nat} {R : Bool} (hi : i < n) (h : bwA t r n (n - i) i = R) :
    (bwI t r i (n - 0) 0 = true → bwA t r n (n - (i + 1)) (i + 1) = R) ∧ (bwI t r i (n - 0) 0 = false → R = false) := by
  rw [show n - i = (n - (i + 1)) + 1 by omega] at h
  simp only [bwA] at h
  constructor
  · intro e; rw [if_pos (show bwI t r i n 0 = true from e)] at h; exact h
  · intro e; rw [if_neg (by rw [show bwI t r i n 0 = false from e]; simp)] at h; exact h.symm
theorem prod_ok {a x : Int} (ha : 0 ≤ a ∧ a ≤ 4000000) (hx : 0 ≤ x ∧ x ≤ 60) : IntKind.i64.wrap (a * x) = a * x := by
  have h1 : 0 ≤ a * x := Int.mul_nonneg ha.1 hx.1
  have h2 : a * x ≤ 4000000 * 60 := Int.mul_le_mul ha.2 hx.2 hx.1 (by omega)
  exact IntWalk.i64_in _ (by omega)
theorem en_get {m : List (List Int)} {i j : Nat} {r : List Int} {x : Int} (hr : m[i]? = some r) (hx : r[j]? = some x) : en m i j = x := by simp [en, List.getD, hr, hx]
end Go.Proofs.Ytjkpndhfdlnpdaa
