/- The numbers of closed paths that are no shorter ones, row by row. -/
import Derived.Test.YtlhognagaknhcaaLeastP
namespace Go.Proofs.Ytlhognagaknhcaa
open Go.RowKit
set_option linter.all false
def orbL (m : List (List Int)) : Nat → Nat → List Int → List Int
  | 0, _, acc => acc
  | c + 1, k, acc => if lp m k < 0 then [] else orbL m c (k + 1) (acc ++ [lp m k])
def orbV (m : List (List Int)) (n : Int) : List Int := if inR n 1 10 then orbL m n.toNat 1 [] else []
theorem orbL_len (m : List (List Int)) : ∀ (c k : Nat) (acc : List Int), orbL m c k acc = [] ∨ (orbL m c k acc).length = acc.length + c
  | 0, _, acc => .inr rfl
  | c + 1, k, acc => by
    unfold orbL
    split
    · exact .inl rfl
    · rcases orbL_len m c (k + 1) (acc ++ [lp m k]) with h | h
      · exact .inl h
      · right; rw [h]; simp; omega
theorem orbV_len (m : List (List Int)) (n : Int) : orbV m n = [] ∨ (orbV m n).length = n.toNat := by
  unfold orbV
  split
  · have := orbL_len m n.toNat 1 []
    simpa using this
  · exact .inl rfl
theorem orb_step {m : List (List Int)} {n k : Nat} {ys R : List Int} (hk : k ≤ n) (h : Hid (orbL m (n + 1 - k) k ys = R)) : (lp m k < 0 → R = []) ∧ (¬ lp m k < 0 → Hid (orbL m (n + 1 - (k + 1)) (k + 1) (ys ++ [lp m k]) = R)) := by
  have h := h.out
  rw [show n + 1 - k = (n + 1 - (k + 1)) + 1 by omega] at h
  simp only [orbL] at h
  constructor
  · intro e; rw [if_pos e] at h; exact h.symm
  · intro e; rw [if_neg e] at h; exact h
def fitL : List Int → List Int → Bool
  | x :: xs, y :: ys => if y < x then false else fitL xs ys
  | _, _ => true
def fits (a b : List (List Int)) (n : Int) : Bool := fitL (orbV a n) (orbV b n) && (decide (0 < (orbV a n).length) && decide (0 < (orbV b n).length))
theorem fitL_step {xs ys : List Int} {k : Nat} {x y : Int} {R : Bool} (hx : xs[k]? = some x) (hy : ys[k]? = some y) (h : fitL (xs.drop k) (ys.drop k) = R) : (y < x → R = false) ∧ (¬ y < x → fitL (xs.drop (k + 1)) (ys.drop (k + 1)) = R) := by
  rw [drop_of_get hx, drop_of_get hy] at h
  simp only [fitL] at h
  constructor
  · intro e; rw [if_pos e] at h; exact h.symm
  · intro e; rw [if_neg e] at h; exact h
theorem fitL_end {xs ys : List Int} {k : Nat} {R : Bool} (hk : xs.length ≤ k ∨ ys.length ≤ k) (h : fitL (xs.drop k) (ys.drop k) = R) : R = true := by
  rcases hk with hk | hk
  · rw [drop_all xs k hk] at h; simpa [fitL] using h.symm
  · rw [drop_all ys k hk] at h
    cases hx : xs.drop k <;> rw [hx] at h <;> simpa [fitL] using h.symm
def fgI : Nat → List Int → List Int → Int
  | k, x :: xs, y :: ys => if y < x then (k : Int) else fgI (k + 1) xs ys
  | _, _, _ => -1
theorem fgI_neg : ∀ (xs ys : List Int) (k : Nat), decide (fgI k xs ys < 0) = fitL xs ys
  | [], ys, k => by cases ys <;> rfl
  | x :: xs, [], k => rfl
  | x :: xs, y :: ys, k => by
    unfold fgI fitL
    split
    · have : ¬ ((k : Int) < 0) := by omega
      simp [this]
    · exact fgI_neg xs ys (k + 1)
theorem fgI_step {xs ys : List Int} {k : Nat} {x y R : Int} (hx : xs[k]? = some x) (hy : ys[k]? = some y) (h : fgI k (xs.drop k) (ys.drop k) = R) : (y < x → R = (k : Int)) ∧ (¬ y < x → fgI (k + 1) (xs.drop (k + 1)) (ys.drop (k + 1)) = R) := by
  rw [drop_of_get hx, drop_of_get hy] at h
  simp only [fgI] at h
  constructor
  · intro e; rw [if_pos e] at h; exact h.symm
  · intro e; rw [if_neg e] at h; exact h
theorem fgI_end {xs ys : List Int} {k : Nat} {R : Int} (hk : xs.length ≤ k) (h : fgI k (xs.drop k) (ys.drop k) = R) : R = -1 := by
  rw [drop_all xs k hk] at h
  simpa [fgI] using h.symm
end Go.Proofs.Ytlhognagaknhcaa
