/- The arcs from a state; encoders. -/
import Derived.Test.YtobmljclokmbcaaLabT
namespace Go.Proofs.Ytobmljclokmbcaa
open Go.RowKit
set_option linter.all false
def ixFrom (p : Int) : Nat → List Ar → List Int
  | _, [] => []
  | k, x :: r => if x.1 = p then (k : Int) :: ixFrom p (k + 1) r else ixFrom p (k + 1) r
def fromL (p : Int) : List Ar → List Ar
  | [] => []
  | x :: r => if x.1 = p then x :: fromL p r else fromL p r
theorem ix_len (p : Int) : ∀ (xs : List Ar) (k : Nat), (ixFrom p k xs).length = (fromL p xs).length
  | [], _ => rfl
  | x :: r, k => by
    by_cases h : x.1 = p <;> simp [ixFrom, fromL, h, ix_len p r (k + 1)]
theorem fromL_le (p : Int) : ∀ (xs : List Ar), (fromL p xs).length ≤ xs.length
  | [] => Nat.le_refl _
  | x :: r => by
    have := fromL_le p r
    by_cases h : x.1 = p <;> simp [fromL, h] <;> omega
theorem ix_step {p : Int} {xs : List Ar} {k : Nat} {x : Ar} {acc R : List Int} (hx : xs[k]? = some x) (h : acc ++ ixFrom p k (xs.drop k) = R) :
    (x.1 = p → (acc ++ [(k : Int)]) ++ ixFrom p (k + 1) (xs.drop (k + 1)) = R) ∧ (x.1 ≠ p → acc ++ ixFrom p (k + 1) (xs.drop (k + 1)) = R) := by
  rw [drop_of_get hx] at h
  generalize List.drop (k + 1) xs = r at *
  constructor
  · intro e; simpa [ixFrom, e] using h
  · intro e; simpa [ixFrom, e] using h
theorem ix_end {p : Int} {xs : List Ar} {k : Nat} {acc R : List Int} (hk : xs.length ≤ k) (h : acc ++ ixFrom p k (xs.drop k) = R) : acc = R := by
  rw [drop_all xs k hk] at h
  simpa [ixFrom] using h
theorem fr_step {p : Int} {xs : List Ar} {k : Nat} {x : Ar} {acc R : List Ar} (hx : xs[k]? = some x) (h : acc ++ fromL p (xs.drop k) = R) :
    (x.1 = p → (acc ++ [x]) ++ fromL p (xs.drop (k + 1)) = R) ∧ (x.1 ≠ p → acc ++ fromL p (xs.drop (k + 1)) = R) := by
  rw [drop_of_get hx] at h
  generalize List.drop (k + 1) xs = r at *
  constructor
  · intro e; simpa [fromL, e] using h
  · intro e; simpa [fromL, e] using h
theorem fr_end {p : Int} {xs : List Ar} {k : Nat} {acc R : List Ar} (hk : xs.length ≤ k) (h : acc ++ fromL p (xs.drop k) = R) : acc = R := by
  rw [drop_all xs k hk] at h
  simpa [fromL] using h
/-- The index that stands at a place names the arc that stands there. -/
theorem ix_get (p : Int) : ∀ (xs : List Ar) (k i : Nat) (a : Ar), (fromL p xs)[i]? = some a → ∃ t : Nat, (ixFrom p k xs)[i]? = some ((k + t : Nat) : Int) ∧ xs[t]? = some a
  | [], _, _, _, h => by simp [fromL] at h
  | x :: r, k, i, a, h => by
    by_cases hx : x.1 = p
    · rw [fromL, if_pos hx] at h
      rw [ixFrom, if_pos hx]
      match i, h with
      | 0, h => simp at h; subst h; exact ⟨0, by simp, rfl⟩
      | i + 1, h =>
        obtain ⟨t, h1, h2⟩ := ix_get p r (k + 1) i a (by simpa using h)
        exact ⟨t + 1, by simpa [Nat.add_assoc, Nat.add_comm 1] using h1, by simpa using h2⟩
    · rw [fromL, if_neg hx] at h
      rw [ixFrom, if_neg hx]
      obtain ⟨t, h1, h2⟩ := ix_get p r (k + 1) i a h
      exact ⟨t + 1, by simpa [Nat.add_assoc, Nat.add_comm 1] using h1, by simpa using h2⟩
def differ (x : Ar) : Option Ar → Bool
  | none => true
  | some q => !(decide (q.1 = x.1) && decide (q.2.2 = x.2.2))
def resF : Option Ar → List Ar → Bool
  | _, [] => true
  | p, x :: r => differ x p && resF (some x) r
theorem res_step {xs : List Ar} {k : Nat} {x : Ar} {b : Bool} (hx : xs[k]? = some x) (h : resF (prevOf xs k) (xs.drop k) = b) :
    (differ x (prevOf xs k) = false → b = false) ∧ (differ x (prevOf xs k) = true → resF (prevOf xs (k + 1)) (xs.drop (k + 1)) = b) := by
  rw [drop_of_get hx] at h
  rw [prevOf_succ hx]
  generalize List.drop (k + 1) xs = r at *
  refine ⟨fun e => ?_, fun e => ?_⟩
  · simpa [resF, e] using h.symm
  · simpa [resF, e] using h
theorem res_end {xs : List Ar} {k : Nat} {b : Bool} (hk : xs.length ≤ k) (h : resF (prevOf xs k) (xs.drop k) = b) : b = true := by
  rw [drop_all xs k hk] at h
  exact h.symm
theorem res_one (xs : List Ar) : resF (prevOf xs 1) (xs.drop 1) = resF none xs := by
  cases xs with
  | nil => rfl
  | cons x r => simp [resF, prevOf, differ]
theorem differ_0 (xs : List Ar) (x : Ar) : differ x (prevOf xs 0) = true := rfl
theorem differ_S {xs : List Ar} {j : Nat} {q x : Ar} (h : xs[j]? = some q) : differ x (prevOf xs (j + 1)) = !(decide (q.1 = x.1) && decide (q.2.2 = x.2.2)) := by rw [prevOf_succ h]; rfl
def sumsL (S : Nat) (xs : List Ar) : List Int := (List.range S).map fun p => ((fromL (p : Nat) xs).length : Int)
theorem sumsL_len (S : Nat) (xs : List Ar) : (sumsL S xs).length = S := by simp [sumsL]
theorem sumsL_get {S p : Nat} {xs : List Ar} (h : p < S) : (sumsL S xs)[p]? = some ((fromL (p : Nat) xs).length : Int) := by simp [sumsL, h]
def stSums (L S : Int) (xs : List Ar) : List Int := if isLab L S xs then sumsL S.toNat xs else []
def isRes (L S : Int) (xs : List Ar) : Bool := isLab L S xs && resF none xs
def manyF (xs : List Ar) : Nat → Nat → Bool
  | _, 0 => true
  | p, m + 1 => decide (2 ≤ (fromL (p : Nat) xs).length) && manyF xs (p + 1) m
def isEnc (L S : Int) (xs : List Ar) : Bool := isRes L S xs && manyF xs 0 S.toNat
theorem many_step {xs : List Ar} {p m : Nat} {b : Bool} (h : manyF xs p (m + 1) = b) : (¬ 2 ≤ (fromL (p : Nat) xs).length → b = false) ∧ (2 ≤ (fromL (p : Nat) xs).length → manyF xs (p + 1) m = b) := by
  constructor
  · intro e; simpa [manyF, e] using h.symm
  · intro e; simpa [manyF, e] using h
theorem many_get {xs : List Ar} : ∀ {m p q : Nat}, manyF xs p m = true → p ≤ q → q < p + m → 2 ≤ (fromL (q : Nat) xs).length
  | 0, p, q, _, h1, h2 => by omega
  | m + 1, p, q, h, h1, h2 => by
    simp only [manyF, Bool.and_eq_true, decide_eq_true_eq] at h
    by_cases e : p = q
    · subst e; exact h.1
    · exact many_get h.2 (by omega) (by omega)
theorem isEnc_get {L S : Int} {xs : List Ar} (h : isEnc L S xs = true) : isLab L S xs = true ∧ resF none xs = true ∧ ∀ q : Nat, (q : Int) < S → 2 ≤ (fromL (q : Nat) xs).length := by
  simp only [isEnc, isRes, Bool.and_eq_true] at h
  exact ⟨h.1.1, h.1.2, fun q hq => many_get h.2 (Nat.zero_le _) (by omega)⟩
end Go.Proofs.Ytobmljclokmbcaa
