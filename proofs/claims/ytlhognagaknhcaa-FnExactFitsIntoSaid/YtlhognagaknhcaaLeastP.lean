/- The number of closed paths that are no shorter one, repeated. -/
import Derived.Test.YtlhognagaknhcaaMoebius
import Derived.Test.YtlhognagaknhcaaClosed
namespace Go.Proofs.Ytlhognagaknhcaa
open Go.RowKit
set_option linter.all false
def lpLoop (m : List (List Int)) (n : Nat) : Nat → Nat → Int → Int
  | 0, _, s => s
  | f + 1, d, s => lpLoop m n f (d + 1) (if n % d = 0 then wrap64 (s + wrap64 (moeb ((n : Int) / (d : Int)) * closed m d)) else s)
def lp (m : List (List Int)) (n : Int) : Int := if 12 < n then -1 else if closed m n < 0 then -1 else lpLoop m n.toNat n.toNat 1 0
theorem lp_step {m : List (List Int)} {n d : Nat} {s R : Int} (hd : d ≤ n) (h : Hid (lpLoop m n (n + 1 - d) d s = R)) :
    (n % d = 0 → Hid (lpLoop m n (n + 1 - (d + 1)) (d + 1) (wrap64 (s + wrap64 (moeb ((n : Int) / (d : Int)) * closed m d))) = R)) ∧ (n % d ≠ 0 → Hid (lpLoop m n (n + 1 - (d + 1)) (d + 1) s = R)) := by
  have h := h.out
  rw [show n + 1 - d = (n + 1 - (d + 1)) + 1 by omega] at h
  simp only [lpLoop] at h
  constructor
  · intro e; rw [if_pos e] at h; exact h
  · intro e; rw [if_neg e] at h; exact h
theorem closed_range {m : List (List Int)} {n : Int} (h : ¬ closed m n < 0) : 1 ≤ n ∧ n ≤ 30 := by
  cases h1 : inR n 1 30
  · rw [closed_n h1] at h; omega
  · exact inR_true h1
end Go.Proofs.Ytlhognagaknhcaa
