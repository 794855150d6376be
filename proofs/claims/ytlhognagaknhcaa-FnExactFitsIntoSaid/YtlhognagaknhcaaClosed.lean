/- The number of closed paths of a length. -/
import Derived.Test.YtlhognagaknhcaaPowM
namespace Go.Proofs.Ytlhognagaknhcaa
open Go.RowKit
set_option linter.all false
def trc : Nat → Int → List (List Int) → Int
  | _, a, [] => a
  | k, a, r :: rs => trc (k + 1) (wrap64 (a + r.getD k 0)) rs
def closed (m : List (List Int)) (n : Int) : Int :=
  if inR n 1 30 then (match powM m n with
    | none => -1
    | some p => trc 0 0 p) else -1
theorem closed_n {m : List (List Int)} {n : Int} (h : inR n 1 30 = false) : closed m n = -1 := by simp [closed, h]
theorem closed_none {m : List (List Int)} {n : Int} (h : powM m n = none) : closed m n = -1 := by simp [closed, h]
theorem closed_some {m p : List (List Int)} {n : Int} (h1 : inR n 1 30 = true) (h : powM m n = some p) : closed m n = trc 0 0 p := by simp [closed, h, h1]
theorem trc_step {p : List (List Int)} {k : Nat} {a R x : Int} {r : List Int} (hk : p[k]? = some r) (hx : r[k]? = some x) (h : trc k a (p.drop k) = R) : trc (k + 1) (wrap64 (a + x)) (p.drop (k + 1)) = R := by
  rw [drop_of_get hk] at h
  simpa [trc, List.getD, hx] using h
end Go.Proofs.Ytlhognagaknhcaa
