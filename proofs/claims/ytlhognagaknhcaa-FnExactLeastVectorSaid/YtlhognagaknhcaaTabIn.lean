/- Tables whose rows are as long as there are rows, each number within bounds. -/
import Derived.Test.YtlhognagaknhcaaMem2
import Derived.Test.YtlhognagaknhcaaL1In
namespace Go.Proofs.Ytlhognagaknhcaa
open Go.RowKit
set_option linter.all false
def allIn (lo hi : Int) (xs : List Int) : Bool := xs.all (fun x => inR x lo hi)
def tabIn (n : Nat) (lo hi : Int) (xss : List (List Int)) : Bool := xss.all (fun r => decide (r.length = n) && allIn lo hi r)
def isMat (xss : List (List Int)) : Bool := tabIn xss.length 0 1000000 xss && inR xss.length 1 9

theorem allIn_step {lo hi : Int} {xs : List Int} {k : Nat} {x : Int} {b : Bool} (hk : xs[k]? = some x) (h : allIn lo hi (xs.drop k) = b) :
    (inR x lo hi = true → allIn lo hi (xs.drop (k + 1)) = b) ∧ (inR x lo hi = false → b = false) := by
  rw [drop_of_get hk] at h
  generalize List.drop (k + 1) xs = r at *
  constructor
  · intro e; simpa [allIn, e] using h
  · intro e; simpa [allIn, e] using h.symm

theorem tabIn_step {n : Nat} {lo hi : Int} {xss : List (List Int)} {k : Nat} {r : List Int} {b : Bool} (hk : xss[k]? = some r) (h : tabIn n lo hi (xss.drop k) = b) :
    (r.length ≠ n → b = false) ∧ (allIn lo hi r = false → b = false) ∧ (r.length = n → allIn lo hi r = true → tabIn n lo hi (xss.drop (k + 1)) = b) := by
  rw [drop_of_get hk] at h
  generalize List.drop (k + 1) xss = q at *
  refine ⟨fun e => ?_, fun e => ?_, fun e1 e2 => ?_⟩
  · simpa [tabIn, e] using h.symm
  · simpa [tabIn, e] using h.symm
  · simpa [tabIn, e1, e2] using h

theorem allIn_get {lo hi : Int} {xs : List Int} (h : allIn lo hi xs = true) {k : Nat} {x : Int} (hk : xs[k]? = some x) : lo ≤ x ∧ x ≤ hi := by
  simp only [allIn, List.all_eq_true] at h
  exact inR_true (h x (List.mem_of_getElem? hk))
theorem tabIn_get {n : Nat} {lo hi : Int} {xss : List (List Int)} (h : tabIn n lo hi xss = true) {k : Nat} {r : List Int} (hk : xss[k]? = some r) : r.length = n ∧ allIn lo hi r = true := by
  simp only [tabIn, List.all_eq_true] at h
  simpa using h r (List.mem_of_getElem? hk)
theorem isMat_len {xss : List (List Int)} (h : isMat xss = true) : 1 ≤ xss.length ∧ xss.length ≤ 9 := by
  simp only [isMat, Bool.and_eq_true] at h
  have := inR_true h.2
  omega
theorem isMat_row {xss : List (List Int)} (h : isMat xss = true) {k : Nat} {r : List Int} (hk : xss[k]? = some r) : r.length = xss.length ∧ allIn 0 1000000 r = true := by
  simp only [isMat, Bool.and_eq_true] at h
  exact tabIn_get h.1 hk
end Go.Proofs.Ytlhognagaknhcaa
