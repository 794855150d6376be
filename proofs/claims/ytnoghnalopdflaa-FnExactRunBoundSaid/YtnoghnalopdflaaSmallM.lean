/- Small matrices. -/
import Derived.Test.YtnoghnalopdflaaBase
namespace Go.Proofs.Ytnoghnalopdflaa
open Go.RowKit
set_option linter.all false
def le9 (r : List Int) : Bool := r.all (fun x => !decide (9 < x))
def le9T (xss : List (List Int)) : Bool := xss.all le9
def isSmallM (xss : List (List Int)) : Bool := isMat xss && (!decide (4 < xss.length) && le9T xss)
theorem le9_step {r : List Int} {k : Nat} {x : Int} {b : Bool} (hk : r[k]? = some x) (h : le9 (r.drop k) = b) : (9 < x → b = false) ∧ (¬ 9 < x → le9 (r.drop (k + 1)) = b) := by
  rw [drop_of_get hk] at h
  generalize List.drop (k + 1) r = q at *
  constructor
  · intro e; simpa [le9, e] using h.symm
  · intro e
    have e' : decide (9 < x) = false := by simpa using e
    simpa [le9, e'] using h
theorem le9T_step {xss : List (List Int)} {k : Nat} {r : List Int} {b : Bool} (hk : xss[k]? = some r) (h : le9T (xss.drop k) = b) : (le9 r = false → b = false) ∧ (le9 r = true → le9T (xss.drop (k + 1)) = b) := by
  rw [drop_of_get hk] at h
  generalize List.drop (k + 1) xss = q at *
  constructor
  · intro e; simpa [le9T, e] using h.symm
  · intro e; simpa [le9T, e] using h
theorem isSmallM_mat {xss : List (List Int)} (h : isSmallM xss = true) : isMat xss = true ∧ xss.length ≤ 4 ∧ 1 ≤ xss.length := by
  simp only [isSmallM, Bool.and_eq_true] at h
  have h1 : ¬ 4 < xss.length := by simpa using h.2.1
  exact ⟨h.1, by omega, (isMat_len h.1).1⟩
theorem isSmallM_get {xss : List (List Int)} (h : isSmallM xss = true) {k j : Nat} {r : List Int} {x : Int} (hk : xss[k]? = some r) (hj : r[j]? = some x) : 0 ≤ x ∧ x ≤ 9 := by
  have h0 := isSmallM_mat h
  have h1 := allIn_get (isMat_row h0.1 hk).2 hj
  simp only [isSmallM, Bool.and_eq_true, le9T, List.all_eq_true, le9] at h
  have h2 := h.2.2 r (List.mem_of_getElem? hk) x (List.mem_of_getElem? hj)
  have h3 : ¬ 9 < x := by simpa using h2
  omega
end Go.Proofs.Ytnoghnalopdflaa
