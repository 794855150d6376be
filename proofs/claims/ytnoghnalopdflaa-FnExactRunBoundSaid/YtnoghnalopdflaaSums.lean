/- Sums of rows and of tables. -/
import Derived.Test.YtnoghnalopdflaaBase
import Derived.Test.YtnoghnalopdflaaTotal
namespace Go.Proofs.Ytnoghnalopdflaa
open Go.RowKit
set_option linter.all false
theorem wrap_add (a x : Int) : wrap64 (wrap64 a + x) = wrap64 (a + x) := by unfold wrap64; omega
theorem wrap_id {a : Int} (h : -9223372036854775808 ≤ a ∧ a ≤ 9223372036854775807) : wrap64 a = a := by unfold wrap64; omega
theorem isum_wrap : ∀ (r : List Int) (a : Int), isum (wrap64 a) r = wrap64 (a + r.sum)
  | [], a => by simp [isum]
  | x :: r, a => by
    show isum (wrap64 (wrap64 a + x)) r = _
    rw [wrap_add, isum_wrap r (a + x), List.sum_cons, Int.add_assoc]
theorem isum_zero (r : List Int) : isum 0 r = wrap64 r.sum := by
  have h := isum_wrap r 0
  rw [show wrap64 0 = 0 from by unfold wrap64; omega, Int.zero_add] at h
  exact h
theorem allIn_sum {hi : Int} (h0 : 0 ≤ hi) : ∀ (r : List Int), allIn 0 hi r = true → 0 ≤ r.sum ∧ r.sum ≤ hi * r.length
  | [], _ => by simp
  | x :: r, h => by
    simp only [allIn, List.all_cons, Bool.and_eq_true] at h
    have h1 := inR_true h.1
    have h2 := allIn_sum h0 r h.2
    simp only [List.sum_cons, List.length_cons]
    rw [Int.natCast_add, Int.mul_add]
    omega
theorem isum_row {hi : Int} {r : List Int} (h0 : 0 ≤ hi) (hh : hi ≤ 1000000) (h : allIn 0 hi r = true) (hl : r.length ≤ 1048576) : isum 0 r = r.sum ∧ 0 ≤ r.sum ∧ r.sum ≤ hi * r.length := by
  have hs := allIn_sum h0 r h
  have h2 : hi * r.length ≤ 1000000 * 1048576 := Int.mul_le_mul hh (by omega) (by omega) (by omega)
  rw [isum_zero]
  exact ⟨wrap_id ⟨by omega, by omega⟩, hs⟩

/-- The sum of all numbers. -/
def msum (xss : List (List Int)) : Int := (xss.map List.sum).sum
theorem msum_cons (r : List Int) (q : List (List Int)) : msum (r :: q) = r.sum + msum q := by simp [msum]
theorem msum_range {n : Nat} {hi : Int} (h0 : 0 ≤ hi) : ∀ (xss : List (List Int)), tabIn n 0 hi xss = true → 0 ≤ msum xss ∧ msum xss ≤ hi * n * xss.length
  | [], _ => by simp [msum]
  | r :: q, h => by
    simp only [tabIn, List.all_cons, Bool.and_eq_true, decide_eq_true_eq] at h
    have h1 := allIn_sum h0 r h.1.2
    have h2 := msum_range h0 q (by simpa [tabIn] using h.2)
    rw [msum_cons, List.length_cons, Int.natCast_add, Int.mul_add]
    rw [h.1.1] at h1
    omega
def sumOf (xss : List (List Int)) : Int := if isMat xss then msum xss else -1
def isGraph (xss : List (List Int)) : Bool := isMat xss && decide (sumOf xss ≤ 60)
theorem isMat_msum {xss : List (List Int)} (h : isMat xss = true) : 0 ≤ msum xss ∧ msum xss ≤ 81000000 := by
  have hl := isMat_len h
  simp only [isMat, Bool.and_eq_true] at h
  have := msum_range (by decide) xss h.1
  obtain ⟨n, hn⟩ : ∃ n, xss.length = n := ⟨_, rfl⟩
  rw [hn] at this hl
  have h2 : (1000000 : Int) * n * n ≤ 1000000 * 9 * 9 := by
    have a1 : (n : Int) * n ≤ 9 * 9 := Int.mul_le_mul (by omega) (by omega) (by omega) (by omega)
    rw [Int.mul_assoc, Int.mul_assoc]
    omega
  omega
theorem row_sum {xss : List (List Int)} (h : isMat xss = true) {k : Nat} {r : List Int} (hk : xss[k]? = some r) : isum 0 r = r.sum ∧ 0 ≤ r.sum ∧ r.sum ≤ 9000000 := by
  obtain ⟨h1, h2⟩ := isMat_row h hk
  have h3 := isMat_len h
  have h4 := isum_row (by decide) (by decide) h2 (by omega)
  refine ⟨h4.1, h4.2.1, ?_⟩
  have : (1000000 : Int) * r.length ≤ 9000000 := by omega
  omega
/-- What is still to come is not below 0. -/
theorem rest_nonneg {xss : List (List Int)} (h : isMat xss = true) (k : Nat) : 0 ≤ msum (xss.drop k) := by
  simp only [isMat, Bool.and_eq_true] at h
  have h1 : tabIn xss.length 0 1000000 (xss.drop k) = true := by
    simp only [tabIn, List.all_eq_true] at h ⊢
    exact fun r hr => h.1 r (List.mem_of_mem_drop hr)
  exact (msum_range (by decide) _ h1).1
theorem rest_row {hi : Int} {r : List Int} (h0 : 0 ≤ hi) (h : allIn 0 hi r = true) (k : Nat) : 0 ≤ (r.drop k).sum := by
  have h1 : allIn 0 hi (r.drop k) = true := by
    simp only [allIn, List.all_eq_true] at h ⊢
    exact fun x hx => h x (List.mem_of_mem_drop hx)
  exact (allIn_sum h0 _ h1).1
end Go.Proofs.Ytnoghnalopdflaa
