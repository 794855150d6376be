/- Lists that are filled from their beginning. -/
import Derived.Test.YtlhognagaknhcaaMem
namespace Go.Proofs.Ytlhognagaknhcaa
open Go.RowKit
set_option linter.all false
section
variable {α : Type} {A B M : List α} {x y Z : α} {i k n : Nat}
theorem at_mid (h : A.length = i) : (A ++ x :: B)[i]? = some x := by
  rw [List.getElem?_append_right (by omega), h, Nat.sub_self]; rfl
theorem set_mid (h : A.length = i) : (A ++ x :: B).set i y = A ++ y :: B := by
  rw [List.set_append_right _ _ (by omega), h, Nat.sub_self]; rfl
theorem fill_start (n : Nat) (M : List α) (Z : α) : M.take 0 ++ List.replicate (n - 0) Z = List.replicate n Z := by simp
theorem fill_open (hk : k < n) : M.take k ++ List.replicate (n - k) Z = M.take k ++ Z :: List.replicate (n - (k + 1)) Z := by
  rw [show n - k = (n - (k + 1)) + 1 from by omega, List.replicate_succ]
theorem fill_shut (hx : M[k]? = some x) : M.take k ++ x :: B = M.take (k + 1) ++ B := by
  obtain ⟨hk, rfl⟩ := List.getElem?_eq_some_iff.1 hx
  rw [List.take_succ_eq_append_getElem hk, List.append_assoc]
  rfl
theorem fill_end (hM : M.length = n) : M.take n ++ List.replicate (n - n) Z = M := by
  rw [← hM]; simp
theorem take_len (h : k ≤ M.length) : (M.take k).length = k := by simp; omega
theorem push_take (hx : M[k]? = some x) : M.take k ++ [x] = M.take (k + 1) := by
  obtain ⟨hk, rfl⟩ := List.getElem?_eq_some_iff.1 hx
  rw [List.take_succ_eq_append_getElem hk]
/-- One list as far as i, another from there on. -/
theorem mix_get {N : List α} (hM : i ≤ M.length) (hx : N[i]? = some x) : (M.take i ++ N.drop i)[i]? = some x := by
  rw [drop_of_get hx]; exact at_mid (take_len hM)
theorem mix_set {N : List α} (hx : N[i]? = some x) (hy : M[i]? = some y) : (M.take i ++ N.drop i).set i y = M.take (i + 1) ++ N.drop (i + 1) := by
  have hi := (List.getElem?_eq_some_iff.1 hy).1
  rw [drop_of_get hx, set_mid (take_len (by omega)), fill_shut hy]
theorem mix_end {N : List α} (hM : M.length = n) (hN : N.length = n) : M.take n ++ N.drop n = M := by
  rw [← hM, List.take_length, hM, ← hN, List.drop_length, List.append_nil]
theorem rep_push (k : Nat) (x : α) : List.replicate k x ++ [x] = List.replicate (k + 1) x := by
  rw [List.replicate_succ']
end
end Go.Proofs.Ytlhognagaknhcaa
