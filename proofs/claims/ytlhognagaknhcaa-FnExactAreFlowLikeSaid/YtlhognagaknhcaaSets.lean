/- The sets of k numbers below n, in the order of the numbers whose bits they are. -/
import Derived.Test.YtlhognagaknhcaaBase
namespace Go.Proofs.Ytlhognagaknhcaa
open Go.RowKit
set_option linter.all false
def bitOf (m i : Nat) : Bool := m / 2 ^ i % 2 == 1
def setTo (m : Nat) : Nat → List Int
  | 0 => []
  | i + 1 => setTo m i ++ (if bitOf m i then [(i : Int)] else [])
def setsTo (n k : Nat) : Nat → List (List Int)
  | 0 => []
  | m + 1 => setsTo n k m ++ (if (setTo m n).length = k then [setTo m n] else [])
def sets (n k : Nat) : List (List Int) := setsTo n k (2 ^ n)
theorem setTo_len (m i : Nat) : (setTo m i).length ≤ i := by
  induction i with
  | zero => exact Nat.le_refl _
  | succ i ih => unfold setTo; split <;> simp <;> omega
theorem setsTo_len (n k m : Nat) : (setsTo n k m).length ≤ m := by
  induction m with
  | zero => exact Nat.le_refl _
  | succ i ih => unfold setsTo; split <;> simp <;> omega
theorem setTo_yes {m i : Nat} (h : bitOf m i = true) : setTo m (i + 1) = setTo m i ++ [(i : Int)] := by simp [setTo, h]
theorem setTo_no {m i : Nat} (h : bitOf m i = false) : setTo m (i + 1) = setTo m i := by simp [setTo, h]
theorem setsTo_yes {n k m : Nat} (h : (setTo m n).length = k) : setsTo n k (m + 1) = setsTo n k m ++ [setTo m n] := by simp [setsTo, h]
theorem setsTo_no {n k m : Nat} (h : (setTo m n).length ≠ k) : setsTo n k (m + 1) = setsTo n k m := by simp [setsTo, h]
theorem setTo_mem {m i : Nat} {x : Int} (h : x ∈ setTo m i) : 0 ≤ x ∧ x < i := by
  induction i with
  | zero => simp [setTo] at h
  | succ i ih =>
    unfold setTo at h
    rw [List.mem_append] at h
    rcases h with h | h
    · have := ih h; omega
    · split at h
      · simp at h; omega
      · simp at h
theorem setsTo_mem {n k m : Nat} {s : List Int} (h : s ∈ setsTo n k m) : s.length = k ∧ ∀ x ∈ s, 0 ≤ x ∧ x < n := by
  induction m with
  | zero => simp [setsTo] at h
  | succ i ih =>
    unfold setsTo at h
    rw [List.mem_append] at h
    rcases h with h | h
    · exact ih h
    · split at h
      · rename_i e
        simp at h
        subst h
        exact ⟨e, fun x hx => setTo_mem hx⟩
      · simp at h
theorem bits_all : ∀ m : Fin 16, ∀ i : Fin 4, (bits BinOp.and IntKind.i64 ((m.val : Int) / 2 ^ i.val) 1 == 1) = bitOf m.val i.val := by decide
theorem bits_bit {m i : Nat} (hm : m < 16) (hi : i < 4) : (bits BinOp.and IntKind.i64 ((m : Int) / 2 ^ i) 1 == 1) = bitOf m i := bits_all ⟨m, hm⟩ ⟨i, hi⟩
end Go.Proofs.Ytlhognagaknhcaa
