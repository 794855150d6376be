/- Words of letters. -/
import Derived.Test.YtgcemkpinmjaeaaBase
namespace Go.Proofs.Ytgcemkpinmjaeaa
open Go.RowKit
set_option linter.all false
def bl (s : ByteArray) (i : Nat) : Nat := if h : i < s.size then s[i].toNat else 0
theorem bl_get {s : ByteArray} {i : Nat} (h : i < s.size) : bl s i = s[i].toNat := by simp [bl, h]
theorem bl_lt (s : ByteArray) (i : Nat) : bl s i < 256 := by
  unfold bl
  split
  · exact UInt8.toNat_lt _
  · omega
def okW (k : Int) (s : ByteArray) : Nat → Nat → Bool
  | _, 0 => true
  | i, m + 1 => (decide (97 ≤ bl s i) && decide ((bl s i : Int) - 97 < k)) && okW k s (i + 1) m
def isWd (k : Int) (s : ByteArray) : Bool := inR k 1 3 && (decide (s.size ≤ 16) && okW k s 0 s.size)
theorem okW_step {k : Int} {s : ByteArray} {i m : Nat} {b : Bool} (h : okW k s i (m + 1) = b) :
    (¬ 97 ≤ bl s i → b = false) ∧ (¬ (bl s i : Int) - 97 < k → b = false) ∧ (97 ≤ bl s i → (bl s i : Int) - 97 < k → okW k s (i + 1) m = b) := by
  refine ⟨fun e => ?_, fun e => ?_, fun e1 e2 => ?_⟩
  · simpa [okW, e] using h.symm
  · simpa [okW, e] using h.symm
  · simpa [okW, e1, e2] using h
theorem okW_get {k : Int} {s : ByteArray} : ∀ {m i j : Nat}, okW k s i m = true → i ≤ j → j < i + m → 97 ≤ bl s j ∧ (bl s j : Int) - 97 < k
  | 0, i, j, _, h1, h2 => by omega
  | m + 1, i, j, h, h1, h2 => by
    simp only [okW, Bool.and_eq_true, decide_eq_true_eq] at h
    by_cases e : i = j
    · subst e; exact h.1
    · exact okW_get h.2 (by omega) (by omega)
theorem isWd_get {k : Int} {s : ByteArray} (h : isWd k s = true) : s.size ≤ 16 ∧ ∀ j, j < s.size → 97 ≤ bl s j ∧ (bl s j : Int) - 97 < k := by
  simp only [isWd, Bool.and_eq_true, decide_eq_true_eq] at h
  exact ⟨h.2.1, fun j hj => okW_get h.2.2 (Nat.zero_le _) (by omega)⟩
end Go.Proofs.Ytgcemkpinmjaeaa
