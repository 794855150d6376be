/- The runs of letters a ahead of each b, and behind the last. -/
import Derived.Test.YtnoghnalopdflaaDoorWordT
import Derived.Test.YtnoghnalopdflaaDoorRunFits
namespace Go.Proofs.YtnoghnalopdflaaDoor
open Go.RowKit
set_option linter.all false
def lensR (s : ByteArray) : Nat → Nat → Int → List Int
  | _, 0, n => [n]
  | i, m + 1, n => if bl s i = 98 then n :: lensR s (i + 1) m 0 else lensR s (i + 1) m (n + 1)
def lens (s : ByteArray) : List Int := lensR s 0 s.size 0
theorem lens_b {s : ByteArray} {i : Nat} {n : Int} {acc R : List Int} (hi : i < s.size) (hb : bl s i = 98) (h : acc ++ lensR s i (s.size - i) n = R) : (acc ++ [n]) ++ lensR s (i + 1) (s.size - (i + 1)) 0 = R := by
  rw [show s.size - i = (s.size - (i + 1)) + 1 by omega, lensR, if_pos hb] at h
  simpa using h
theorem lens_a {s : ByteArray} {i : Nat} {n : Int} {acc R : List Int} (hi : i < s.size) (hb : ¬ bl s i = 98) (h : acc ++ lensR s i (s.size - i) n = R) : acc ++ lensR s (i + 1) (s.size - (i + 1)) (n + 1) = R := by
  rw [show s.size - i = (s.size - (i + 1)) + 1 by omega, lensR, if_neg hb] at h
  exact h
theorem lens_end {s : ByteArray} {i : Nat} {n : Int} {acc R : List Int} (hi : s.size ≤ i) (h : acc ++ lensR s i (s.size - i) n = R) : acc ++ [n] = R := by
  rw [show s.size - i = 0 by omega] at h
  exact h
end Go.Proofs.YtnoghnalopdflaaDoor
