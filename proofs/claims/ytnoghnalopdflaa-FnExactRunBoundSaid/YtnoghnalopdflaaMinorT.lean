/- A table without a row and a column. -/
import Derived.Test.YtnoghnalopdflaaMulT
namespace Go.Proofs.Ytnoghnalopdflaa
open Go.RowKit
set_option linter.all false
def cut (j : Nat) (r : List Int) : List Int := r.take j ++ r.drop (j + 1)
def minorT (t : List (List Int)) (i j : Nat) : List (List Int) := (t.eraseIdx i).map (cut j)
def minorTo (t : List (List Int)) (i j k : Nat) : List (List Int) := ((t.take k).eraseIdx i).map (cut j)
theorem minorTo_zero (t : List (List Int)) (i j : Nat) : minorTo t i j 0 = [] := by simp [minorTo]
theorem minorTo_end {t : List (List Int)} {i j k : Nat} (h : t.length ≤ k) : minorTo t i j k = minorT t i j := by
  unfold minorTo minorT; rw [List.take_of_length_le h]
theorem minorTo_skip {t : List (List Int)} {j k : Nat} (h : k < t.length) : minorTo t k j (k + 1) = minorTo t k j k := by
  unfold minorTo
  have h1 : (t.take k).eraseIdx k = t.take k := List.eraseIdx_of_length_le (by simp; omega)
  have h2 : (t.take (k + 1)).eraseIdx k = t.take k := by
    rw [List.take_succ_eq_append_getElem h, List.eraseIdx_append_of_length_le (by simp; omega)]
    simp [show k - min k t.length = 0 from by omega]
  rw [h1, h2]
theorem minorTo_step {t : List (List Int)} {i j k : Nat} {r : List Int} (h : t[k]? = some r) (hne : k ≠ i) : minorTo t i j (k + 1) = minorTo t i j k ++ [cut j r] := by
  unfold minorTo
  rw [← push_take h]
  have hk := (List.getElem?_eq_some_iff.1 h).1
  have hl : (t.take k).length = k := take_len (by omega)
  by_cases hi : i < k
  · rw [List.eraseIdx_append_of_lt_length (by omega)]
    simp
  · rw [List.eraseIdx_of_length_le (by simp; omega), List.eraseIdx_of_length_le (by omega)]
    simp
theorem minorTo_len {t : List (List Int)} {i j k : Nat} : (minorTo t i j k).length ≤ k := by
  unfold minorTo
  have := List.length_eraseIdx_le (t.take k) i
  simp only [List.length_map, List.length_take] at *
  omega
theorem minorT_len {t : List (List Int)} {i j : Nat} (h : i < t.length) : (minorT t i j).length = t.length - 1 := by
  unfold minorT; rw [List.length_map, List.length_eraseIdx_of_lt h]
theorem cut_len {j : Nat} {r : List Int} (h : j < r.length) : (cut j r).length = r.length - 1 := by simp [cut]; omega
theorem minorT_rowsLen {t : List (List Int)} {i j m : Nat} (h : RowsLen t (m + 1)) (hj : j < m + 1) : RowsLen (minorT t i j) m := by
  intro k r hk
  simp only [minorT, List.getElem?_map, Option.map_eq_some_iff] at hk
  obtain ⟨q, hq, rfl⟩ := hk
  have hm := List.mem_of_mem_eraseIdx (List.mem_of_getElem? hq)
  obtain ⟨k', hk'⟩ := List.getElem?_of_mem hm
  have := h k' q hk'
  rw [cut_len (by omega)]
  omega
end Go.Proofs.Ytnoghnalopdflaa
