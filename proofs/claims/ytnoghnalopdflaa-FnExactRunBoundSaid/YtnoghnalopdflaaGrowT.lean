/- Whether a growth is below a fraction: the first principal minors; the search for the growth. -/
import Derived.Test.YtnoghnalopdflaaLessT
import Derived.Test.YtnoghnalopdflaaDetB
import Derived.Test.YtnoghnalopdflaaSomeT
namespace Go.Proofs.Ytnoghnalopdflaa
open Go.RowKit
set_option linter.all false
def iota (n : Nat) : List Int := (List.range n).map fun (i : Nat) => (i : Int)
def partT (t : List (List Int)) (k : Nat) : List (List Int) := someT t (iota k) (iota k)
def belF (T : List (List Int)) : Nat → Nat → Bool
  | _, 0 => true
  | k, m + 1 => decide (0 < det (k + 1) (partT T (k + 1))) && belF T (k + 1) m
def belowM (m : List (List Int)) (q d : Int) : Bool := belF (lessT q d m) 0 m.length
def bis (f : Int → Bool) : Nat → Int → Int → Int
  | 0, lo, _ => lo
  | n + 1, lo, hi => if 1 < hi - lo then (if f ((lo + hi) / 2) then bis f n lo ((lo + hi) / 2) else bis f n ((lo + hi) / 2) hi) else lo
def floorG (m : List (List Int)) (d : Int) : Int := if isSmallM m && inR d 1 100 then bis (fun q => belowM m q d) 4000 0 (36 * d + 1) else -1
theorem iota_len (n : Nat) : (iota n).length = n := by simp [iota]
theorem iota_get {n k : Nat} (h : k < n) : (iota n)[k]? = some (k : Int) := by simp [iota, h]
theorem iota_push (n : Nat) : iota n ++ [(n : Int)] = iota (n + 1) := by simp [iota, List.range_succ]
theorem iota_idx {n k : Nat} (h : k ≤ n) : Idx n (iota k) := by
  intro x hx
  simp only [iota, List.mem_map, List.mem_range] at hx
  obtain ⟨i, hi, rfl⟩ := hx
  omega
theorem bel_step {T : List (List Int)} {k m n : Nat} {b : Bool} (hk : k < n) (hm : m = n - k) (h : belF T k m = b) :
    (0 < det (k + 1) (partT T (k + 1)) → belF T (k + 1) (n - (k + 1)) = b) ∧ (¬ 0 < det (k + 1) (partT T (k + 1)) → b = false) := by
  subst hm
  rw [show n - k = (n - (k + 1)) + 1 by omega, belF] at h
  constructor
  · intro e; simpa [e] using h
  · intro e; simpa [e] using h.symm
theorem bis_step {f : Int → Bool} {n : Nat} {lo hi R : Int} (hn : hi - lo ≤ n) (h1 : 1 < hi - lo) (h : bis f n lo hi = R) :
    ∃ m : Nat, m + 1 = n ∧ (f ((lo + hi) / 2) = true → bis f m lo ((lo + hi) / 2) = R) ∧ (f ((lo + hi) / 2) = false → bis f m ((lo + hi) / 2) hi = R) := by
  obtain ⟨m, rfl⟩ : ∃ m, n = m + 1 := ⟨n - 1, by omega⟩
  refine ⟨m, rfl, ?_, ?_⟩
  · intro e; simpa [bis, h1, e] using h
  · intro e; simpa [bis, h1, e] using h
theorem bis_end {f : Int → Bool} {n : Nat} {lo hi R : Int} (h1 : ¬ 1 < hi - lo) (h : bis f n lo hi = R) : lo = R := by
  cases n with
  | zero => exact h
  | succ m => simpa [bis, h1] using h
theorem partT_len (t : List (List Int)) (k : Nat) : (partT t k).length = k := by unfold partT; rw [someT_len, iota_len]
theorem partT_rowsLen (t : List (List Int)) (k : Nat) : RowsLen (partT t k) k := by
  have h := someT_rowsLen t (iota k) (iota k)
  rw [iota_len] at h
  exact h
theorem pick_iota {r : List Int} {k : Nat} (h : k ≤ r.length) : pickRow r (iota k) = r.take k := by
  apply List.ext_getElem?
  intro j
  by_cases hj : j < k
  · have hx : r[j]? = some r[j] := List.getElem?_eq_getElem (by omega)
    rw [pickRow_get (iota_get hj) hx, List.getElem?_take, if_pos hj, hx]
  · rw [List.getElem?_eq_none (by rw [pickRow_len, iota_len]; omega), List.getElem?_eq_none (by simp; omega)]
theorem partT_get {t : List (List Int)} {k i : Nat} {r : List Int} (hi : i < k) (hr : t[i]? = some r) (hk : k ≤ r.length) : (partT t k)[i]? = some (r.take k) := by
  unfold partT
  rw [someT_get (iota_get hi) hr, pick_iota hk]
/-- The table as numbers that do not wrap. -/
def qRow (q d : Int) (n i : Nat) (r : List Int) : List Int := (List.range n).map fun j => (if i = j then q else 0) - d * r.getD j 0
def qT (q d : Int) (t : List (List Int)) : List (List Int) := (List.range t.length).map fun i => qRow q d t.length i (t.getD i [])
theorem qRow_len (q d : Int) (n i : Nat) (r : List Int) : (qRow q d n i r).length = n := by simp [qRow]
theorem qT_len (q d : Int) (t : List (List Int)) : (qT q d t).length = t.length := by simp [qT]
theorem qT_get {q d : Int} {t : List (List Int)} {i : Nat} {r : List Int} (h : t[i]? = some r) : (qT q d t)[i]? = some (qRow q d t.length i r) := by
  obtain ⟨hi, rfl⟩ := List.getElem?_eq_some_iff.1 h
  simp [qT, hi, List.getD]
theorem qRow_get {q d : Int} {n i j : Nat} {r : List Int} {x : Int} (hj : j < n) (hx : r[j]? = some x) : (qRow q d n i r)[j]? = some ((if i = j then q else 0) - d * x) := by
  simp [qRow, hj, List.getD, hx]
theorem prod_range {d x : Int} (hd : 1 ≤ d) (hd2 : d ≤ 100) (hx : 0 ≤ x) (hx2 : x ≤ 9) : 0 ≤ d * x ∧ d * x ≤ 900 := by
  constructor
  · exact Int.mul_nonneg (by omega) hx
  · have h1 : d * x ≤ 100 * x := Int.mul_le_mul_of_nonneg_right hd2 hx
    omega
theorem wrap64_in {x : Int} (h1 : -1000000000000 ≤ x) (h2 : x ≤ 1000000000000) : wrap64 x = x := by unfold wrap64; omega
theorem qT_less {t : List (List Int)} {q d : Int} (h : isSmallM t = true) (hq : 0 ≤ q) (hq2 : q ≤ 4000) (hd : 1 ≤ d) (hd2 : d ≤ 100) : qT q d t = lessT q d t := by
  have hm := isSmallM_mat h
  unfold qT lessT
  apply List.map_congr_left
  intro i hi
  have hi' : i < t.length := List.mem_range.1 hi
  have hr : t[i]? = some t[i] := List.getElem?_eq_getElem hi'
  have e : t.getD i [] = t[i] := by simp [List.getD, hi']
  rw [e]
  have hrl := (isMat_row hm.1 hr).1
  apply List.ext_getElem?
  intro j
  by_cases hj : j < t.length
  · have hx : t[i][j]? = some (t[i])[j] := List.getElem?_eq_getElem (by omega)
    have hb := isSmallM_get h hr hx
    have hp := prod_range hd hd2 hb.1 hb.2
    rw [qRow_get hj hx]
    unfold lessRow
    rw [List.getElem?_set]
    have ew : wrap64 (-d * (t[i])[j]) = -(d * (t[i])[j]) := by rw [Int.neg_mul]; exact wrap64_in (by omega) (by omega)
    by_cases hij : i = j
    · subst hij
      rw [if_pos rfl, if_pos rfl, if_pos (by rw [negRow_len]; omega)]
      simp only [List.getD, negRow_get hx, Option.getD_some]
      rw [ew, wrap64_in (by omega) (by omega)]
      congr 1
      omega
    · rw [if_neg hij, if_neg hij, negRow_get hx, ew]
      congr 1
      omega
  · rw [List.getElem?_eq_none (by rw [qRow_len]; omega), List.getElem?_eq_none (by rw [lessRow_len]; omega)]
end Go.Proofs.Ytnoghnalopdflaa
