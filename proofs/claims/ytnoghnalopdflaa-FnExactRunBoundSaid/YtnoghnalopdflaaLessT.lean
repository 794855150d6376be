/- A table taken from a multiple of the table with 1 on the diagonal. -/
import Derived.Test.YtnoghnalopdflaaSmallM
import Derived.Test.YtnoghnalopdflaaMulT
import Derived.Test.YtnoghnalopdflaaBase
import Derived.Test.YtnoghnalopdflaaSums
namespace Go.Proofs.Ytnoghnalopdflaa
open Go.RowKit
set_option linter.all false
def negRow (d : Int) (r : List Int) : List Int := r.map (fun x => wrap64 (-d * x))
def lessRow (q d : Int) (i : Nat) (r : List Int) : List Int := (negRow d r).set i (wrap64 ((negRow d r).getD i 0 + q))
def lessT (q d : Int) (t : List (List Int)) : List (List Int) := (List.range t.length).map (fun i => lessRow q d i (t.getD i []))
theorem negRow_len (d : Int) (r : List Int) : (negRow d r).length = r.length := by simp [negRow]
theorem negRow_get {d : Int} {r : List Int} {j : Nat} {x : Int} (h : r[j]? = some x) : (negRow d r)[j]? = some (wrap64 (-d * x)) := by simp [negRow, h]
theorem lessT_len (q d : Int) (t : List (List Int)) : (lessT q d t).length = t.length := by simp [lessT]
theorem lessRow_len (q d : Int) (i : Nat) (r : List Int) : (lessRow q d i r).length = r.length := by simp [lessRow, negRow]
theorem lessT_get {q d : Int} {t : List (List Int)} {i : Nat} {r : List Int} (h : t[i]? = some r) : (lessT q d t)[i]? = some (lessRow q d i r) := by
  obtain ⟨hi, rfl⟩ := List.getElem?_eq_some_iff.1 h
  simp [lessT, hi, List.getD]
theorem lessT_rowsLen {q d : Int} {t : List (List Int)} {n : Nat} (h : RowsLen t n) : RowsLen (lessT q d t) n := by
  intro k r hk
  have hl := (List.getElem?_eq_some_iff.1 hk).1
  rw [lessT_len] at hl
  have h2 : t[k]? = some t[k] := List.getElem?_eq_getElem hl
  rw [lessT_get h2] at hk
  injection hk with hk
  subst hk
  rw [lessRow_len]
  exact h k _ h2
/-- The other program's form: 1 on the diagonal, less the table. -/
def tabRow (n i : Nat) (r : List Int) : List Int := (List.range n).map (fun j => wrap64 ((oneRow n i).getD j 0 - r.getD j 0))
def tabT (t : List (List Int)) : List (List Int) := (List.range t.length).map (fun i => tabRow t.length i (t.getD i []))
theorem tabRow_len (n i : Nat) (r : List Int) : (tabRow n i r).length = n := by simp [tabRow]
theorem tabT_len (t : List (List Int)) : (tabT t).length = t.length := by simp [tabT]
theorem tabT_get {t : List (List Int)} {i : Nat} {r : List Int} (h : t[i]? = some r) : (tabT t)[i]? = some (tabRow t.length i r) := by
  obtain ⟨hi, rfl⟩ := List.getElem?_eq_some_iff.1 h
  simp [tabT, hi, List.getD]
theorem tabRow_get {n i j : Nat} {r : List Int} {x y : Int} (hj : j < n) (hx : (oneRow n i)[j]? = some x) (hy : r[j]? = some y) : (tabRow n i r)[j]? = some (wrap64 (x - y)) := by
  simp [tabRow, hj, List.getD, hx, hy]
theorem tabT_rowsLen (t : List (List Int)) : RowsLen (tabT t) t.length := by
  intro k r hk
  simp only [tabT, List.getElem?_map, Option.map_eq_some_iff] at hk
  obtain ⟨q, _, rfl⟩ := hk
  exact tabRow_len _ _ _
theorem oneRow_get {n i j : Nat} (hj : j < n) : (oneRow n i)[j]? = some (if i = j then 1 else 0) := by
  unfold oneRow
  rw [List.getElem?_set]
  by_cases h : i = j
  · subst h; simp [hj]
  · simp [h, hj]
/-- They are one for a small matrix. -/
theorem tab_less {t : List (List Int)} (h : isSmallM t = true) : tabT t = lessT 1 1 t := by
  have hm := isSmallM_mat h
  unfold tabT lessT
  apply List.map_congr_left
  intro i hi
  have hi' : i < t.length := List.mem_range.1 hi
  have hr : t[i]? = some t[i] := List.getElem?_eq_getElem hi'
  have e : t.getD i [] = t[i] := by simp [List.getD, hi']
  rw [e]
  have hrl := (isMat_row hm.1 hr).1
  apply List.ext_getElem?
  intro j
  by_cases hj : j < t.length
  · have hx : t[i][j]? = some (t[i])[j] := List.getElem?_eq_getElem (by omega)
    have hb := isSmallM_get h hr hx
    rw [tabRow_get hj (oneRow_get hj) hx]
    unfold lessRow
    rw [List.getElem?_set]
    by_cases hij : i = j
    · subst hij
      rw [if_pos rfl, if_pos rfl, if_pos (by rw [negRow_len]; omega)]
      simp only [List.getD, negRow_get hx, Option.getD_some]
      congr 1
      unfold wrap64
      omega
    · rw [if_neg hij, if_neg hij, negRow_get hx]
      congr 1
      unfold wrap64
      omega
  · rw [List.getElem?_eq_none (by rw [tabRow_len]; omega), List.getElem?_eq_none (by rw [lessRow_len]; omega)]
end Go.Proofs.Ytnoghnalopdflaa
