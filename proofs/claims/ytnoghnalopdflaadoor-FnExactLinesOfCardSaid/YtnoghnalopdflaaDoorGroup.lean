/- The numbers of a matrix's group: those of the diagonal form that are not 1. -/
import Derived.Test.YtnoghnalopdflaaDoorThA
import Derived.Test.YtnoghnalopdflaaDoorDelOne
namespace Go.Proofs.YtnoghnalopdflaaDoor
open Go.RowKit
set_option linter.all false
def groupV (m : List (List Int)) : List Int := if isSmallM m then (diagN (lessT 1 1 m)).filter ne1 else []
theorem mem_set {l : List Int} {i : Nat} {v y : Int} (h : y ∈ l.set i v) : y = v ∨ y ∈ l := by
  obtain ⟨j, hj⟩ := List.getElem?_of_mem h
  rw [List.getElem?_set] at hj
  by_cases e : i = j
  · rw [if_pos e] at hj
    split at hj
    · injection hj with hj; exact .inl hj.symm
    · cases hj
  · rw [if_neg e] at hj
    exact .inr (List.mem_of_getElem? hj)
theorem less_smith {m : List (List Int)} (h : isSmallM m = true) : smith (lessT 1 1 m) = true := by
  have hm := isSmallM_mat h
  simp only [smith, Bool.and_eq_true, lessT_len]
  refine ⟨?_, inR_mk ⟨by omega, by omega⟩⟩
  simp only [tabIn, List.all_eq_true]
  intro r hr
  obtain ⟨k, hk⟩ := List.getElem?_of_mem hr
  have hkl := (List.getElem?_eq_some_iff.1 hk).1
  rw [lessT_len] at hkl
  have hq : m[k]? = some m[k] := List.getElem?_eq_getElem hkl
  rw [lessT_get hq] at hk
  injection hk with hk
  subst hk
  have hrl := (isMat_row hm.1 hq).1
  simp only [lessRow_len, hrl, decide_true, Bool.true_and, allIn, List.all_eq_true]
  have hneg : ∀ y ∈ negRow 1 m[k], -9 ≤ y ∧ y ≤ 0 := by
    intro y hy
    simp only [negRow, List.mem_map] at hy
    obtain ⟨x, hx, rfl⟩ := hy
    obtain ⟨j, hj⟩ := List.getElem?_of_mem hx
    have := isSmallM_get h hq hj
    unfold wrap64
    omega
  intro y hy
  refine inR_mk ?_
  rcases mem_set hy with e | hy
  · subst e
    have h0 : -9 ≤ (negRow 1 m[k]).getD k 0 ∧ (negRow 1 m[k]).getD k 0 ≤ 0 := by
      cases hg : (negRow 1 m[k])[k]? with
      | none => simp [List.getD, hg]
      | some y => simp only [List.getD, hg, Option.getD_some]; exact hneg y (List.mem_of_getElem? hg)
    unfold wrap64
    omega
  · have := hneg y hy
    omega
theorem diagV_less {m : List (List Int)} (h : isSmallM m = true) : diagV (lessT 1 1 m) = diagN (lessT 1 1 m) := by simp [diagV, less_smith h]
theorem filter_push {L ys : List Int} {k : Nat} {x : Int} {R : List Int} (hk : L[k]? = some x) (h : ys ++ (L.drop k).filter ne1 = R) : (x = 1 → ys ++ (L.drop (k + 1)).filter ne1 = R) ∧ (x ≠ 1 → (ys ++ [x]) ++ (L.drop (k + 1)).filter ne1 = R) := by
  rw [drop_of_get hk, List.filter_cons] at h
  constructor
  · intro e
    have : ne1 x = false := by simp [ne1, e]
    rw [this] at h
    simpa using h
  · intro e
    have : ne1 x = true := by simp [ne1, e]
    rw [this] at h
    simpa using h
end Go.Proofs.YtnoghnalopdflaaDoor
