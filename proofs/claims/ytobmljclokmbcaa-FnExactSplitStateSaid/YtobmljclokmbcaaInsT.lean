/- Insertion of arcs, and the one sorted list. -/
import Derived.Test.YtobmljclokmbcaaSortArc
namespace Go.Proofs.Ytobmljclokmbcaa
open Go.RowKit
set_option linter.all false
def posG (out : List Ar) (x : Ar) : Nat → Nat
  | 0 => 0
  | k + 1 => if ltA x (out.getD k (0, 0, 0)) then posG out x k else k + 1
def insS (out : List Ar) (x : Ar) : List Ar :=
  let p := posG out x out.length
  if 0 < p ∧ out.getD (p - 1) (0, 0, 0) = x then out else out.take p ++ x :: out.drop p
def sortS (xs : List Ar) : List Ar := xs.foldl insS []
theorem posG_le (out : List Ar) (x : Ar) : ∀ k, posG out x k ≤ k
  | 0 => Nat.le_refl _
  | k + 1 => by
    unfold posG
    split
    · have := posG_le out x k; omega
    · exact Nat.le_refl _
theorem posG_above (out : List Ar) (x : Ar) : ∀ k j, posG out x k ≤ j → j < k → ltA x (out.getD j (0, 0, 0)) = true
  | 0, j, _, h => by omega
  | k + 1, j, h1, h2 => by
    unfold posG at h1
    split at h1
    · rename_i hl
      rcases Nat.lt_or_eq_of_le (Nat.le_of_lt_succ h2) with h3 | h3
      · exact posG_above out x k j h1 h3
      · rw [h3]; exact hl
    · omega
theorem posG_at (out : List Ar) (x : Ar) : ∀ k, 0 < posG out x k → ltA x (out.getD (posG out x k - 1) (0, 0, 0)) = false
  | 0, h => by simp [posG] at h
  | k + 1, h => by
    unfold posG at h ⊢
    split
    · rename_i hl
      rw [if_pos hl] at h
      exact posG_at out x k h
    · rename_i hl
      simpa using hl
theorem ltA_trans {x y z : Ar} (h1 : ltA x y = true) (h2 : ltA y z = true) : ltA x z = true := by rw [ltA_iff] at *; omega
theorem ltA_total {x y : Ar} (h1 : ltA x y = false) (hne : x ≠ y) : ltA y x = true := by
  cases h : ltA y x
  · exact absurd (totA x y (by rw [ltOf_A]; exact h1) (by rw [ltOf_A]; exact h)) hne
  · rfl
theorem ins_pair {out : List Ar} {x : Ar} (h : out.Pairwise (fun a b => ltA a b = true)) : (insS out x).Pairwise (fun a b => ltA a b = true) := by
  unfold insS
  simp only
  split
  · exact h
  · rename_i hn
    have hp := posG_le out x out.length
    have ha := posG_above out x out.length
    have hb := posG_at out x out.length
    generalize posG out x out.length = p at *
    have hbefore : ∀ y ∈ out.take p, ltA y x = true := by
      intro y hy
      obtain ⟨j, hj⟩ := List.getElem?_of_mem hy
      have hjp : j < p := by
        have := (List.getElem?_eq_some_iff.1 hj).1
        simp at this
        omega
      have hjo : out[j]? = some y := by
        rw [List.getElem?_take, if_pos hjp] at hj
        exact hj
      have hlast : out[p - 1]? = some (out.getD (p - 1) (0, 0, 0)) := by
        rw [List.getD, List.getElem?_eq_getElem (by omega)]; rfl
      have hle := hb (by omega)
      have hz : ltA (out.getD (p - 1) (0, 0, 0)) x = true := ltA_total hle (fun e => hn ⟨by omega, e.symm⟩)
      rcases Nat.lt_or_eq_of_le (show j ≤ p - 1 by omega) with h3 | h3
      · have := List.pairwise_iff_getElem.1 h j (p - 1) (by omega) (by omega) h3
        obtain ⟨_, e1⟩ := List.getElem?_eq_some_iff.1 hjo
        obtain ⟨_, e2⟩ := List.getElem?_eq_some_iff.1 hlast
        rw [e1, e2] at this
        exact ltA_trans this hz
      · rw [h3] at hjo
        rw [hjo] at hlast
        injection hlast with e
        rw [e]; exact hz
    have hafter : ∀ y ∈ out.drop p, ltA x y = true := by
      intro y hy
      obtain ⟨j, hj⟩ := List.getElem?_of_mem hy
      rw [List.getElem?_drop] at hj
      have := ha (p + j) (by omega) (List.getElem?_eq_some_iff.1 hj).1
      rw [List.getD, hj] at this
      exact this
    rw [List.pairwise_append, List.pairwise_cons]
    refine ⟨h.take, ⟨hafter, h.drop⟩, ?_⟩
    intro y hy z hz
    rcases List.mem_cons.1 hz with rfl | hz
    · exact hbefore y hy
    · exact ltA_trans (hbefore y hy) (hafter z hz)
theorem ins_perm {out : List Ar} {x : Ar} (h : x ∉ out) : (insS out x).Perm (x :: out) := by
  unfold insS
  simp only
  split
  · rename_i hn
    exfalso
    have hp := posG_le out x out.length
    apply h
    rw [← hn.2]
    rw [List.getD, List.getElem?_eq_getElem (by omega)]
    exact List.getElem_mem _
  · have := List.perm_middle (a := x) (l₁ := out.take (posG out x out.length)) (l₂ := out.drop (posG out x out.length))
    rw [List.take_append_drop] at this
    exact this
theorem sortS_all : ∀ (xs out : List Ar), out.Pairwise (fun a b => ltA a b = true) → (out ++ xs).Nodup → (xs.foldl insS out).Pairwise (fun a b => ltA a b = true) ∧ (xs.foldl insS out).Perm (out ++ xs)
  | [], out, h, _ => ⟨h, by simp⟩
  | x :: r, out, h, hn => by
    have hx : x ∉ out := by
      intro hm
      have := (List.nodup_append.1 hn).2.2 x hm x (List.mem_cons_self ..)
      exact this rfl
    have hp := ins_perm hx
    have h2 : (out ++ x :: r).Perm (insS out x ++ r) := List.perm_middle.trans ((hp.symm).append_right r)
    have h3 := sortS_all r (insS out x) (ins_pair h) (h2.nodup_iff.1 hn)
    exact ⟨h3.1, h3.2.trans h2.symm⟩
theorem sorted_is {xs ys : List Ar} (hp : ys.Perm xs) (hs : ys.Pairwise (fun a b => ltA a b = true)) : ys = sortA xs := by
  have hm : (sortA xs).Pairwise (fun a b => (!(ltOf cmpA) b a) = true) := List.pairwise_mergeSort (fun a b c h1 h2 => by
    rw [ltOf_fun] at *
    simp only [Bool.not_eq_true'] at *
    rw [ltA_not] at *
    omega) (fun a b => by
    rw [ltOf_fun]
    cases e : ltA b a
    · rfl
    · have : ltA a b = false := by rw [ltA_iff] at e; rw [ltA_not]; omega
      simp [this]) xs
  refine List.Perm.eq_of_pairwise (le := fun a b => (!(ltOf cmpA) b a) = true) ?_ ?_ hm (hp.trans (List.mergeSort_perm _ _).symm)
  · intro a b _ _ h1 h2
    rw [ltOf_fun] at h1 h2
    exact (totA b a (by rw [ltOf_A]; simpa using h1) (by rw [ltOf_A]; simpa using h2)).symm
  · refine hs.imp ?_
    intro a b hab
    rw [ltOf_fun]
    have : ltA b a = false := by rw [ltA_iff] at hab; rw [ltA_not]; omega
    simp [this]
theorem sortS_eq {xs : List Ar} (h : xs.Nodup) : sortS xs = sortA xs := by
  have := sortS_all xs [] List.Pairwise.nil (by simpa using h)
  exact sorted_is (by simpa [sortS] using this.2) this.1
end Go.Proofs.Ytobmljclokmbcaa
