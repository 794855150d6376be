/- The resting numbers of an irreducible chance table. -/
import Derived.Test.YtjkpndhfdlnpdaaChanceC
import Derived.Test.YtjkpndhfdlnpdaaGcd
namespace Go.Proofs.Ytjkpndhfdlnpdaa
open Go.RowKit
set_option linter.all false
def cofL (t : List (List Int)) : List Int := (List.range t.length).map (cofAt t)
def gcdL : Int → List Int → Int
  | g, [] => g
  | g, x :: xs => gcdL (gcdI g x) xs
def redL (xs : List Int) : List Int := xs.map (fun x => x.tdiv (gcdL 0 xs))
def restOk (t : List (List Int)) : Bool := isChance t && irrT t
def restV (t : List (List Int)) : List Int := if restOk t then redL (cofL t) else []
def Good (xs : List Int) : Prop := ∀ x ∈ xs, 0 < x ∧ x ≤ 4000000
theorem cofL_len (t : List (List Int)) : (cofL t).length = t.length := by simp [cofL]
theorem cofL_get {t : List (List Int)} {i : Nat} (h : i < t.length) : (cofL t)[i]? = some (cofAt t i) := by simp [cofL, h]
theorem cofL_good {t : List (List Int)} (h : restOk t = true) : Good (cofL t) := by
  simp only [restOk, Bool.and_eq_true] at h
  intro x hx
  simp only [cofL, List.mem_map, List.mem_range] at hx
  obtain ⟨i, hi, rfl⟩ := hx
  exact cof_good h.1 h.2 i hi
theorem redL_len (xs : List Int) : (redL xs).length = xs.length := by simp [redL]
theorem redL_get {xs : List Int} {i : Nat} {x : Int} (h : xs[i]? = some x) : (redL xs)[i]? = some (x.tdiv (gcdL 0 xs)) := by simp [redL, h]
theorem gcdL_step {xs : List Int} {k : Nat} {x g R : Int} (hk : xs[k]? = some x) (h : gcdL g (xs.drop k) = R) : gcdL (gcdI g x) (xs.drop (k + 1)) = R := by
  rw [drop_of_get hk] at h
  exact h
theorem gcdL_end {xs : List Int} {k : Nat} {g R : Int} (hk : xs.length ≤ k) (h : gcdL g (xs.drop k) = R) : g = R := by
  rw [drop_all xs k hk] at h
  exact h
theorem gcdI_bd {g x : Int} (hg : 0 ≤ g ∧ g ≤ 4000000) (hx : 0 < x ∧ x ≤ 4000000) : 0 < gcdI g x ∧ gcdI g x ≤ 4000000 := by
  unfold gcdI
  have h1 : 0 < Int.gcd g x := Int.gcd_pos_of_ne_zero_right g (by omega)
  have h2 : Int.gcd g x ≤ x.natAbs := Nat.le_of_dvd (by omega) (Nat.gcd_dvd_right _ _)
  omega
theorem gcdL_bd : ∀ (xs : List Int) (g : Int), Good xs → 0 < g ∧ g ≤ 4000000 → 0 < gcdL g xs ∧ gcdL g xs ≤ 4000000
  | [], g, _, h => h
  | x :: xs, g, hx, h => gcdL_bd xs _ (fun y hy => hx y (by simp [hy])) (gcdI_bd ⟨by omega, h.2⟩ (hx x (by simp)))
theorem gcdL_pos {xs : List Int} (h : Good xs) (h0 : 0 < xs.length) : 0 < gcdL 0 xs ∧ gcdL 0 xs ≤ 4000000 := by
  match xs, h0 with
  | x :: xs, _ =>
    exact gcdL_bd xs _ (fun y hy => h y (by simp [hy])) (gcdI_bd ⟨by omega, by omega⟩ (h x (by simp)))
theorem quo_bd {x g : Int} (hx : 0 < x ∧ x ≤ 4000000) (hg : 0 < g) : x.tdiv g = x / g ∧ 0 ≤ x / g ∧ x / g ≤ 4000000 := by
  refine ⟨Int.tdiv_eq_ediv_of_nonneg (by omega), Int.ediv_nonneg (by omega) (by omega), ?_⟩
  have := Int.ediv_le_self g (show 0 ≤ x by omega)
  omega
theorem restV_nonneg (t : List (List Int)) : ∀ x ∈ restV t, 0 ≤ x ∧ x ≤ 4000000 := by
  intro x hx
  unfold restV at hx
  split at hx
  · rename_i h
    have hg := cofL_good h
    simp only [redL, List.mem_map] at hx
    obtain ⟨y, hy, rfl⟩ := hx
    have h0 : 0 < (cofL t).length := by cases hc : cofL t with
      | nil => rw [hc] at hy; cases hy
      | cons a b => simp
    have := quo_bd (hg y hy) (gcdL_pos hg h0).1
    omega
  · cases hx
theorem chance_mat {t : List (List Int)} (h : isChance t = true) : isMat t = true := by
  have hf := chance_facts h
  simp only [isMat, Bool.and_eq_true]
  refine ⟨?_, inR_mk ⟨by omega, by omega⟩⟩
  simp only [tabIn, List.all_eq_true]
  intro r hr
  have h1 := hf.2.2.2.2 r hr
  simp only [h1.1, decide_true, Bool.true_and, allIn, List.all_eq_true]
  intro x hx
  have := h1.2.1 x hx
  exact inR_mk ⟨by omega, by omega⟩
end Go.Proofs.Ytjkpndhfdlnpdaa
