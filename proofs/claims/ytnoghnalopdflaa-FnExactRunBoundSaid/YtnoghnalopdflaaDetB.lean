/- How great a determinant can be; where it is 0. -/
import Derived.Test.YtnoghnalopdflaaDet
namespace Go.Proofs.Ytnoghnalopdflaa
open Go.RowKit
set_option linter.all false
def Bnd (B : Int) (t : List (List Int)) : Prop := ∀ r ∈ t, ∀ x ∈ r, -B ≤ x ∧ x ≤ B
def dmax (B : Int) : Nat → Int
  | 0 => 1
  | m + 1 => ((m : Int) + 1) * (B * dmax B m)
theorem Bnd.minor {B : Int} {t : List (List Int)} (h : Bnd B t) (i j : Nat) : Bnd B (minorT t i j) := by
  intro r hr x hx
  unfold minorT at hr
  obtain ⟨q, hq, rfl⟩ := List.mem_map.1 hr
  have hm := List.mem_of_mem_eraseIdx hq
  unfold cut at hx
  rcases List.mem_append.1 hx with h1 | h1
  · exact h q hm x (List.mem_of_mem_take h1)
  · exact h q hm x (List.mem_of_mem_drop h1)
theorem mul_abs {x d B M : Int} (hB : 0 ≤ B) (hM : 0 ≤ M) (hx : -B ≤ x ∧ x ≤ B) (hd : -M ≤ d ∧ d ≤ M) : -(B * M) ≤ x * d ∧ x * d ≤ B * M := by
  have h1 : (x * d).natAbs ≤ (B * M).natAbs := by
    rw [Int.natAbs_mul, Int.natAbs_mul]
    exact Nat.mul_le_mul (by omega) (by omega)
  have h2 : 0 ≤ B * M := Int.mul_nonneg hB hM
  generalize x * d = a at *
  generalize B * M = b at *
  omega
theorem dloop_bound {D : List (List Int) → Int} {t : List (List Int)} {B M c : Int} (hB : 0 ≤ B) (hB2 : B ≤ 4611686018427387904) (hM : 0 ≤ M) (hc : B * M = c) :
    ∀ (xs : List Int) (j : Nat) (s g S : Int), (∀ x ∈ xs, -B ≤ x ∧ x ≤ B) → (∀ k, j ≤ k → k < j + xs.length → -M ≤ D (minorT t 0 k) ∧ D (minorT t 0 k) ≤ M) →
      -1 ≤ g → g ≤ 1 → -S ≤ s → s ≤ S → S + (xs.length : Int) * c ≤ 4611686018427387904 → -(S + (xs.length : Int) * c) ≤ dloop D t xs j s g ∧ dloop D t xs j s g ≤ S + (xs.length : Int) * c
  | [], j, s, g, S, _, _, _, _, h1, h2, _ => by simp [dloop]; omega
  | x :: xs, j, s, g, S, hx, hD, hg1, hg2, h1, h2, hS => by
    have hc0 : 0 ≤ c := by rw [← hc]; exact Int.mul_nonneg hB hM
    have hlen : (((x :: xs).length : Nat) : Int) * c = (xs.length : Int) * c + c := by simp [Int.add_mul]
    rw [hlen] at hS ⊢
    have hl0 : 0 ≤ (xs.length : Int) * c := Int.mul_nonneg (by omega) hc0
    have hgx : -B ≤ g * x ∧ g * x ≤ B := by
      have := mul_abs (x := g) (d := x) (B := 1) (M := B) (by omega) hB ⟨hg1, hg2⟩ (hx x (by simp))
      rw [Int.one_mul] at this
      exact this
    have hd := hD j (Nat.le_refl _) (by simp)
    have hw : wrap64 (g * x) = g * x := by generalize g * x = a at *; unfold wrap64; omega
    have hp := mul_abs hB hM hgx hd
    rw [hc] at hp
    have hw2 : wrap64 (g * x * D (minorT t 0 j)) = g * x * D (minorT t 0 j) := by generalize g * x * D (minorT t 0 j) = a at *; unfold wrap64; omega
    have hw3 : wrap64 (s + g * x * D (minorT t 0 j)) = s + g * x * D (minorT t 0 j) := by generalize g * x * D (minorT t 0 j) = a at *; unfold wrap64; omega
    unfold dloop
    rw [hw, hw2, hw3]
    have hs : -(S + c) ≤ (if x = 0 then s else s + g * x * D (minorT t 0 j)) ∧ (if x = 0 then s else s + g * x * D (minorT t 0 j)) ≤ S + c := by
      generalize g * x * D (minorT t 0 j) = a at *
      split <;> omega
    have := dloop_bound hB hB2 hM hc xs (j + 1) _ (-g) (S + c) (fun y hy => hx y (by simp [hy])) (fun k h3 h4 => hD k (by omega) (by simp; omega)) (by omega) (by omega) hs.1 hs.2 (by omega)
    omega
theorem dmax_nonneg {B : Int} (hB : 0 ≤ B) (m : Nat) : 0 ≤ dmax B m := by
  induction m with
  | zero => exact Int.le_of_lt (by unfold dmax; omega)
  | succ m ih => exact Int.mul_nonneg (by omega) (Int.mul_nonneg hB ih)
theorem det_bound {B : Int} (hB : 0 ≤ B) (hB2 : B ≤ 4611686018427387904) (m : Nat) : ∀ t : List (List Int), t.length = m → RowsLen t m → Bnd B t → (∀ k, k ≤ m → dmax B k ≤ 4611686018427387904) → -(dmax B m) ≤ det m t ∧ det m t ≤ dmax B m := by
  induction m with
  | zero => intro t _ _ _ _; exact ⟨by unfold dmax det; omega, by unfold dmax det; omega⟩
  | succ m ih =>
    intro t hl hr hb hd
    have h0 : t[0]? = some t[0] := List.getElem?_eq_getElem (by omega)
    have hr0 : t[0].length = m + 1 := hr 0 _ h0
    have e : t.getD 0 [] = t[0] := by simp [List.getD, h0]
    have hM : ∀ k, 0 ≤ k → k < 0 + t[0].length → -(dmax B m) ≤ det m (minorT t 0 k) ∧ det m (minorT t 0 k) ≤ dmax B m := by
      intro k _ hk
      exact ih _ (by rw [minorT_len (by omega)]; omega) (minorT_rowsLen hr (by omega)) (hb.minor 0 k) (fun k hk => hd k (by omega))
    have hlast := hd (m + 1) (Nat.le_refl _)
    have := dloop_bound (D := det m) (t := t) hB hB2 (dmax_nonneg hB m) rfl t[0] 0 0 1 0 (fun x hx => hb _ (List.getElem_mem _) x hx) hM (by omega) (by omega) (by omega) (by omega) (by rw [hr0]; simpa [dmax] using hlast)
    unfold det
    rw [e]
    rw [hr0] at this
    simpa [dmax] using this
/-- If all minors by the first row are 0, the determinant is. -/
theorem dloop_null {D : List (List Int) → Int} {t : List (List Int)} : ∀ (xs : List Int) (j : Nat) (g : Int), (∀ k, j ≤ k → k < j + xs.length → D (minorT t 0 k) = 0) → dloop D t xs j 0 g = 0
  | [], _, _, _ => rfl
  | x :: xs, j, g, h => by
    unfold dloop
    rw [h j (Nat.le_refl _) (by simp), Int.mul_zero]
    have e : (if x = 0 then (0 : Int) else wrap64 (0 + wrap64 0)) = 0 := by split <;> simp [wrap64]
    rw [e]
    exact dloop_null xs (j + 1) (-g) (fun k h1 h2 => h k (by omega) (by simp; omega))
end Go.Proofs.Ytnoghnalopdflaa
