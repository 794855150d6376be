/- The determinant without wrapping. -/
import Derived.Test.YtgcemkpinmjaeaaDoorThA
namespace Go.Proofs.YtgcemkpinmjaeaaDoor
open Go.RowKit
set_option linter.all false
def dsum (D : List (List Int) → Int) (t : List (List Int)) : List Int → Nat → Int → Int
  | [], _, _ => 0
  | x :: xs, j, g => g * x * D (minorT t 0 j) + dsum D t xs (j + 1) (-g)
def detI : Nat → List (List Int) → Int
  | 0, _ => 1
  | m + 1, t => dsum (detI m) t (t.getD 0 []) 0 1
theorem dloop_eq {D : List (List Int) → Int} {t : List (List Int)} {B M c : Int} (hB : 0 ≤ B) (hB2 : B ≤ 4611686018427387904) (hM : 0 ≤ M) (hc : B * M = c) :
    ∀ (xs : List Int) (j : Nat) (s g S : Int), (∀ x ∈ xs, -B ≤ x ∧ x ≤ B) → (∀ k, j ≤ k → k < j + xs.length → -M ≤ D (minorT t 0 k) ∧ D (minorT t 0 k) ≤ M) →
      -1 ≤ g → g ≤ 1 → -S ≤ s → s ≤ S → S + (xs.length : Int) * c ≤ 4611686018427387904 → dloop D t xs j s g = s + dsum D t xs j g
  | [], j, s, g, S, _, _, _, _, h1, h2, _ => by simp [dloop, dsum]
  | x :: xs, j, s, g, S, hx, hD, hg1, hg2, h1, h2, hS => by
    have hc0 : 0 ≤ c := by rw [← hc]; exact Int.mul_nonneg hB hM
    have hlen : (((x :: xs).length : Nat) : Int) * c = (xs.length : Int) * c + c := by simp [Int.add_mul]
    rw [hlen] at hS
    have hl0 : 0 ≤ (xs.length : Int) * c := Int.mul_nonneg (by omega) hc0
    have hgx : -B ≤ g * x ∧ g * x ≤ B := by
      have := mul_abs (x := g) (d := x) (B := 1) (M := B) (by omega) hB ⟨hg1, hg2⟩ (hx x (by simp))
      rw [Int.one_mul] at this
      exact this
    have hd := hD j (Nat.le_refl _) (by simp)
    have hw : wrap64 (g * x) = g * x := by generalize g * x = a at *; unfold wrap64; omega
    have hp := mul_abs hB hM hgx hd
    rw [hc] at hp
    have hw2 : wrap64 (g * x * D (minorT t 0 j)) = g * x * D (minorT t 0 j) := by generalize g * x * D (minorT t 0 j) = a at *; unfold wrap64; omega
    have hw3 : wrap64 (s + g * x * D (minorT t 0 j)) = s + g * x * D (minorT t 0 j) := by generalize g * x * D (minorT t 0 j) = a at *; unfold wrap64; omega
    unfold dloop dsum
    rw [hw, hw2, hw3]
    have e : (if x = 0 then s else s + g * x * D (minorT t 0 j)) = s + g * x * D (minorT t 0 j) := by
      split
      · rename_i h0; rw [h0]; simp
      · rfl
    rw [e, dloop_eq hB hB2 hM hc xs (j + 1) _ (-g) (S + c) (fun y hy => hx y (by simp [hy])) (fun k h3 h4 => hD k (by omega) (by simp; omega)) (by omega) (by omega) (by generalize g * x * D (minorT t 0 j) = a at *; omega) (by generalize g * x * D (minorT t 0 j) = a at *; omega) (by omega)]
    omega
theorem dsum_congr {D E : List (List Int) → Int} {t : List (List Int)} : ∀ (xs : List Int) (j : Nat) (g : Int), (∀ k, j ≤ k → k < j + xs.length → D (minorT t 0 k) = E (minorT t 0 k)) → dsum D t xs j g = dsum E t xs j g
  | [], _, _, _ => rfl
  | x :: xs, j, g, h => by
    unfold dsum
    rw [h j (Nat.le_refl _) (by simp), dsum_congr xs (j + 1) (-g) (fun k h1 h2 => h k (by omega) (by simp; omega))]
theorem det_eqI {B : Int} (hB : 0 ≤ B) (hB2 : B ≤ 4611686018427387904) (m : Nat) : ∀ t : List (List Int), t.length = m → RowsLen t m → Bnd B t → (∀ k, k ≤ m → dmax B k ≤ 4611686018427387904) → det m t = detI m t := by
  induction m with
  | zero => intro t _ _ _ _; rfl
  | succ m ih =>
    intro t hl hr hb hd
    have h0 : t[0]? = some t[0] := List.getElem?_eq_getElem (by omega)
    have hr0 : t[0].length = m + 1 := hr 0 _ h0
    have e : t.getD 0 [] = t[0] := by simp [List.getD, h0]
    have hM : ∀ k, 0 ≤ k → k < 0 + t[0].length → -(dmax B m) ≤ det m (minorT t 0 k) ∧ det m (minorT t 0 k) ≤ dmax B m := by
      intro k _ hk
      exact det_bound hB hB2 m _ (by rw [minorT_len (by omega)]; omega) (minorT_rowsLen hr (by omega)) (hb.minor 0 k) (fun k hk => hd k (by omega))
    have hlast := hd (m + 1) (Nat.le_refl _)
    have := dloop_eq (D := det m) (t := t) hB hB2 (dmax_nonneg hB m) rfl t[0] 0 0 1 0 (fun x hx => hb _ (List.getElem_mem _) x hx) hM (by omega) (by omega) (by omega) (by omega) (by rw [hr0]; simpa [dmax] using hlast)
    unfold det detI
    rw [e, this, dsum_congr (E := detI m) t[0] 0 1 (fun k _ hk => ih _ (by rw [minorT_len (by omega)]; omega) (minorT_rowsLen hr (by omega)) (hb.minor 0 k) (fun k hk => hd k (by omega)))]
    omega
theorem detI1 (a : Int) : detI 1 [[a]] = a := by simp [detI, dsum]
theorem detI2 (a b c d : Int) : detI 2 [[a, b], [c, d]] = a * d - b * c := by simp [detI, dsum, minorT, cut, Int.neg_mul]; omega
theorem detI3 (a b c d e f g h i : Int) : detI 3 [[a, b, c], [d, e, f], [g, h, i]] = a * (e * i - f * h) - b * (d * i - f * g) + c * (d * h - e * g) := by
  simp [detI, dsum, minorT, cut]; grind
theorem detI4 (a b c d e f g h i j k l m n o p : Int) : detI 4 [[a, b, c, d], [e, f, g, h], [i, j, k, l], [m, n, o, p]] =
    a * detI 3 [[f, g, h], [j, k, l], [n, o, p]] - b * detI 3 [[e, g, h], [i, k, l], [m, o, p]] + c * detI 3 [[e, f, h], [i, j, l], [m, n, p]] - d * detI 3 [[e, f, g], [i, j, k], [m, n, o]] := by
  rw [detI]
  simp only [List.getD, List.getElem?_cons_zero, Option.getD_some, dsum, minorT, cut, List.eraseIdx, List.map, List.take, List.drop, List.nil_append, List.cons_append]
  grind
theorem Bnd.pick {B : Int} {t : List (List Int)} (h : Bnd B t) (hB : 0 ≤ B) (rs cs : List Int) : Bnd B (someT t rs cs) := by
  intro r hr x hx
  unfold someT at hr
  obtain ⟨a, _, rfl⟩ := List.mem_map.1 hr
  unfold pickRow at hx
  obtain ⟨c, _, rfl⟩ := List.mem_map.1 hx
  cases h1 : t[a.toNat]? with
  | none => simp [List.getD, h1]; omega
  | some q =>
    cases h2 : q[c.toNat]? with
    | none => simp [List.getD, h1, h2]; omega
    | some y =>
      simp only [List.getD, h1, h2, Option.getD_some]
      exact h q (List.mem_of_getElem? h1) y (List.mem_of_getElem? h2)
theorem dmaxC : ∀ k, k ≤ 4 → dmax 100 k ≤ 4611686018427387904 := by decide
end Go.Proofs.YtgcemkpinmjaeaaDoor
