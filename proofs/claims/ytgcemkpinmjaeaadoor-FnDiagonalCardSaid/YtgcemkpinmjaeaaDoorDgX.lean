/- Products of minors: what divides all minors of two (three) rows divides its square's products. Nothing of the program stands here. -/
import Derived.Test.YtgcemkpinmjaeaaDoorBase
namespace Go.Proofs.YtgcemkpinmjaeaaDoor
open Go.RowKit
set_option linter.all false
section
variable (x : Nat → Nat → Int)
def M2 (r s c d : Nat) : Int := x r c * x s d - x r d * x s c
def D3 (r s t c d e : Nat) : Int := x r c * (x s d * x t e - x s e * x t d) - x r d * (x s c * x t e - x s e * x t c) + x r e * (x s c * x t d - x s d * x t c)
def D4 (r s t u c d e f : Nat) : Int := x r c * D3 x s t u d e f - x r d * D3 x s t u c e f + x r e * D3 x s t u c d f - x r f * D3 x s t u c d e
theorem D3_s12 (r s t c d e : Nat) : D3 x s r t c d e = -D3 x r s t c d e := by unfold D3; grind
theorem D3_s13 (r s t c d e : Nat) : D3 x t s r c d e = -D3 x r s t c d e := by unfold D3; grind
theorem D3_c12 (r s t c d e : Nat) : D3 x r s t d c e = -D3 x r s t c d e := by unfold D3; grind
theorem D3_c13 (r s t c d e : Nat) : D3 x r s t e d c = -D3 x r s t c d e := by unfold D3; grind
theorem D3_rr (r t c d e : Nat) : D3 x r r t c d e = 0 := by unfold D3; grind
theorem D3_rr2 (r t c d e : Nat) : D3 x r t r c d e = 0 := by unfold D3; grind
theorem D3_rr3 (r t c d e : Nat) : D3 x t r r c d e = 0 := by unfold D3; grind
theorem D3_cc (r s t c e : Nat) : D3 x r s t c c e = 0 := by unfold D3; grind
theorem D3_cc2 (r s t c e : Nat) : D3 x r s t c e c = 0 := by unfold D3; grind
theorem D3_cc3 (r s t c e : Nat) : D3 x r s t e c c = 0 := by unfold D3; grind
/-- An entry of one of the rows. -/
theorem id_row (a b r s t c d e : Nat) : x a b * D3 x r s t c d e + x r b * D3 x a s t c d e =
    -(M2 x a s c d * M2 x r t e b) + M2 x a s c e * M2 x r t d b - M2 x a s d e * M2 x r t c b - M2 x r s c d * M2 x a t e b + M2 x r s c e * M2 x a t d b - M2 x r s d e * M2 x a t c b := by
  unfold D3 M2; grind
theorem id_row1 (b r s t c d e : Nat) : x r b * D3 x r s t c d e = -(M2 x r s c d * M2 x r t e b) + M2 x r s c e * M2 x r t d b - M2 x r s d e * M2 x r t c b := by
  unfold D3 M2; grind
theorem id_col1 (a r s t c d e : Nat) : x a c * D3 x r s t c d e = -(M2 x r s c d * M2 x t a c e) + M2 x r t c d * M2 x s a c e - M2 x s t c d * M2 x r a c e := by
  unfold D3 M2; grind
theorem id_two (a b r s t c d e : Nat) : 2 * (x a b * D3 x r s t c d e) = M2 x r s d e * M2 x t a c b + M2 x r s d b * M2 x t a c e - M2 x r s e b * M2 x t a c d - M2 x r t c d * M2 x s a e b + M2 x r t c e * M2 x s a d b
    - M2 x r t c b * M2 x s a d e - 2 * (M2 x r t d e * M2 x s a c b) - M2 x r a c d * M2 x s t e b + M2 x r a c e * M2 x s t d b + M2 x r a c b * M2 x s t d e := by
  unfold D3 M2; grind
theorem id_col (a b r s t c d e : Nat) : x a b * D3 x r s t c d e + x a c * D3 x r s t b d e =
    -(M2 x r s b d * M2 x t a c e) + M2 x r t b d * M2 x s a c e - M2 x s t b d * M2 x r a c e - M2 x r s c d * M2 x t a b e + M2 x r t c d * M2 x s a b e - M2 x s t c d * M2 x r a b e := by
  unfold D3 M2; grind
theorem id_lap (r s t u c d e f : Nat) : D4 x r s t u c d e f = M2 x r s c d * M2 x t u e f - M2 x r s c e * M2 x t u d f + M2 x r s c f * M2 x t u d e + M2 x r s d e * M2 x t u c f - M2 x r s d f * M2 x t u c e + M2 x r s e f * M2 x t u c d := by
  unfold D4 D3 M2; grind
theorem id_exp (r s t u c d e f : Nat) : D4 x r s t u c d e f = x r c * D3 x s t u d e f - x s c * D3 x r t u d e f + x t c * D3 x r s u d e f - x u c * D3 x r s t d e f := by
  unfold D4 D3; grind
theorem id_jac (r s t u c d e f : Nat) : M2 x r s c d * D4 x r s t u c d e f = D3 x r s t c d e * D3 x r s u c d f - D3 x r s t c d f * D3 x r s u c d e := by
  unfold D4 D3 M2; grind
theorem D4_r23 (r s t u c d e f : Nat) : D4 x r t s u c d e f = -D4 x r s t u c d e f := by unfold D4 D3; grind
theorem D4_r12 (r s t u c d e f : Nat) : D4 x s r t u c d e f = -D4 x r s t u c d e f := by unfold D4 D3; grind
theorem D4_r34 (r s t u c d e f : Nat) : D4 x r s u t c d e f = -D4 x r s t u c d e f := by unfold D4 D3; grind
theorem D4_c23 (r s t u c d e f : Nat) : D4 x r s t u c e d f = -D4 x r s t u c d e f := by unfold D4 D3; grind
theorem D4_c12 (r s t u c d e f : Nat) : D4 x r s t u d c e f = -D4 x r s t u c d e f := by unfold D4 D3; grind
theorem D4_c34 (r s t u c d e f : Nat) : D4 x r s t u c d f e = -D4 x r s t u c d e f := by unfold D4 D3; grind
end
/- Odd multiples. -/
def Le2 (u v : Int) : Prop := ∃ m : Int, m % 2 = 1 ∧ u ∣ m * v
theorem Le2.refl (u : Int) : Le2 u u := ⟨1, rfl, by rw [Int.one_mul]; exact Int.dvd_refl u⟩
theorem Le2.trans {u v w : Int} (h : Le2 u v) (k : Le2 v w) : Le2 u w := by
  obtain ⟨m, hm, h⟩ := h
  obtain ⟨n, hn, k⟩ := k
  refine ⟨m * n, by rw [Int.mul_emod, hm, hn]; rfl, ?_⟩
  rw [Int.mul_assoc]
  exact Int.dvd_trans h (Int.mul_dvd_mul (Int.dvd_refl m) k)
theorem Le2.total : ∀ (f : Nat) (u v : Int), u.natAbs + v.natAbs ≤ f → Le2 u v ∨ Le2 v u
  | 0, u, v, h => by
    have hu : u = 0 := by omega
    have hv : v = 0 := by omega
    subst hu hv
    exact .inl (Le2.refl 0)
  | f + 1, u, v, h => by
    by_cases h1 : u % 2 = 1
    · exact .inl ⟨u, h1, Int.dvd_mul_right u v⟩
    by_cases h2 : v % 2 = 1
    · exact .inr ⟨v, h2, Int.dvd_mul_right v u⟩
    by_cases h0 : u = 0 ∧ v = 0
    · obtain ⟨rfl, rfl⟩ := h0; exact .inl (Le2.refl 0)
    obtain ⟨p, rfl⟩ : ∃ p, u = 2 * p := ⟨u / 2, by omega⟩
    obtain ⟨q, rfl⟩ : ∃ q, v = 2 * q := ⟨v / 2, by omega⟩
    have up : ∀ p q : Int, Le2 p q → Le2 (2 * p) (2 * q) := by
      intro p q ⟨m, hm, hd⟩
      refine ⟨m, hm, ?_⟩
      rw [Int.mul_left_comm]
      exact Int.mul_dvd_mul (Int.dvd_refl 2) hd
    rcases Le2.total f p q (by omega) with h3 | h3
    · exact .inl (up _ _ h3)
    · exact .inr (up _ _ h3)
theorem least2 (f : Nat → Int) : ∀ n, 0 < n → ∃ i, i < n ∧ ∀ j, j < n → Le2 (f i) (f j)
  | 0, h => by omega
  | 1, _ => ⟨0, by omega, fun j hj => by have : j = 0 := by omega
                                         subst this; exact Le2.refl _⟩
  | n + 2, _ => by
    obtain ⟨i, hi, h⟩ := least2 f (n + 1) (by omega)
    rcases Le2.total _ (f i) (f (n + 1)) (Nat.le_refl _) with h1 | h1
    · refine ⟨i, by omega, fun j hj => ?_⟩
      by_cases e : j = n + 1
      · subst e; exact h1
      · exact h j (by omega)
    · refine ⟨n + 1, by omega, fun j hj => ?_⟩
      by_cases e : j = n + 1
      · subst e; exact Le2.refl _
      · exact h1.trans (h j (by omega))
/-- What divides an odd multiple and the double divides. -/
theorem odd_two {G m P : Int} (hm : m % 2 = 1) (h1 : G ∣ m * P) (h2 : G ∣ 2 * P) : G ∣ P := by
  have e : P = m * P - (m / 2) * (2 * P) := by
    have hm2 : m = 2 * (m / 2) + 1 := by omega
    generalize m / 2 = k at hm2 ⊢
    subst hm2
    grind
  rw [e]
  exact Int.dvd_sub h1 (Int.dvd_mul_of_dvd_right h2)
end Go.Proofs.YtgcemkpinmjaeaaDoor
