/- What divides all minors of two rows has its square in entry times minor of three rows; likewise one step on. Nothing of the program stands here. -/
import Derived.Test.YtgcemkpinmjaeaaDoorDgX
namespace Go.Proofs.YtgcemkpinmjaeaaDoor
open Go.RowKit
set_option linter.all false
theorem dv {G a b : Int} (h1 : G ∣ a) (h2 : G ∣ b) : G * G ∣ a * b := Int.mul_dvd_mul h1 h2
section
variable {x : Nat → Nat → Int} {G : Int} {n : Nat}
def H2 (x : Nat → Nat → Int) (G : Int) (n : Nat) : Prop := ∀ r s c d, r < n → s < n → c < n → d < n → G ∣ M2 x r s c d
theorem row1 (H : H2 x G n) {b r s t c d e : Nat} (hb : b < n) (hr : r < n) (hs : s < n) (ht : t < n) (hc : c < n) (hd : d < n) (he : e < n) : G * G ∣ x r b * D3 x r s t c d e := by
  rw [id_row1]
  exact Int.dvd_sub (Int.dvd_add (Int.dvd_neg.2 (dv (H _ _ _ _ hr hs hc hd) (H _ _ _ _ hr ht he hb))) (dv (H _ _ _ _ hr hs hc he) (H _ _ _ _ hr ht hd hb))) (dv (H _ _ _ _ hr hs hd he) (H _ _ _ _ hr ht hc hb))
theorem col1 (H : H2 x G n) {a r s t c d e : Nat} (ha : a < n) (hr : r < n) (hs : s < n) (ht : t < n) (hc : c < n) (hd : d < n) (he : e < n) : G * G ∣ x a c * D3 x r s t c d e := by
  rw [id_col1]
  exact Int.dvd_sub (Int.dvd_add (Int.dvd_neg.2 (dv (H _ _ _ _ hr hs hc hd) (H _ _ _ _ ht ha hc he))) (dv (H _ _ _ _ hr ht hc hd) (H _ _ _ _ hs ha hc he))) (dv (H _ _ _ _ hs ht hc hd) (H _ _ _ _ hr ha hc he))
theorem two1 (H : H2 x G n) {a b r s t c d e : Nat} (ha : a < n) (hb : b < n) (hr : r < n) (hs : s < n) (ht : t < n) (hc : c < n) (hd : d < n) (he : e < n) : G * G ∣ 2 * (x a b * D3 x r s t c d e) := by
  rw [id_two]
  exact Int.dvd_add (Int.dvd_add (Int.dvd_sub (Int.dvd_sub (Int.dvd_sub (Int.dvd_add (Int.dvd_sub (Int.dvd_sub (Int.dvd_add (dv (H _ _ _ _ hr hs hd he) (H _ _ _ _ ht ha hc hb)) (dv (H _ _ _ _ hr hs hd hb) (H _ _ _ _ ht ha hc he)))
    (dv (H _ _ _ _ hr hs he hb) (H _ _ _ _ ht ha hc hd))) (dv (H _ _ _ _ hr ht hc hd) (H _ _ _ _ hs ha he hb))) (dv (H _ _ _ _ hr ht hc he) (H _ _ _ _ hs ha hd hb)))
    (dv (H _ _ _ _ hr ht hc hb) (H _ _ _ _ hs ha hd he))) (Int.dvd_mul_of_dvd_right (dv (H _ _ _ _ hr ht hd he) (H _ _ _ _ hs ha hc hb)))) (dv (H _ _ _ _ hr ha hc hd) (H _ _ _ _ hs ht he hb)))
    (dv (H _ _ _ _ hr ha hc he) (H _ _ _ _ hs ht hd hb))) (dv (H _ _ _ _ hr ha hc hb) (H _ _ _ _ hs ht hd he))
theorem rowR (H : H2 x G n) {a b r s t c d e : Nat} (ha : a < n) (hb : b < n) (hr : r < n) (hs : s < n) (ht : t < n) (hc : c < n) (hd : d < n) (he : e < n) : G * G ∣ x a b * D3 x r s t c d e + x r b * D3 x a s t c d e := by
  rw [id_row]
  exact Int.dvd_sub (Int.dvd_add (Int.dvd_sub (Int.dvd_sub (Int.dvd_add (Int.dvd_neg.2 (dv (H _ _ _ _ ha hs hc hd) (H _ _ _ _ hr ht he hb))) (dv (H _ _ _ _ ha hs hc he) (H _ _ _ _ hr ht hd hb))) (dv (H _ _ _ _ ha hs hd he) (H _ _ _ _ hr ht hc hb)))
    (dv (H _ _ _ _ hr hs hc hd) (H _ _ _ _ ha ht he hb))) (dv (H _ _ _ _ hr hs hc he) (H _ _ _ _ ha ht hd hb))) (dv (H _ _ _ _ hr hs hd he) (H _ _ _ _ ha ht hc hb))
theorem colR (H : H2 x G n) {a b r s t c d e : Nat} (ha : a < n) (hb : b < n) (hr : r < n) (hs : s < n) (ht : t < n) (hc : c < n) (hd : d < n) (he : e < n) : G * G ∣ x a b * D3 x r s t c d e + x a c * D3 x r s t b d e := by
  rw [id_col]
  exact Int.dvd_sub (Int.dvd_add (Int.dvd_sub (Int.dvd_sub (Int.dvd_add (Int.dvd_neg.2 (dv (H _ _ _ _ hr hs hb hd) (H _ _ _ _ ht ha hc he))) (dv (H _ _ _ _ hr ht hb hd) (H _ _ _ _ hs ha hc he))) (dv (H _ _ _ _ hs ht hb hd) (H _ _ _ _ hr ha hc he)))
    (dv (H _ _ _ _ hr hs hc hd) (H _ _ _ _ ht ha hb he))) (dv (H _ _ _ _ hr ht hc hd) (H _ _ _ _ hs ha hb he))) (dv (H _ _ _ _ hs ht hc hd) (H _ _ _ _ hr ha hb he))
theorem lap4 (H : H2 x G n) {r s t u c d e f : Nat} (hr : r < n) (hs : s < n) (ht : t < n) (hu : u < n) (hc : c < n) (hd : d < n) (he : e < n) (hf : f < n) : G * G ∣ D4 x r s t u c d e f := by
  rw [id_lap]
  exact Int.dvd_add (Int.dvd_sub (Int.dvd_add (Int.dvd_add (Int.dvd_sub (dv (H _ _ _ _ hr hs hc hd) (H _ _ _ _ ht hu he hf)) (dv (H _ _ _ _ hr hs hc he) (H _ _ _ _ ht hu hd hf))) (dv (H _ _ _ _ hr hs hc hf) (H _ _ _ _ ht hu hd he)))
    (dv (H _ _ _ _ hr hs hd he) (H _ _ _ _ ht hu hc hf))) (dv (H _ _ _ _ hr hs hd hf) (H _ _ _ _ ht hu hc he))) (dv (H _ _ _ _ hr hs he hf) (H _ _ _ _ ht hu hc hd))
/-- The entry is one of the rows. -/
theorem rowIn (H : H2 x G n) {a b r s t c d e : Nat} (h : a = r ∨ a = s ∨ a = t) (hb : b < n) (hr : r < n) (hs : s < n) (ht : t < n) (hc : c < n) (hd : d < n) (he : e < n) : G * G ∣ x a b * D3 x r s t c d e := by
  rcases h with rfl | rfl | rfl
  · exact row1 H hb hr hs ht hc hd he
  · have := row1 H hb hs hr ht hc hd he
    rw [D3_s12, Int.mul_neg] at this
    exact Int.dvd_neg.1 this
  · have := row1 H hb ht hs hr hc hd he
    rw [D3_s13, Int.mul_neg] at this
    exact Int.dvd_neg.1 this
theorem colIn (H : H2 x G n) {a b r s t c d e : Nat} (h : b = c ∨ b = d ∨ b = e) (ha : a < n) (hr : r < n) (hs : s < n) (ht : t < n) (hc : c < n) (hd : d < n) (he : e < n) : G * G ∣ x a b * D3 x r s t c d e := by
  rcases h with rfl | rfl | rfl
  · exact col1 H ha hr hs ht hc hd he
  · have := col1 H ha hr hs ht hd hc he
    rw [D3_c12, Int.mul_neg] at this
    exact Int.dvd_neg.1 this
  · have := col1 H ha hr hs ht he hd hc
    rw [D3_c13, Int.mul_neg] at this
    exact Int.dvd_neg.1 this
theorem rowSame {r s t c d e : Nat} (h : r = s ∨ r = t ∨ s = t) : D3 x r s t c d e = 0 := by
  rcases h with rfl | rfl | rfl
  · exact D3_rr x _ _ _ _ _
  · exact D3_rr2 x _ _ _ _ _
  · exact D3_rr3 x _ _ _ _ _
theorem colSame {r s t c d e : Nat} (h : c = d ∨ c = e ∨ d = e) : D3 x r s t c d e = 0 := by
  rcases h with rfl | rfl | rfl
  · exact D3_cc x _ _ _ _ _
  · exact D3_cc2 x _ _ _ _ _
  · exact D3_cc3 x _ _ _ _ _
/-- The entry that is least at 2. -/
theorem least1 (H : H2 x G n) {a b : Nat} (ha : a < n) (hb : b < n) (hL : ∀ c, c < n → Le2 (x a b) (x c b)) {r s t c d e : Nat} (hr : r < n) (hs : s < n) (ht : t < n) (hc : c < n) (hd : d < n) (he : e < n) : G * G ∣ x a b * D3 x r s t c d e := by
  obtain ⟨m1, o1, q1, e1⟩ := hL r hr
  obtain ⟨m2, o2, q2, e2⟩ := hL s hs
  obtain ⟨m3, o3, q3, e3⟩ := hL t ht
  refine odd_two (m := m1 * m2 * m3) (by rw [Int.mul_emod, Int.mul_emod m1, o1, o2, o3]; rfl) ?_ (two1 H ha hb hr hs ht hc hd he)
  have hx := id_exp x a r s t b c d e
  have h4 := lap4 H ha hr hs ht hb hc hd he
  have k1 := rowIn H (a := a) (b := b) (r := a) (s := s) (t := t) (.inl rfl) hb ha hs ht hc hd he
  have k2 := rowIn H (a := a) (b := b) (r := a) (s := r) (t := t) (.inl rfl) hb ha hr ht hc hd he
  have k3 := rowIn H (a := a) (b := b) (r := a) (s := r) (t := s) (.inl rfl) hb ha hr hs hc hd he
  have e : m1 * m2 * m3 * (x a b * D3 x r s t c d e) = m1 * m2 * m3 * D4 x a r s t b c d e + m2 * m3 * q1 * (x a b * D3 x a s t c d e) - m1 * m3 * q2 * (x a b * D3 x a r t c d e) + m1 * m2 * q3 * (x a b * D3 x a r s c d e) := by
    rw [hx]
    have f1 : m1 * m2 * m3 * (x r b * D3 x a s t c d e) = m2 * m3 * q1 * (x a b * D3 x a s t c d e) := by
      calc m1 * m2 * m3 * (x r b * D3 x a s t c d e) = m2 * m3 * (m1 * x r b) * D3 x a s t c d e := by grind
        _ = m2 * m3 * q1 * (x a b * D3 x a s t c d e) := by rw [e1]; grind
    have f2 : m1 * m2 * m3 * (x s b * D3 x a r t c d e) = m1 * m3 * q2 * (x a b * D3 x a r t c d e) := by
      calc m1 * m2 * m3 * (x s b * D3 x a r t c d e) = m1 * m3 * (m2 * x s b) * D3 x a r t c d e := by grind
        _ = m1 * m3 * q2 * (x a b * D3 x a r t c d e) := by rw [e2]; grind
    have f3 : m1 * m2 * m3 * (x t b * D3 x a r s c d e) = m1 * m2 * q3 * (x a b * D3 x a r s c d e) := by
      calc m1 * m2 * m3 * (x t b * D3 x a r s c d e) = m1 * m2 * (m3 * x t b) * D3 x a r s c d e := by grind
        _ = m1 * m2 * q3 * (x a b * D3 x a r s c d e) := by rw [e3]; grind
    rw [← f1, ← f2, ← f3]
    grind
  rw [e]
  exact Int.dvd_add (Int.dvd_sub (Int.dvd_add (Int.dvd_mul_of_dvd_right h4) (Int.dvd_mul_of_dvd_right k1)) (Int.dvd_mul_of_dvd_right k2)) (Int.dvd_mul_of_dvd_right k3)
theorem one_three (hn : n ≤ 4) (H : H2 x G n) {a b r s t c d e : Nat} (ha : a < n) (hb : b < n) (hr : r < n) (hs : s < n) (ht : t < n) (hc : c < n) (hd : d < n) (he : e < n) : G * G ∣ x a b * D3 x r s t c d e := by
  have h0 : 0 < n * n := Nat.mul_pos (by omega) (by omega)
  obtain ⟨i, hi, hl⟩ := least2 (fun i => x (i / n) (i % n)) (n * n) h0
  have hpos : 0 < n := by omega
  have hA : i / n < n := Nat.div_lt_of_lt_mul hi
  have hB : i % n < n := Nat.mod_lt _ hpos
  generalize i / n = A at hl hA
  generalize i % n = B at hl hB
  have hL : ∀ c, c < n → Le2 (x A B) (x c B) := by
    intro c hc
    have h := hl (c * n + B) (by
      have h1 : c * n + n ≤ n * n := by rw [← Nat.succ_mul]; exact Nat.mul_le_mul_right n hc
      omega)
    rw [Nat.mul_comm c n, Nat.mul_add_div hpos, Nat.mul_add_mod, Nat.div_eq_of_lt hB, Nat.mod_eq_of_lt hB, Nat.add_zero] at h
    exact h
  have S1 : ∀ r s t c d e, r < n → s < n → t < n → c < n → d < n → e < n → G * G ∣ x A B * D3 x r s t c d e := fun r s t c d e hr hs ht hc hd he => least1 H hA hB hL hr hs ht hc hd he
  have S2 : ∀ a r s t c d e, a < n → r < n → s < n → t < n → c < n → d < n → e < n → G * G ∣ x a B * D3 x r s t c d e := by
    intro a r s t c d e ha hr hs ht hc hd he
    have base : ∀ s t c d e, s < n → t < n → c < n → d < n → e < n → G * G ∣ x a B * D3 x A s t c d e := by
      intro s t c d e hs ht hc hd he
      have h1 := rowR H ha hB hA hs ht hc hd he
      have h2 := S1 a s t c d e ha hs ht hc hd he
      have := Int.dvd_sub h1 h2
      rwa [Int.add_sub_cancel] at this
    by_cases q1 : r = A
    · subst q1; exact base s t c d e hs ht hc hd he
    by_cases q2 : s = A
    · subst q2
      have := base r t c d e hr ht hc hd he
      rw [D3_s12, Int.mul_neg] at this
      exact Int.dvd_neg.1 this
    by_cases q3 : t = A
    · subst q3
      have := base s r c d e hs hr hc hd he
      rw [D3_s13, Int.mul_neg] at this
      exact Int.dvd_neg.1 this
    by_cases q4 : a = r ∨ a = s ∨ a = t
    · exact rowIn H q4 hB hr hs ht hc hd he
    by_cases q5 : r = s ∨ r = t ∨ s = t
    · rw [rowSame q5, Int.mul_zero]; exact Int.dvd_zero _
    by_cases q6 : a = A
    · subst q6; exact S1 r s t c d e hr hs ht hc hd he
    omega
  have base : ∀ r s t d e, r < n → s < n → t < n → d < n → e < n → G * G ∣ x a b * D3 x r s t B d e := by
    intro r s t d e hr hs ht hd he
    have h1 := colR H ha hb hr hs ht hB hd he
    have h2 := S2 a r s t b d e ha hr hs ht hb hd he
    have := Int.dvd_sub h1 h2
    rwa [Int.add_sub_cancel] at this
  by_cases q1 : c = B
  · subst q1; exact base r s t d e hr hs ht hd he
  by_cases q2 : d = B
  · subst q2
    have := base r s t c e hr hs ht hc he
    rw [D3_c12, Int.mul_neg] at this
    exact Int.dvd_neg.1 this
  by_cases q3 : e = B
  · subst q3
    have := base r s t d c hr hs ht hd hc
    rw [D3_c13, Int.mul_neg] at this
    exact Int.dvd_neg.1 this
  by_cases q4 : b = c ∨ b = d ∨ b = e
  · exact colIn H q4 ha hr hs ht hc hd he
  by_cases q5 : c = d ∨ c = e ∨ d = e
  · rw [colSame q5, Int.mul_zero]; exact Int.dvd_zero _
  by_cases q6 : b = B
  · subst q6; exact S2 a r s t c d e ha hr hs ht hc hd he
  omega
/-- Two rows and four. -/
theorem two_four {r s t u c d e f : Nat} (h1 : G ∣ D3 x r s t c d e) (h2 : G ∣ D3 x r s u c d f) (h3 : G ∣ D3 x r s t c d f) (h4 : G ∣ D3 x r s u c d e) : G * G ∣ M2 x r s c d * D4 x r s t u c d e f := by
  rw [id_jac]
  exact Int.dvd_sub (dv h1 h2) (dv h3 h4)
end
end Go.Proofs.YtgcemkpinmjaeaaDoor
