/- The numbers of the diagonal form: each divides the next. -/
import Derived.Test.YtgcemkpinmjaeaaDoorDgY
import Derived.Test.YtgcemkpinmjaeaaDoorDetI
import Derived.Test.YtgcemkpinmjaeaaDoorThA
namespace Go.Proofs.YtgcemkpinmjaeaaDoor
open Go.RowKit
set_option linter.all false
def el (t : List (List Int)) (r c : Nat) : Int := (t.getD r []).getD c 0
theorem dvd_gcdI {d a b : Int} : d ∣ gcdI a b ↔ d ∣ a ∧ d ∣ b :=
  ⟨fun h => ⟨Int.dvd_trans h (Int.gcd_dvd_left a b), Int.dvd_trans h (Int.gcd_dvd_right a b)⟩, fun h => Int.dvd_coe_gcd h.1 h.2⟩
theorem dvd_gcdRow {d : Int} {t : List (List Int)} {k : Nat} {rs : List Int} : ∀ (css : List (List Int)) (g : Int), d ∣ gcdRow t k rs css g ↔ d ∣ g ∧ ∀ cs ∈ css, d ∣ det k (someT t rs cs)
  | [], g => by simp [gcdRow]
  | cs :: css, g => by
    unfold gcdRow
    rw [dvd_gcdRow css, dvd_gcdI]
    simp only [List.mem_cons, forall_eq_or_imp, and_assoc]
theorem dvd_gcdAll {d : Int} {t : List (List Int)} {k : Nat} {css : List (List Int)} : ∀ (rss : List (List Int)) (g : Int), d ∣ gcdAll t k css rss g ↔ d ∣ g ∧ ∀ rs ∈ rss, ∀ cs ∈ css, d ∣ det k (someT t rs cs)
  | [], g => by simp [gcdAll]
  | rs :: rss, g => by
    unfold gcdAll
    rw [dvd_gcdAll rss, dvd_gcdRow]
    simp only [List.mem_cons, forall_eq_or_imp, and_assoc]
theorem dvd_minors {d : Int} {t : List (List Int)} {k : Nat} : d ∣ minorsI t k ↔ ∀ rs ∈ sets t.length k, ∀ cs ∈ sets t.length k, d ∣ det k (someT t rs cs) := by
  unfold minorsI
  rw [dvd_gcdAll]
  simp
/-- A product with a common divisor. -/
theorem mul_gcdI {m y a b : Int} (h1 : m ∣ y * a) (h2 : m ∣ y * b) : m ∣ y * gcdI a b := by
  have h := Int.dvd_coe_gcd h1 h2
  rw [Int.gcd_mul_left] at h
  have e : ((y.natAbs * a.gcd b : Nat) : Int) = (y.natAbs : Int) * gcdI a b := by simp [gcdI]
  rw [e] at h
  rcases Int.natAbs_eq y with hy | hy
  · rw [hy]; exact h
  · rw [hy, Int.neg_mul]; exact Int.dvd_neg.2 h
theorem mul_gcdRow {m y : Int} {t : List (List Int)} {k : Nat} {rs : List Int} : ∀ (css : List (List Int)) (g : Int), m ∣ y * g → (∀ cs ∈ css, m ∣ y * det k (someT t rs cs)) → m ∣ y * gcdRow t k rs css g
  | [], g, h, _ => h
  | cs :: css, g, h, hc => mul_gcdRow css _ (mul_gcdI h (hc cs (by simp))) (fun c hc2 => hc c (by simp [hc2]))
theorem mul_gcdAll {m y : Int} {t : List (List Int)} {k : Nat} {css : List (List Int)} : ∀ (rss : List (List Int)) (g : Int), m ∣ y * g → (∀ rs ∈ rss, ∀ cs ∈ css, m ∣ y * det k (someT t rs cs)) → m ∣ y * gcdAll t k css rss g
  | [], g, h, _ => h
  | rs :: rss, g, h, hc => mul_gcdAll rss _ (mul_gcdRow css g h (hc rs (by simp))) (fun r hr => hc r (by simp [hr]))
theorem mul_minors {m y : Int} {t : List (List Int)} {k : Nat} (h : ∀ rs ∈ sets t.length k, ∀ cs ∈ sets t.length k, m ∣ y * det k (someT t rs cs)) : m ∣ y * minorsI t k :=
  mul_gcdAll _ _ (by rw [Int.mul_zero]; exact Int.dvd_zero _) h
/- The sets by their numbers. -/
theorem sets1_all : ∀ n : Fin 5, ∀ rs ∈ sets n.val 1, ∃ a : Fin 5, a.val < n.val ∧ rs = [(a.val : Int)] := by decide
theorem sets2_all : ∀ n : Fin 5, ∀ rs ∈ sets n.val 2, ∃ a b : Fin 5, a.val < b.val ∧ b.val < n.val ∧ rs = [(a.val : Int), (b.val : Int)] := by decide
theorem sets3_all : ∀ n : Fin 5, ∀ rs ∈ sets n.val 3, ∃ a b c : Fin 5, a.val < b.val ∧ b.val < c.val ∧ c.val < n.val ∧ rs = [(a.val : Int), (b.val : Int), (c.val : Int)] := by decide +kernel
theorem sets4_all : ∀ n : Fin 5, ∀ rs ∈ sets n.val 4, n.val = 4 ∧ rs = [0, 1, 2, 3] := by decide
theorem sets1_in : ∀ n a : Fin 5, a.val < n.val → [(a.val : Int)] ∈ sets n.val 1 := by decide
theorem sets2_in : ∀ n a b : Fin 5, a.val < b.val → b.val < n.val → [(a.val : Int), (b.val : Int)] ∈ sets n.val 2 := by decide
theorem sets3_in : ∀ n a b c : Fin 5, a.val < b.val → b.val < c.val → c.val < n.val → [(a.val : Int), (b.val : Int), (c.val : Int)] ∈ sets n.val 3 := by decide +kernel
theorem some1 (t : List (List Int)) (r c : Nat) : detI 1 (someT t [(r : Int)] [(c : Int)]) = el t r c := by
  have e : someT t [(r : Int)] [(c : Int)] = [[el t r c]] := by simp [someT, pickRow, el]
  rw [e, detI1]
theorem some2 (t : List (List Int)) (r s c d : Nat) : detI 2 (someT t [(r : Int), (s : Int)] [(c : Int), (d : Int)]) = M2 (el t) r s c d := by
  have e : someT t [(r : Int), (s : Int)] [(c : Int), (d : Int)] = [[el t r c, el t r d], [el t s c, el t s d]] := by simp [someT, pickRow, el]
  rw [e, detI2]; rfl
theorem some3 (t : List (List Int)) (r s u c d e : Nat) : detI 3 (someT t [(r : Int), (s : Int), (u : Int)] [(c : Int), (d : Int), (e : Int)]) = D3 (el t) r s u c d e := by
  have h : someT t [(r : Int), (s : Int), (u : Int)] [(c : Int), (d : Int), (e : Int)] = [[el t r c, el t r d, el t r e], [el t s c, el t s d, el t s e], [el t u c, el t u d, el t u e]] := by simp [someT, pickRow, el]
  rw [h, detI3]; rfl
theorem some4 (t : List (List Int)) : detI 4 (someT t [0, 1, 2, 3] [0, 1, 2, 3]) = D4 (el t) 0 1 2 3 0 1 2 3 := by
  have h : someT t [0, 1, 2, 3] [0, 1, 2, 3] = [[el t 0 0, el t 0 1, el t 0 2, el t 0 3], [el t 1 0, el t 1 1, el t 1 2, el t 1 3], [el t 2 0, el t 2 1, el t 2 2, el t 2 3], [el t 3 0, el t 3 1, el t 3 2, el t 3 3]] := by simp [someT, pickRow, el]
  rw [h, detI4, detI3, detI3, detI3, detI3]; rfl
theorem det_some {t : List (List Int)} (h : Bnd 100 t) {k : Nat} (hk : k ≤ 4) {rs cs : List Int} (h1 : rs.length = k) (h2 : cs.length = k) : det k (someT t rs cs) = detI k (someT t rs cs) :=
  det_eqI (B := 100) (by omega) (by omega) k _ (by rw [someT_len, h1]) (by rw [← h2]; exact someT_rowsLen t rs cs) (h.pick (by omega) rs cs) (fun m hm => dmaxC m (by omega))
section
variable {t : List (List Int)} (hb : Bnd 100 t) (hn : t.length ≤ 4)
include hb hn
theorem el_dvd {G : Int} (h : G ∣ minorsI t 1) {r c : Nat} (hr : r < t.length) (hc : c < t.length) : G ∣ el t r c := by
  have := dvd_minors.1 h _ (sets1_in ⟨t.length, by omega⟩ ⟨r, by omega⟩ hr) _ (sets1_in ⟨t.length, by omega⟩ ⟨c, by omega⟩ hc)
  rw [det_some (k := 1) hb (by omega) rfl rfl, some1] at this
  exact this
theorem m2_dvd {G : Int} (h : G ∣ minorsI t 2) : H2 (el t) G t.length := by
  have up : ∀ r s c d, r < s → s < t.length → c < d → d < t.length → G ∣ M2 (el t) r s c d := by
    intro r s c d h1 h2 h3 h4
    have := dvd_minors.1 h _ (sets2_in ⟨t.length, by omega⟩ ⟨r, by omega⟩ ⟨s, by omega⟩ h1 h2) _ (sets2_in ⟨t.length, by omega⟩ ⟨c, by omega⟩ ⟨d, by omega⟩ h3 h4)
    rw [det_some (k := 2) hb (by omega) rfl rfl, some2] at this
    exact this
  have a1 : ∀ r s c d, M2 (el t) s r c d = -M2 (el t) r s c d := by intro r s c d; unfold M2; grind
  have a2 : ∀ r s c d, M2 (el t) r s d c = -M2 (el t) r s c d := by intro r s c d; unfold M2; grind
  have a3 : ∀ r c d, M2 (el t) r r c d = 0 := by intro r c d; unfold M2; grind
  have a4 : ∀ r s c, M2 (el t) r s c c = 0 := by intro r s c; unfold M2; grind
  have cols : ∀ r s c d, r < s → s < t.length → c < t.length → d < t.length → G ∣ M2 (el t) r s c d := by
    intro r s c d h1 h2 h3 h4
    rcases Nat.lt_trichotomy c d with h5 | h5 | h5
    · exact up r s c d h1 h2 h5 h4
    · subst h5; rw [a4]; exact Int.dvd_zero _
    · rw [a2]; exact Int.dvd_neg.2 (up r s d c h1 h2 h5 h3)
  intro r s c d h1 h2 h3 h4
  rcases Nat.lt_trichotomy r s with h5 | h5 | h5
  · exact cols r s c d h5 h2 h3 h4
  · subst h5; rw [a3]; exact Int.dvd_zero _
  · rw [a1]; exact Int.dvd_neg.2 (cols s r c d h5 h1 h3 h4)
theorem d3_dvd {G : Int} (h : G ∣ minorsI t 3) : ∀ r s u c d e, r < s → s < u → u < t.length → c < d → d < e → e < t.length → G ∣ D3 (el t) r s u c d e := by
  intro r s u c d e h1 h2 h3 h4 h5 h6
  have := dvd_minors.1 h _ (sets3_in ⟨t.length, by omega⟩ ⟨r, by omega⟩ ⟨s, by omega⟩ ⟨u, by omega⟩ h1 h2 h3) _ (sets3_in ⟨t.length, by omega⟩ ⟨c, by omega⟩ ⟨d, by omega⟩ ⟨e, by omega⟩ h4 h5 h6)
  rw [det_some (k := 3) hb (by omega) rfl rfl, some3] at this
  exact this
theorem sq1 : minorsI t 1 * minorsI t 1 ∣ minorsI t 2 := by
  rw [dvd_minors]
  intro rs hrs cs hcs
  obtain ⟨r, s, h1, h2, rfl⟩ := sets2_all ⟨t.length, by omega⟩ rs hrs
  obtain ⟨c, d, h3, h4, rfl⟩ := sets2_all ⟨t.length, by omega⟩ cs hcs
  rw [det_some (k := 2) hb (by omega) rfl rfl, some2]
  have hd := fun {r c : Nat} (hr : r < t.length) (hc : c < t.length) => el_dvd hb hn (Int.dvd_refl (minorsI t 1)) hr hc
  have g1 : r.val < t.length := by have : s.val < t.length := h2; omega
  have g2 : s.val < t.length := h2
  have g3 : c.val < t.length := by have : d.val < t.length := h4; omega
  have g4 : d.val < t.length := h4
  unfold M2
  exact Int.dvd_sub (dv (hd g1 g3) (hd g2 g4)) (dv (hd g1 g4) (hd g2 g3))
theorem sq2 : minorsI t 2 * minorsI t 2 ∣ minorsI t 1 * minorsI t 3 := by
  have H := m2_dvd hb hn (Int.dvd_refl (minorsI t 2))
  apply mul_minors
  intro rs hrs cs hcs
  obtain ⟨r, s, u, h1, h2, h3, rfl⟩ := sets3_all ⟨t.length, by omega⟩ rs hrs
  obtain ⟨c, d, e, h4, h5, h6, rfl⟩ := sets3_all ⟨t.length, by omega⟩ cs hcs
  rw [det_some (k := 3) hb (by omega) rfl rfl, some3, Int.mul_comm (minorsI t 1)]
  apply mul_minors
  intro ps hps qs hqs
  obtain ⟨a, h7, rfl⟩ := sets1_all ⟨t.length, by omega⟩ ps hps
  obtain ⟨b, h8, rfl⟩ := sets1_all ⟨t.length, by omega⟩ qs hqs
  rw [det_some (k := 1) hb (by omega) rfl rfl, some1, Int.mul_comm (D3 _ _ _ _ _ _ _)]
  have g3 : u.val < t.length := h3
  have g6 : e.val < t.length := h6
  exact one_three hn H h7 h8 (by omega) (by omega) h3 (by omega) (by omega) h6
omit hb hn in
theorem d4_perm (x : Nat → Nat → Int) : ∀ (r s : Fin 4), r.val < s.val → ∃ u v : Nat, (u < 4 ∧ v < 4 ∧ u < v) ∧ (∀ c d e f, D4 x r.val s.val u v c d e f = D4 x 0 1 2 3 c d e f ∨ D4 x r.val s.val u v c d e f = -D4 x 0 1 2 3 c d e f) ∧ (r.val ≠ u ∧ s.val ≠ u ∧ r.val ≠ v ∧ s.val ≠ v) := by
  intro r s h
  have hr := r.isLt
  have hs := s.isLt
  have key : (r.val = 0 ∧ s.val = 1) ∨ (r.val = 0 ∧ s.val = 2) ∨ (r.val = 0 ∧ s.val = 3) ∨ (r.val = 1 ∧ s.val = 2) ∨ (r.val = 1 ∧ s.val = 3) ∨ (r.val = 2 ∧ s.val = 3) := by omega
  rcases key with ⟨e1, e2⟩ | ⟨e1, e2⟩ | ⟨e1, e2⟩ | ⟨e1, e2⟩ | ⟨e1, e2⟩ | ⟨e1, e2⟩ <;> rw [e1, e2]
  · exact ⟨2, 3, by omega, fun c d e f => .inl rfl, by omega⟩
  · exact ⟨1, 3, by omega, fun c d e f => .inr (D4_r23 x 0 1 2 3 c d e f), by omega⟩
  · exact ⟨1, 2, by omega, fun c d e f => .inl (by rw [D4_r23, D4_r34]; omega), by omega⟩
  · exact ⟨0, 3, by omega, fun c d e f => .inl (by rw [D4_r23, D4_r12]; omega), by omega⟩
  · exact ⟨0, 2, by omega, fun c d e f => .inr (by rw [D4_r23, D4_r12, D4_r34]; omega), by omega⟩
  · exact ⟨0, 1, by omega, fun c d e f => .inl (by rw [D4_r23, D4_r12, D4_r34, D4_r23]; omega), by omega⟩
omit hb hn in
theorem d4_permC (x : Nat → Nat → Int) : ∀ (r s : Fin 4), r.val < s.val → ∃ u v : Nat, (u < 4 ∧ v < 4 ∧ u < v) ∧ (∀ a b c d, D4 x a b c d r.val s.val u v = D4 x a b c d 0 1 2 3 ∨ D4 x a b c d r.val s.val u v = -D4 x a b c d 0 1 2 3) ∧ (r.val ≠ u ∧ s.val ≠ u ∧ r.val ≠ v ∧ s.val ≠ v) := by
  intro r s h
  have hr := r.isLt
  have hs := s.isLt
  have key : (r.val = 0 ∧ s.val = 1) ∨ (r.val = 0 ∧ s.val = 2) ∨ (r.val = 0 ∧ s.val = 3) ∨ (r.val = 1 ∧ s.val = 2) ∨ (r.val = 1 ∧ s.val = 3) ∨ (r.val = 2 ∧ s.val = 3) := by omega
  rcases key with ⟨e1, e2⟩ | ⟨e1, e2⟩ | ⟨e1, e2⟩ | ⟨e1, e2⟩ | ⟨e1, e2⟩ | ⟨e1, e2⟩ <;> rw [e1, e2]
  · exact ⟨2, 3, by omega, fun c d e f => .inl rfl, by omega⟩
  · exact ⟨1, 3, by omega, fun c d e f => .inr (D4_c23 x c d e f 0 1 2 3), by omega⟩
  · exact ⟨1, 2, by omega, fun c d e f => .inl (by rw [D4_c23, D4_c34]; omega), by omega⟩
  · exact ⟨0, 3, by omega, fun c d e f => .inl (by rw [D4_c23, D4_c12]; omega), by omega⟩
  · exact ⟨0, 2, by omega, fun c d e f => .inr (by rw [D4_c23, D4_c12, D4_c34]; omega), by omega⟩
  · exact ⟨0, 1, by omega, fun c d e f => .inl (by rw [D4_c23, D4_c12, D4_c34, D4_c23]; omega), by omega⟩
/-- All minors of three rows, in any order of the rows and columns that are apart. -/
theorem d3_any {G : Int} (h : G ∣ minorsI t 3) : ∀ r s u c d e, r < t.length → s < t.length → u < t.length → c < t.length → d < t.length → e < t.length → G ∣ D3 (el t) r s u c d e := by
  have up := d3_dvd hb hn h
  have cols : ∀ r s u c d e, r < s → s < u → u < t.length → c < t.length → d < t.length → e < t.length → G ∣ D3 (el t) r s u c d e := by
    intro r s u c d e h1 h2 h3 h4 h5 h6
    by_cases q : c = d ∨ c = e ∨ d = e
    · rw [colSame q]; exact Int.dvd_zero _
    have key : (c < d ∧ d < e) ∨ (d < c ∧ c < e) ∨ (e < d ∧ d < c) ∨ (d < e ∧ e < c) ∨ (c < e ∧ e < d) ∨ (e < c ∧ c < d) := by omega
    rcases key with k | k | k | k | k | k
    · exact up _ _ _ _ _ _ h1 h2 h3 k.1 k.2 h6
    · have := up _ _ _ _ _ _ h1 h2 h3 k.1 k.2 h6
      rw [D3_c12] at this; exact Int.dvd_neg.1 this
    · have := up _ _ _ _ _ _ h1 h2 h3 k.1 k.2 h4
      rw [D3_c13] at this; exact Int.dvd_neg.1 this
    · have := up _ _ _ _ _ _ h1 h2 h3 k.1 k.2 h4
      have e1 : D3 (el t) r s u d e c = D3 (el t) r s u c d e := by unfold D3; grind
      rw [e1] at this; exact this
    · have := up _ _ _ _ _ _ h1 h2 h3 k.1 k.2 h5
      have e1 : D3 (el t) r s u c e d = -D3 (el t) r s u c d e := by unfold D3; grind
      rw [e1] at this; exact Int.dvd_neg.1 this
    · have := up _ _ _ _ _ _ h1 h2 h3 k.1 k.2 h5
      have e1 : D3 (el t) r s u e c d = D3 (el t) r s u c d e := by unfold D3; grind
      rw [e1] at this; exact this
  intro r s u c d e h1 h2 h3 h4 h5 h6
  by_cases q : r = s ∨ r = u ∨ s = u
  · rw [rowSame q]; exact Int.dvd_zero _
  have key : (r < s ∧ s < u) ∨ (s < r ∧ r < u) ∨ (u < s ∧ s < r) ∨ (s < u ∧ u < r) ∨ (r < u ∧ u < s) ∨ (u < r ∧ r < s) := by omega
  rcases key with k | k | k | k | k | k
  · exact cols _ _ _ _ _ _ k.1 k.2 h3 h4 h5 h6
  · have := cols _ _ _ _ _ _ k.1 k.2 h3 h4 h5 h6
    rw [D3_s12] at this; exact Int.dvd_neg.1 this
  · have := cols _ _ _ _ _ _ k.1 k.2 h1 h4 h5 h6
    rw [D3_s13] at this; exact Int.dvd_neg.1 this
  · have := cols _ _ _ _ _ _ k.1 k.2 h1 h4 h5 h6
    have e1 : D3 (el t) s u r c d e = D3 (el t) r s u c d e := by unfold D3; grind
    rw [e1] at this; exact this
  · have := cols _ _ _ _ _ _ k.1 k.2 h2 h4 h5 h6
    have e1 : D3 (el t) r u s c d e = -D3 (el t) r s u c d e := by unfold D3; grind
    rw [e1] at this; exact Int.dvd_neg.1 this
  · have := cols _ _ _ _ _ _ k.1 k.2 h2 h4 h5 h6
    have e1 : D3 (el t) u r s c d e = D3 (el t) r s u c d e := by unfold D3; grind
    rw [e1] at this; exact this
theorem sq3 : minorsI t 3 * minorsI t 3 ∣ minorsI t 2 * minorsI t 4 := by
  have H := d3_any hb hn (Int.dvd_refl (minorsI t 3))
  apply mul_minors
  intro rs hrs cs hcs
  obtain ⟨h4, rfl⟩ := sets4_all ⟨t.length, by omega⟩ rs hrs
  obtain ⟨_, rfl⟩ := sets4_all ⟨t.length, by omega⟩ cs hcs
  have hl : t.length = 4 := h4
  rw [det_some (k := 4) hb (by omega) rfl rfl, some4, Int.mul_comm (minorsI t 2)]
  apply mul_minors
  intro ps hps qs hqs
  obtain ⟨r, s, h1, h2, rfl⟩ := sets2_all ⟨t.length, by omega⟩ ps hps
  obtain ⟨c, d, h5, h6, rfl⟩ := sets2_all ⟨t.length, by omega⟩ qs hqs
  rw [det_some (k := 2) hb (by omega) rfl rfl, some2, Int.mul_comm (D4 _ _ _ _ _ _ _ _ _)]
  have g2 : s.val < 4 := by have : s.val < t.length := h2; omega
  have g6 : d.val < 4 := by have : d.val < t.length := h6; omega
  obtain ⟨u, v, hu, hp, _⟩ := d4_perm (el t) ⟨r.val, by omega⟩ ⟨s.val, g2⟩ h1
  obtain ⟨e, f, he, hq, _⟩ := d4_permC (el t) ⟨c.val, by omega⟩ ⟨d.val, g6⟩ h5
  have hj := two_four (x := el t) (G := minorsI t 3) (r := r.val) (s := s.val) (t := u) (u := v) (c := c.val) (d := d.val) (e := e) (f := f)
    (H _ _ _ _ _ _ (by omega) (by omega) (by omega) (by omega) (by omega) (by omega)) (H _ _ _ _ _ _ (by omega) (by omega) (by omega) (by omega) (by omega) (by omega)) (H _ _ _ _ _ _ (by omega) (by omega) (by omega) (by omega) (by omega) (by omega)) (H _ _ _ _ _ _ (by omega) (by omega) (by omega) (by omega) (by omega) (by omega))
  have e1 := hp c.val d.val e f
  have e2 := hq 0 1 2 3
  simp only at e1 e2
  rcases e1 with e1 | e1 <;> rcases e2 with e2 | e2 <;> rw [e1, e2] at hj
  · exact hj
  · rw [Int.mul_neg] at hj; exact Int.dvd_neg.1 hj
  · rw [Int.mul_neg] at hj; exact Int.dvd_neg.1 hj
  · rw [Int.neg_neg] at hj; exact hj
end
end Go.Proofs.YtgcemkpinmjaeaaDoor
