/- Resting numbers rest: what comes into a vertex is what it holds. Nothing of the program stands here. -/
import Derived.Test.YtjkpndhfdlnpdaaBothT
namespace Go.Proofs.Ytjkpndhfdlnpdaa
open Go.RowKit
set_option linter.all false
theorem pdet0 (t : List (List Int)) : pdet 0 t = 1 := rfl
theorem statP1 {a0 s : Int} (h0 : a0 = s) : ∀ j, j < 1 → Sm 1 (fun i => pdet 0 (minorT [[s - a0]] i i) * en [[a0]] i j) = s * pdet 0 (minorT [[s - a0]] j j) := by
  have m0 : pdet 0 (minorT [[s - a0]] 0 0) = pdet 0 [] := by simp [minorT, cut]
  rw [pdet0] at m0
  obtain rfl : a0 = s - (0) := by omega
  clear h0
  intro j hj
  obtain rfl : j = 0 := by omega
  all_goals simp only [Sm, m0, en, List.getD_cons_zero, List.getD_cons_succ]
  all_goals (clear m0 hj; grind)
theorem statP2 {a0 a1 b0 b1 s : Int} (h0 : a0 + a1 = s) (h1 : b0 + b1 = s) : ∀ j, j < 2 → Sm 2 (fun i => pdet 1 (minorT [[s - a0, -a1], [-b0, s - b1]] i i) * en [[a0, a1], [b0, b1]] i j) = s * pdet 1 (minorT [[s - a0, -a1], [-b0, s - b1]] j j) := by
  have m0 : pdet 1 (minorT [[s - a0, -a1], [-b0, s - b1]] 0 0) = pdet 1 [[s - b1]] := by simp [minorT, cut]
  rw [pdet1] at m0
  have m1 : pdet 1 (minorT [[s - a0, -a1], [-b0, s - b1]] 1 1) = pdet 1 [[s - a0]] := by simp [minorT, cut]
  rw [pdet1] at m1
  obtain rfl : a0 = s - (0 + a1) := by omega
  obtain rfl : b1 = s - (0 + b0) := by omega
  clear h0 h1
  intro j hj
  obtain rfl | rfl : j = 0 ∨ j = 1 := by omega
  all_goals simp only [Sm, m0, m1, en, List.getD_cons_zero, List.getD_cons_succ]
  all_goals (clear m0 m1 hj; grind)
theorem statP3 {a0 a1 a2 b0 b1 b2 c0 c1 c2 s : Int} (h0 : a0 + a1 + a2 = s) (h1 : b0 + b1 + b2 = s) (h2 : c0 + c1 + c2 = s) : ∀ j, j < 3 → Sm 3 (fun i => pdet 2 (minorT [[s - a0, -a1, -a2], [-b0, s - b1, -b2], [-c0, -c1, s - c2]] i i) * en [[a0, a1, a2], [b0, b1, b2], [c0, c1, c2]] i j) = s * pdet 2 (minorT [[s - a0, -a1, -a2], [-b0, s - b1, -b2], [-c0, -c1, s - c2]] j j) := by
  have m0 : pdet 2 (minorT [[s - a0, -a1, -a2], [-b0, s - b1, -b2], [-c0, -c1, s - c2]] 0 0) = pdet 2 [[s - b1, -b2], [-c1, s - c2]] := by simp [minorT, cut]
  rw [pdet2] at m0
  have m1 : pdet 2 (minorT [[s - a0, -a1, -a2], [-b0, s - b1, -b2], [-c0, -c1, s - c2]] 1 1) = pdet 2 [[s - a0, -a2], [-c0, s - c2]] := by simp [minorT, cut]
  rw [pdet2] at m1
  have m2 : pdet 2 (minorT [[s - a0, -a1, -a2], [-b0, s - b1, -b2], [-c0, -c1, s - c2]] 2 2) = pdet 2 [[s - a0, -a1], [-b0, s - b1]] := by simp [minorT, cut]
  rw [pdet2] at m2
  obtain rfl : a0 = s - (0 + a1 + a2) := by omega
  obtain rfl : b1 = s - (0 + b0 + b2) := by omega
  obtain rfl : c2 = s - (0 + c0 + c1) := by omega
  clear h0 h1 h2
  intro j hj
  obtain rfl | rfl | rfl : j = 0 ∨ j = 1 ∨ j = 2 := by omega
  all_goals simp only [Sm, m0, m1, m2, en, List.getD_cons_zero, List.getD_cons_succ]
  all_goals (clear m0 m1 m2 hj; grind)
theorem statP4 {a0 a1 a2 a3 b0 b1 b2 b3 c0 c1 c2 c3 d0 d1 d2 d3 s : Int} (h0 : a0 + a1 + a2 + a3 = s) (h1 : b0 + b1 + b2 + b3 = s) (h2 : c0 + c1 + c2 + c3 = s) (h3 : d0 + d1 + d2 + d3 = s) : ∀ j, j < 4 → Sm 4 (fun i => pdet 3 (minorT [[s - a0, -a1, -a2, -a3], [-b0, s - b1, -b2, -b3], [-c0, -c1, s - c2, -c3], [-d0, -d1, -d2, s - d3]] i i) * en [[a0, a1, a2, a3], [b0, b1, b2, b3], [c0, c1, c2, c3], [d0, d1, d2, d3]] i j) = s * pdet 3 (minorT [[s - a0, -a1, -a2, -a3], [-b0, s - b1, -b2, -b3], [-c0, -c1, s - c2, -c3], [-d0, -d1, -d2, s - d3]] j j) := by
  have m0 : pdet 3 (minorT [[s - a0, -a1, -a2, -a3], [-b0, s - b1, -b2, -b3], [-c0, -c1, s - c2, -c3], [-d0, -d1, -d2, s - d3]] 0 0) = pdet 3 [[s - b1, -b2, -b3], [-c1, s - c2, -c3], [-d1, -d2, s - d3]] := by simp [minorT, cut]
  rw [pdet3] at m0
  have m1 : pdet 3 (minorT [[s - a0, -a1, -a2, -a3], [-b0, s - b1, -b2, -b3], [-c0, -c1, s - c2, -c3], [-d0, -d1, -d2, s - d3]] 1 1) = pdet 3 [[s - a0, -a2, -a3], [-c0, s - c2, -c3], [-d0, -d2, s - d3]] := by simp [minorT, cut]
  rw [pdet3] at m1
  have m2 : pdet 3 (minorT [[s - a0, -a1, -a2, -a3], [-b0, s - b1, -b2, -b3], [-c0, -c1, s - c2, -c3], [-d0, -d1, -d2, s - d3]] 2 2) = pdet 3 [[s - a0, -a1, -a3], [-b0, s - b1, -b3], [-d0, -d1, s - d3]] := by simp [minorT, cut]
  rw [pdet3] at m2
  have m3 : pdet 3 (minorT [[s - a0, -a1, -a2, -a3], [-b0, s - b1, -b2, -b3], [-c0, -c1, s - c2, -c3], [-d0, -d1, -d2, s - d3]] 3 3) = pdet 3 [[s - a0, -a1, -a2], [-b0, s - b1, -b2], [-c0, -c1, s - c2]] := by simp [minorT, cut]
  rw [pdet3] at m3
  obtain rfl : a0 = s - (0 + a1 + a2 + a3) := by omega
  obtain rfl : b1 = s - (0 + b0 + b2 + b3) := by omega
  obtain rfl : c2 = s - (0 + c0 + c1 + c3) := by omega
  obtain rfl : d3 = s - (0 + d0 + d1 + d2) := by omega
  clear h0 h1 h2 h3
  intro j hj
  obtain rfl | rfl | rfl | rfl : j = 0 ∨ j = 1 ∨ j = 2 ∨ j = 3 := by omega
  all_goals simp only [Sm, m0, m1, m2, m3, en, List.getD_cons_zero, List.getD_cons_succ]
  all_goals (clear m0 m1 m2 m3 hj; grind)
theorem Sm_bd : ∀ (n : Nat) (f : Nat → Int) (B : Int), (∀ j, j < n → 0 ≤ f j ∧ f j ≤ B) → 0 ≤ Sm n f ∧ Sm n f ≤ n * B
  | 0, _, _, _ => by simp [Sm]
  | n + 1, f, B, h => by
    have h1 := Sm_bd n f B (fun j hj => h j (by omega))
    have h2 := h n (by omega)
    have e : ((n + 1 : Nat) : Int) * B = n * B + B := by rw [Int.natCast_add, Int.add_mul]; omega
    unfold Sm
    rw [e]
    omega
theorem less1 {a0 s : Int} (hb : ∀ x ∈ [a0], 0 ≤ x ∧ x ≤ 60) (hs : 1 ≤ s ∧ s ≤ 60) : lessT s 1 [[a0]] = [[s - a0]] := by
  simp [lessT, lessRow, negRow, List.range_succ, neg_w (hb a0 (by simp)), dia_w (hb a0 (by simp)) hs]
theorem less2 {a0 a1 b0 b1 s : Int} (hb : ∀ x ∈ [a0, a1, b0, b1], 0 ≤ x ∧ x ≤ 60) (hs : 1 ≤ s ∧ s ≤ 60) : lessT s 1 [[a0, a1], [b0, b1]] = [[s - a0, -a1], [-b0, s - b1]] := by
  simp [lessT, lessRow, negRow, List.range_succ, neg_w (hb a0 (by simp)), neg_w (hb a1 (by simp)), neg_w (hb b0 (by simp)), neg_w (hb b1 (by simp)), dia_w (hb a0 (by simp)) hs, dia_w (hb b1 (by simp)) hs]
theorem less3 {a0 a1 a2 b0 b1 b2 c0 c1 c2 s : Int} (hb : ∀ x ∈ [a0, a1, a2, b0, b1, b2, c0, c1, c2], 0 ≤ x ∧ x ≤ 60) (hs : 1 ≤ s ∧ s ≤ 60) :
    lessT s 1 [[a0, a1, a2], [b0, b1, b2], [c0, c1, c2]] = [[s - a0, -a1, -a2], [-b0, s - b1, -b2], [-c0, -c1, s - c2]] := by
  simp [lessT, lessRow, negRow, List.range_succ, neg_w (hb a0 (by simp)), neg_w (hb a1 (by simp)), neg_w (hb a2 (by simp)), neg_w (hb b0 (by simp)), neg_w (hb b1 (by simp)), neg_w (hb b2 (by simp)), neg_w (hb c0 (by simp)), neg_w (hb c1 (by simp)), neg_w (hb c2 (by simp)), dia_w (hb a0 (by simp)) hs, dia_w (hb b1 (by simp)) hs, dia_w (hb c2 (by simp)) hs]
theorem less4 {a0 a1 a2 a3 b0 b1 b2 b3 c0 c1 c2 c3 d0 d1 d2 d3 s : Int} (hb : ∀ x ∈ [a0, a1, a2, a3, b0, b1, b2, b3, c0, c1, c2, c3, d0, d1, d2, d3], 0 ≤ x ∧ x ≤ 60) (hs : 1 ≤ s ∧ s ≤ 60) :
    lessT s 1 [[a0, a1, a2, a3], [b0, b1, b2, b3], [c0, c1, c2, c3], [d0, d1, d2, d3]] = [[s - a0, -a1, -a2, -a3], [-b0, s - b1, -b2, -b3], [-c0, -c1, s - c2, -c3], [-d0, -d1, -d2, s - d3]] := by
  simp [lessT, lessRow, negRow, List.range_succ, neg_w (hb a0 (by simp)), neg_w (hb a1 (by simp)), neg_w (hb a2 (by simp)), neg_w (hb a3 (by simp)), neg_w (hb b0 (by simp)), neg_w (hb b1 (by simp)), neg_w (hb b2 (by simp)), neg_w (hb b3 (by simp)), neg_w (hb c0 (by simp)), neg_w (hb c1 (by simp)), neg_w (hb c2 (by simp)), neg_w (hb c3 (by simp)), neg_w (hb d0 (by simp)), neg_w (hb d1 (by simp)), neg_w (hb d2 (by simp)), neg_w (hb d3 (by simp)), dia_w (hb a0 (by simp)) hs, dia_w (hb b1 (by simp)) hs, dia_w (hb c2 (by simp)) hs, dia_w (hb d3 (by simp)) hs]
/-- In plain determinants. -/
theorem stat_plain {t : List (List Int)} (hc : isChance t = true) : ∀ j, j < t.length → Sm t.length (fun i => pdet (t.length - 1) (minorT (lessT (isum 0 (t.getD 0 [])) 1 t) i i) * en t i j) = isum 0 (t.getD 0 []) * pdet (t.length - 1) (minorT (lessT (isum 0 (t.getD 0 [])) 1 t) j j) := by
  have hf := chance_facts hc
  obtain ⟨s, hs⟩ : ∃ s, isum 0 (t.getD 0 []) = s := ⟨_, rfl⟩
  rw [hs] at hf ⊢
  clear hs
  obtain ⟨h1, h4, hs1, hs2, hr⟩ := hf
  obtain e | e | e | e : t.length = 1 ∨ t.length = 2 ∨ t.length = 3 ∨ t.length = 4 := by omega
  · obtain ⟨r0, rfl⟩ := len1 e
    have g0 := hr r0 (by simp)
    obtain ⟨a0, rfl⟩ := len1 g0.1
    rw [less1 (fun x hx => ?_) ⟨hs1, hs2⟩]
    · exact statP1 (by have := g0.2.2; simp at this; omega)
    · simp only [List.mem_cons, List.not_mem_nil, or_false] at hx
      rcases hx with rfl
      all_goals first | (refine g0.2.1 _ ?_; simp; done)
  · obtain ⟨r0, r1, rfl⟩ := len2 e
    have g0 := hr r0 (by simp)
    have g1 := hr r1 (by simp)
    obtain ⟨a0, a1, rfl⟩ := len2 g0.1
    obtain ⟨b0, b1, rfl⟩ := len2 g1.1
    rw [less2 (fun x hx => ?_) ⟨hs1, hs2⟩]
    · exact statP2 (by have := g0.2.2; simp at this; omega) (by have := g1.2.2; simp at this; omega)
    · simp only [List.mem_cons, List.not_mem_nil, or_false] at hx
      rcases hx with rfl | rfl | rfl | rfl
      all_goals first | (refine g0.2.1 _ ?_; simp; done) | (refine g1.2.1 _ ?_; simp; done)
  · obtain ⟨r0, r1, r2, rfl⟩ := len3 e
    have g0 := hr r0 (by simp)
    have g1 := hr r1 (by simp)
    have g2 := hr r2 (by simp)
    obtain ⟨a0, a1, a2, rfl⟩ := len3 g0.1
    obtain ⟨b0, b1, b2, rfl⟩ := len3 g1.1
    obtain ⟨c0, c1, c2, rfl⟩ := len3 g2.1
    rw [less3 (fun x hx => ?_) ⟨hs1, hs2⟩]
    · exact statP3 (by have := g0.2.2; simp at this; omega) (by have := g1.2.2; simp at this; omega) (by have := g2.2.2; simp at this; omega)
    · simp only [List.mem_cons, List.not_mem_nil, or_false] at hx
      rcases hx with rfl | rfl | rfl | rfl | rfl | rfl | rfl | rfl | rfl
      all_goals first | (refine g0.2.1 _ ?_; simp; done) | (refine g1.2.1 _ ?_; simp; done) | (refine g2.2.1 _ ?_; simp; done)
  · obtain ⟨r0, r1, r2, r3, rfl⟩ := len4 e
    have g0 := hr r0 (by simp)
    have g1 := hr r1 (by simp)
    have g2 := hr r2 (by simp)
    have g3 := hr r3 (by simp)
    obtain ⟨a0, a1, a2, a3, rfl⟩ := len4 g0.1
    obtain ⟨b0, b1, b2, b3, rfl⟩ := len4 g1.1
    obtain ⟨c0, c1, c2, c3, rfl⟩ := len4 g2.1
    obtain ⟨d0, d1, d2, d3, rfl⟩ := len4 g3.1
    rw [less4 (fun x hx => ?_) ⟨hs1, hs2⟩]
    · exact statP4 (by have := g0.2.2; simp at this; omega) (by have := g1.2.2; simp at this; omega) (by have := g2.2.2; simp at this; omega) (by have := g3.2.2; simp at this; omega)
    · simp only [List.mem_cons, List.not_mem_nil, or_false] at hx
      rcases hx with rfl | rfl | rfl | rfl | rfl | rfl | rfl | rfl | rfl | rfl | rfl | rfl | rfl | rfl | rfl | rfl
      all_goals first | (refine g0.2.1 _ ?_; simp; done) | (refine g1.2.1 _ ?_; simp; done) | (refine g2.2.1 _ ?_; simp; done) | (refine g3.2.1 _ ?_; simp; done)
theorem en_bd {t : List (List Int)} (hc : isChance t = true) (i j : Nat) : 0 ≤ en t i j ∧ en t i j ≤ 60 := by
  refine ⟨chance_nn hc i j, ?_⟩
  unfold en
  cases hu : t[i]? with
  | none => simp [List.getD, hu]
  | some r =>
    cases hv : r[j]? with
    | none => simp [List.getD, hu, hv]
    | some x =>
      simp only [List.getD, hu, hv, Option.getD_some]
      exact (((chance_facts hc).2.2.2.2 r (List.mem_of_getElem? hu)).2.1 x (List.mem_of_getElem? hv)).2
/-- In the program's determinants. -/
theorem stat_cof {t : List (List Int)} (h : restOk t = true) {j : Nat} (hj : j < t.length) : Sm t.length (fun i => cofAt t i * en t i j) = isum 0 (t.getD 0 []) * cofAt t j := by
  have h' := h
  simp only [restOk, Bool.and_eq_true] at h'
  have hc := h'.1
  have hg := cof_good h'.1 h'.2
  have hf := chance_facts hc
  have hbd : ∀ i, i < t.length → 0 ≤ cofAt t i * en t i j ∧ cofAt t i * en t i j ≤ 240000000 := by
    intro i hi
    have h1 := hg i hi
    have h2 := en_bd hc i j
    have h3 : cofAt t i * en t i j ≤ 4000000 * 60 := Int.mul_le_mul h1.2 h2.2 h2.1 (by omega)
    exact ⟨Int.mul_nonneg (by omega) h2.1, by omega⟩
  have hS := Sm_bd t.length _ _ hbd
  have hR : 0 ≤ isum 0 (t.getD 0 []) * cofAt t j ∧ isum 0 (t.getD 0 []) * cofAt t j ≤ 60 * 4000000 := by
    have h1 := hg j hj
    exact ⟨Int.mul_nonneg (by omega) (by omega), Int.mul_le_mul hf.2.2.2.1 h1.2 (by omega) (by omega)⟩
  have hC : Cg (Sm t.length (fun i => cofAt t i * en t i j)) (isum 0 (t.getD 0 []) * cofAt t j) := by
    refine (Sm_Cg _ _ _ (fun i _ => (pdet_Cg (t.length - 1) (minorT (lessT (isum 0 (t.getD 0 [])) 1 t) i i)).mul (Cg.refl (en t i j)))).trans ?_
    rw [stat_plain hc j hj]
    exact (Cg.refl _).mul (pdet_Cg _ _).symm
  have hn : ((t.length : Nat) : Int) * 240000000 ≤ 4 * 240000000 := by omega
  exact hC.same (wrap_id (by omega)) (wrap_id (by omega))
theorem gcdL_dvd : ∀ (xs : List Int) (g : Int), gcdL g xs ∣ g ∧ ∀ x ∈ xs, gcdL g xs ∣ x
  | [], g => ⟨Int.dvd_refl _, fun x hx => by cases hx⟩
  | y :: ys, g => by
    have ih := gcdL_dvd ys (gcdI g y)
    have h1 : gcdI g y ∣ g := Int.gcd_dvd_left ..
    have h2 : gcdI g y ∣ y := Int.gcd_dvd_right ..
    refine ⟨Int.dvd_trans ih.1 h1, fun x hx => ?_⟩
    rcases List.mem_cons.1 hx with rfl | hx
    · exact Int.dvd_trans ih.1 h2
    · exact ih.2 x hx
theorem rest_cof {t : List (List Int)} (h : restOk t = true) {i : Nat} (hi : i < t.length) : gcdL 0 (cofL t) * (restV t).getD i 0 = cofAt t i := by
  have hx := cofL_get hi
  have hd := (gcdL_dvd (cofL t) 0).2 _ (List.mem_of_getElem? hx)
  have e : (restV t)[i]? = some ((cofAt t i).tdiv (gcdL 0 (cofL t))) := by
    rw [show restV t = redL (cofL t) by simp [restV, h]]
    exact redL_get hx
  simp only [List.getD, e, Option.getD_some]
  exact Int.mul_tdiv_cancel' hd
theorem rest_gcd {t : List (List Int)} (h : restOk t = true) : 0 < gcdL 0 (cofL t) := by
  have h' := h
  simp only [restOk, Bool.and_eq_true] at h'
  have hf := chance_facts h'.1
  exact (gcdL_pos (cofL_good h) (by rw [cofL_len]; omega)).1
theorem rest_pos {t : List (List Int)} (h : restOk t = true) {i : Nat} (hi : i < t.length) : 1 ≤ (restV t).getD i 0 ∧ (restV t).getD i 0 ≤ 4000000 := by
  have h' := h
  simp only [restOk, Bool.and_eq_true] at h'
  have h1 := rest_cof h hi
  have h2 := rest_gcd h
  have h3 := cof_good h'.1 h'.2 i hi
  have hn : (restV t)[i]? = some ((restV t).getD i 0) := by
    have : i < (restV t).length := by rw [show restV t = redL (cofL t) by simp [restV, h], redL_len, cofL_len]; exact hi
    simp [List.getD, this]
  have h4 := restV_nonneg t _ (List.mem_of_getElem? hn)
  refine ⟨?_, h4.2⟩
  rcases Int.lt_or_le 0 ((restV t).getD i 0) with h5 | h5
  · omega
  · have : (restV t).getD i 0 = 0 := by omega
    rw [this, Int.mul_zero] at h1
    omega
/-- The resting numbers rest. -/
theorem stat {t : List (List Int)} (h : restOk t = true) {j : Nat} (hj : j < t.length) : Sm t.length (fun i => (restV t).getD i 0 * en t i j) = isum 0 (t.getD 0 []) * (restV t).getD j 0 := by
  have h1 := stat_cof h hj
  have hg := rest_gcd h
  rw [← rest_cof h hj, Sm_congr t.length _ (fun i => gcdL 0 (cofL t) * ((restV t).getD i 0 * en t i j)) (fun i hi => by rw [← rest_cof h hi, Int.mul_assoc]), Sm_mul, Int.mul_left_comm] at h1
  exact Int.eq_of_mul_eq_mul_left (by omega) h1
end Go.Proofs.Ytjkpndhfdlnpdaa
