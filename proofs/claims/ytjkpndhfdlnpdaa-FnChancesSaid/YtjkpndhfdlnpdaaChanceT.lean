/- The determinants without a row and the same column of an irreducible chance table are above 0: sums over trees. Nothing of the program stands here. -/
import Derived.Test.YtjkpndhfdlnpdaaReach
import Derived.Test.YtjkpndhfdlnpdaaLessT
import Derived.Test.YtjkpndhfdlnpdaaDetB
import Derived.Test.YtjkpndhfdlnpdaaFRmath
import Derived.Test.YtjkpndhfdlnpdaaSIsChance
namespace Go.Proofs.Ytjkpndhfdlnpdaa
open Go.RowKit
set_option linter.all false
def pdloop (D : List (List Int) → Int) (t : List (List Int)) : List Int → Nat → Int → Int → Int
  | [], _, s, _ => s
  | x :: xs, j, s, g => pdloop D t xs (j + 1) (s + g * x * D (minorT t 0 j)) (-g)
def pdet : Nat → List (List Int) → Int
  | 0, _ => 1
  | m + 1, t => pdloop (pdet m) t (t.getD 0 []) 0 0 1
theorem pdloop_Cg {D E : List (List Int) → Int} (hD : ∀ t, Cg (D t) (E t)) (t : List (List Int)) : ∀ (xs : List Int) (j : Nat) (s s' g : Int), Cg s s' → Cg (dloop D t xs j s g) (pdloop E t xs j s' g)
  | [], _, _, _, _, h => h
  | x :: xs, j, s, s', g, h => by
    unfold dloop pdloop
    refine pdloop_Cg hD t xs (j + 1) _ _ (-g) ?_
    by_cases hx : x = 0
    · rw [if_pos hx, hx]
      simpa using h
    · rw [if_neg hx]
      exact (Cg.wrap _).trans (h.add ((Cg.wrap _).trans ((Cg.wrap _).mul (hD _))))
theorem pdet_Cg : ∀ (m : Nat) (t : List (List Int)), Cg (det m t) (pdet m t)
  | 0, _ => Cg.refl _
  | m + 1, t => pdloop_Cg (pdet_Cg m) t _ 0 0 0 1 (Cg.refl _)
theorem pdet1 (a : Int) : pdet 1 [[a]] = a := by simp [pdet, pdloop]
theorem pdet2 (a b c d : Int) : pdet 2 [[a, b], [c, d]] = a * d - b * c := by
  simp [pdet, pdloop, minorT, cut]
  grind
theorem pdet3 (a b c d e f g h k : Int) : pdet 3 [[a, b, c], [d, e, f], [g, h, k]] = a * (e * k - f * h) - b * (d * k - f * g) + c * (d * h - e * g) := by
  simp [pdet, pdloop, minorT, cut]
  grind
theorem mul3_pos {a b c : Int} (ha : 0 < a) (hb : 0 < b) (hc : 0 < c) : 0 < a * b * c := Int.mul_pos (Int.mul_pos ha hb) hc
theorem mul3_bd {a b c : Int} (ha : 0 ≤ a ∧ a ≤ 60) (hb : 0 ≤ b ∧ b ≤ 60) (hc : 0 ≤ c ∧ c ≤ 60) : 0 ≤ a * b * c ∧ a * b * c ≤ 216000 := by
  have h1 : 0 ≤ a * b := Int.mul_nonneg ha.1 hb.1
  have h2 : a * b ≤ 60 * 60 := Int.mul_le_mul ha.2 hb.2 hb.1 (by omega)
  have h3 : a * b * c ≤ 3600 * 60 := Int.mul_le_mul (by omega) hc.2 hc.1 (by omega)
  exact ⟨Int.mul_nonneg h1 hc.1, by omega⟩
theorem mul2_bd {a b : Int} (ha : 0 ≤ a ∧ a ≤ 60) (hb : 0 ≤ b ∧ b ≤ 60) : 0 ≤ a * b ∧ a * b ≤ 3600 := by
  have h2 : a * b ≤ 60 * 60 := Int.mul_le_mul ha.2 hb.2 hb.1 (by omega)
  exact ⟨Int.mul_nonneg ha.1 hb.1, by omega⟩
theorem tree3 {a b c d e f g h k : Int} (ha : 0 ≤ a ∧ a ≤ 60) (hb : 0 ≤ b ∧ b ≤ 60) (hc : 0 ≤ c ∧ c ≤ 60) (hd : 0 ≤ d ∧ d ≤ 60) (he : 0 ≤ e ∧ e ≤ 60) (hf : 0 ≤ f ∧ f ≤ 60) (hg : 0 ≤ g ∧ g ≤ 60) (hh : 0 ≤ h ∧ h ≤ 60) (hk : 0 ≤ k ∧ k ≤ 60)
    (s0 : 0 < a + d + g) (s1 : 0 < a + b + c) (s2 : 0 < d + e + f) (s3 : 0 < g + h + k) (s12 : 0 < a + c + d + f) (s13 : 0 < a + b + g + k) (s23 : 0 < d + e + g + h) :
    0 < pdet 3 [[a + b + c, -b, -c], [-e, d + e + f, -f], [-h, -k, g + h + k]] ∧ pdet 3 [[a + b + c, -b, -c], [-e, d + e + f, -f], [-h, -k, g + h + k]] ≤ 4000000 := by
  have hp : pdet 3 [[a + b + c, -b, -c], [-e, d + e + f, -f], [-h, -k, g + h + k]] = a * d * g + a * d * h + a * d * k + a * e * g + a * e * h + a * e * k + a * f * g + a * f * h + b * d * g + b * d * h + b * d * k + b * f * g + c * d * g + c * d * k + c * e * g + c * f * g := by
    rw [pdet3]; grind
  rw [hp]
  have q1 := mul3_bd ha hd hg
  have q2 := mul3_bd ha hd hh
  have q3 := mul3_bd ha hd hk
  have q4 := mul3_bd ha he hg
  have q5 := mul3_bd ha he hh
  have q6 := mul3_bd ha he hk
  have q7 := mul3_bd ha hf hg
  have q8 := mul3_bd ha hf hh
  have q9 := mul3_bd hb hd hg
  have r1 := mul3_bd hb hd hh
  have r2 := mul3_bd hb hd hk
  have r3 := mul3_bd hb hf hg
  have r4 := mul3_bd hc hd hg
  have r5 := mul3_bd hc hd hk
  have r6 := mul3_bd hc he hg
  have r7 := mul3_bd hc hf hg
  have m3 : ∀ {x y z : Int}, 0 < x → 0 < y → 0 < z → 0 < x * y * z := fun hx hy hz => mul3_pos hx hy hz
  clear hp
  refine ⟨?_, by omega⟩
  by_cases pa : 0 < a
  · by_cases pde : 0 < d + e
    · by_cases pd : 0 < d
      · by_cases pg : 0 < g
        · have := m3 pa pd pg; omega
        · by_cases ph : 0 < h
          · have := m3 pa pd ph; omega
          · have := m3 pa pd (show 0 < k by omega); omega
      · have pe : 0 < e := by omega
        by_cases pg : 0 < g
        · have := m3 pa pe pg; omega
        · by_cases ph : 0 < h
          · have := m3 pa pe ph; omega
          · have := m3 pa pe (show 0 < k by omega); omega
    · have pf : 0 < f := by omega
      by_cases pg : 0 < g
      · have := m3 pa pf pg; omega
      · have := m3 pa pf (show 0 < h by omega); omega
  · by_cases pd : 0 < d
    · by_cases pb : 0 < b
      · by_cases pg : 0 < g
        · have := m3 pb pd pg; omega
        · by_cases ph : 0 < h
          · have := m3 pb pd ph; omega
          · have := m3 pb pd (show 0 < k by omega); omega
      · have pc : 0 < c := by omega
        by_cases pg : 0 < g
        · have := m3 pc pd pg; omega
        · have := m3 pc pd (show 0 < k by omega); omega
    · have pg : 0 < g := by omega
      by_cases pc : 0 < c
      · by_cases pe : 0 < e
        · have := m3 pc pe pg; omega
        · have := m3 pc (show 0 < f by omega) pg; omega
      · have := m3 (show 0 < b by omega) (show 0 < f by omega) pg; omega
theorem tree2 {a b d e : Int} (ha : 0 ≤ a ∧ a ≤ 60) (hb : 0 ≤ b ∧ b ≤ 60) (hd : 0 ≤ d ∧ d ≤ 60) (he : 0 ≤ e ∧ e ≤ 60) (s0 : 0 < a + d) (s1 : 0 < a + b) (s2 : 0 < d + e) :
    0 < pdet 2 [[a + b, -b], [-e, d + e]] ∧ pdet 2 [[a + b, -b], [-e, d + e]] ≤ 4000000 := by
  have hp : pdet 2 [[a + b, -b], [-e, d + e]] = a * d + a * e + b * d := by rw [pdet2]; grind
  rw [hp]
  have q1 := mul2_bd ha hd
  have q2 := mul2_bd ha he
  have q3 := mul2_bd hb hd
  refine ⟨?_, by omega⟩
  by_cases pa : 0 < a
  · by_cases pd : 0 < d
    · have := Int.mul_pos pa pd; omega
    · have := Int.mul_pos pa (show 0 < e by omega); omega
  · have := Int.mul_pos (show 0 < b by omega) (show 0 < d by omega); omega
theorem det_of_pdet {m : Nat} {t : List (List Int)} (hb : -(4611686018427387904) ≤ det m t ∧ det m t ≤ 4611686018427387904) (hp : 0 < pdet m t ∧ pdet m t ≤ 4000000) : det m t = pdet m t :=
  (pdet_Cg m t).same (wrap_id (by omega)) (wrap_id (by omega))
theorem irr_exit {m : List (List Int)} (h : irrT m = true) (S : Nat → Bool) {j i : Nat} (hj : j < m.length) (hi : i < m.length) (sj : S j = true) (si : S i = false) :
    ∃ u v, u < m.length ∧ v < m.length ∧ S u = true ∧ S v = false ∧ 0 < en m u v := by
  by_cases hc : ∀ a b, a < m.length → b < m.length → 0 < en m a b → S a = true → S b = true
  · have := irr_closed h (S := fun v => S v = true) hc j i hj hi sj
    rw [si] at this
    cases this
  · by_cases hx : ∃ u v, u < m.length ∧ v < m.length ∧ S u = true ∧ S v = false ∧ 0 < en m u v
    · exact hx
    · exfalso
      refine hc (fun a b ha hb hp hs => ?_)
      cases hsb : S b with
      | true => rfl
      | false => exact absurd ⟨a, b, ha, hb, hs, hsb, hp⟩ hx
section
variable {m : List (List Int)} (h : irrT m = true) (hnn : ∀ u v, 0 ≤ en m u v) {i j k l : Nat}
include h hnn
theorem out1 (hi : i < m.length) (hj : j < m.length) (hij : i ≠ j) (hcov : ∀ u, u < m.length → u = j ∨ u = i) : 0 < en m j i := by
  obtain ⟨u, v, hu, hv, su, sv, hp⟩ := irr_exit h (fun v => v == j) (j := j) (i := i) hj hi (by simp) (by simp [hij])
  simp at su sv
  subst su
  rcases hcov v hv with rfl | rfl
  · exact absurd rfl sv
  · exact hp
/-- From a set of one. -/
theorem exit1 (hi : i < m.length) (hj : j < m.length) (hij : i ≠ j) (hcov : ∀ u, u < m.length → u = i ∨ u = j ∨ u = k ∨ u = l) : 0 < en m j i + en m j k + en m j l := by
  obtain ⟨u, v, hu, hv, su, sv, hp⟩ := irr_exit h (fun v => v == j) (j := j) (i := i) hj hi (by simp) (by simp [hij])
  simp at su sv
  subst su
  have a1 := hnn u i
  have a2 := hnn u k
  have a3 := hnn u l
  rcases hcov v hv with rfl | rfl | rfl | rfl
  · omega
  · exact absurd rfl sv
  · omega
  · omega
/-- From a set of two. -/
theorem exit2 (hi : i < m.length) (hj : j < m.length) (hij : i ≠ j) (hik : i ≠ k) (hcov : ∀ u, u < m.length → u = i ∨ u = j ∨ u = k ∨ u = l) : 0 < en m j i + en m j l + en m k i + en m k l := by
  obtain ⟨u, v, hu, hv, su, sv, hp⟩ := irr_exit h (fun v => v == j || v == k) (j := j) (i := i) hj hi (by simp) (by simp [hij, hik])
  simp at su sv
  have a1 := hnn j i
  have a2 := hnn j l
  have a3 := hnn k i
  have a4 := hnn k l
  rcases su with rfl | rfl <;> rcases hcov v hv with rfl | rfl | rfl | rfl <;> first | omega | (exfalso; simp at sv)
/-- From a set of three. -/
theorem exit3 (hi : i < m.length) (hj : j < m.length) (hij : i ≠ j) (hik : i ≠ k) (hil : i ≠ l) (hcov : ∀ u, u < m.length → u = i ∨ u = j ∨ u = k ∨ u = l) : 0 < en m j i + en m k i + en m l i := by
  obtain ⟨u, v, hu, hv, su, sv, hp⟩ := irr_exit h (fun v => v == j || v == k || v == l) (j := j) (i := i) hj hi (by simp) (by simp [hij, hik, hil])
  simp at su sv
  have a1 := hnn j i
  have a2 := hnn k i
  have a3 := hnn l i
  rcases su with (rfl | rfl) | rfl <;> rcases hcov v hv with rfl | rfl | rfl | rfl <;> first | omega | (exfalso; simp at sv)
end
theorem len1 {α : Type} {l : List α} (h : l.length = 1) : ∃ a, l = [a] := by
  match l, h with
  | [a], _ => exact ⟨a, rfl⟩
theorem len2 {α : Type} {l : List α} (h : l.length = 2) : ∃ a b, l = [a, b] := by
  match l, h with
  | [a, b], _ => exact ⟨a, b, rfl⟩
theorem len3 {α : Type} {l : List α} (h : l.length = 3) : ∃ a b c, l = [a, b, c] := by
  match l, h with
  | [a, b, c], _ => exact ⟨a, b, c, rfl⟩
theorem len4 {α : Type} {l : List α} (h : l.length = 4) : ∃ a b c d, l = [a, b, c, d] := by
  match l, h with
  | [a, b, c, d], _ => exact ⟨a, b, c, d, rfl⟩
theorem neg_w {x : Int} (h : 0 ≤ x ∧ x ≤ 60) : wrap64 (-x) = -x := by unfold wrap64; omega
theorem dia_w {x s : Int} (h : 0 ≤ x ∧ x ≤ 60) (hs : 1 ≤ s ∧ s ≤ 60) : wrap64 (-x + s) = s - x := by unfold wrap64; omega
theorem det_bd60 {m : Nat} {t : List (List Int)} (hm : m ≤ 3) (hl : t.length = m) (hr : RowsLen t m) (hb : Bnd 60 t) : -(4611686018427387904) ≤ det m t ∧ det m t ≤ 4611686018427387904 := by
  have hd : ∀ k, k ≤ m → dmax 60 k ≤ 4611686018427387904 := by
    intro k hk
    obtain rfl | rfl | rfl | rfl : k = 0 ∨ k = 1 ∨ k = 2 ∨ k = 3 := by omega
    all_goals simp [dmax]
  have := det_bound (B := 60) (by omega) (by omega) m t hl hr hb hd
  have := hd m (Nat.le_refl _)
  omega
def cofAt (t : List (List Int)) (i : Nat) : Int := det (t.length - 1) (minorT (lessT (isum 0 (t.getD 0 [])) 1 t) i i)
theorem chance_facts {t : List (List Int)} (h : isChance t = true) : 1 ≤ t.length ∧ t.length ≤ 4 ∧ 1 ≤ isum 0 (t.getD 0 []) ∧ isum 0 (t.getD 0 []) ≤ 60 ∧ ∀ r ∈ t, r.length = t.length ∧ (∀ x ∈ r, 0 ≤ x ∧ x ≤ 60) ∧ r.sum = isum 0 (t.getD 0 []) := by
  simp only [isChance, Bool.and_eq_true] at h
  have hl := inR_true h.2
  have hr : ∀ r ∈ t, r.length = t.length ∧ (∀ x ∈ r, 0 ≤ x ∧ x ≤ 60) ∧ r.sum = isum 0 (t.getD 0 []) ∧ 1 ≤ isum 0 r ∧ isum 0 r ≤ 60 := by
    intro r hr
    have h1 := h.1
    simp only [tabC, List.all_eq_true] at h1
    have h2 := h1 r hr
    simp only [rowC, Bool.and_eq_true, decide_eq_true_eq] at h2
    have h3 := isum_row (hi := 60) (by omega) (by omega) h2.2.1 (by omega)
    have h4 := inR_true h2.2.2.2
    refine ⟨h2.1, fun x hx => ?_, by rw [← h3.1]; exact h2.2.2.1, h4.1, h4.2⟩
    have h5 := h2.2.1
    simp only [allIn, List.all_eq_true] at h5
    exact inR_true (h5 x hx)
  have h0 : t.getD 0 [] ∈ t := by
    have : 0 < t.length := by omega
    have e : t[0]? = some (t.getD 0 []) := by simp [List.getD, this]
    exact List.mem_of_getElem? e
  have h6 := hr _ h0
  exact ⟨by omega, by omega, h6.2.2.2.1, h6.2.2.2.2, fun r hr' => ⟨(hr r hr').1, (hr r hr').2.1, (hr r hr').2.2.1⟩⟩
theorem chance_nn {t : List (List Int)} (h : isChance t = true) : ∀ u v, 0 ≤ en t u v := by
  intro u v
  unfold en
  cases hu : t[u]? with
  | none => simp [List.getD, hu]
  | some r =>
    cases hv : r[v]? with
    | none => simp [List.getD, hu, hv]
    | some x =>
      simp only [List.getD, hu, hv, Option.getD_some]
      exact (((chance_facts h).2.2.2.2 r (List.mem_of_getElem? hu)).2.1 x (List.mem_of_getElem? hv)).1
end Go.Proofs.Ytjkpndhfdlnpdaa
