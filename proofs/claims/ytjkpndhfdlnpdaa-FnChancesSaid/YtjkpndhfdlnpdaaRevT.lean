/- The table of the chances to come from vertices. -/
import Derived.Test.YtjkpndhfdlnpdaaStat
import Derived.Test.YtjkpndhfdlnpdaaL1Min
namespace Go.Proofs.Ytjkpndhfdlnpdaa
open Go.RowKit
set_option linter.all false
def oth (i : Nat) : List Int → Nat → Int → Int
  | [], _, p => p
  | x :: xs, k, p => oth i xs (k + 1) (if k = i then p else wrap64 (p * x))
def revRow (t : List (List Int)) (m : List Int) (n i : Nat) : List Int := (List.range n).map (fun j => wrap64 (wrap64 (m.getD j 0 * en t j i) * oth i m 0 1))
def revT (t : List (List Int)) (m : List Int) : List (List Int) := (List.range t.length).map (revRow t m t.length)
def capL (r : List Int) : List Int := r.map (fun x => mn x 1000)
def revOk (t : List (List Int)) : Bool := restOk t && isChance (revT t (capL (restV t)))
def revV (t : List (List Int)) : List (List Int) := if revOk t then revT t (capL (restV t)) else []
def prodU : Int → List Int → Bool
  | _, [] => true
  | s, x :: xs => if 60 < wrap64 (s * x) then false else prodU (wrap64 (s * x)) xs
theorem oth_step {i k : Nat} {xs : List Int} {x p R : Int} (hx : xs[k]? = some x) (h : oth i (xs.drop k) k p = R) : (k = i → oth i (xs.drop (k + 1)) (k + 1) p = R) ∧ (k ≠ i → oth i (xs.drop (k + 1)) (k + 1) (wrap64 (p * x)) = R) := by
  rw [drop_of_get hx] at h
  simp only [oth] at h
  constructor
  · intro e; rw [if_pos e] at h; exact h
  · intro e; rw [if_neg e] at h; exact h
theorem oth_end {i k : Nat} {xs : List Int} {p R : Int} (hk : xs.length ≤ k) (h : oth i (xs.drop k) k p = R) : p = R := by
  rw [drop_all xs k hk] at h
  exact h
theorem prodU_step {xs : List Int} {k : Nat} {x s : Int} {R : Bool} (hx : xs[k]? = some x) (h : prodU s (xs.drop k) = R) : (60 < wrap64 (s * x) → R = false) ∧ (¬ 60 < wrap64 (s * x) → prodU (wrap64 (s * x)) (xs.drop (k + 1)) = R) := by
  rw [drop_of_get hx] at h
  simp only [prodU] at h
  constructor
  · intro e; rw [if_pos e] at h; exact h.symm
  · intro e; rw [if_neg e] at h; exact h
theorem prodU_end {xs : List Int} {k : Nat} {s : Int} {R : Bool} (hk : xs.length ≤ k) (h : prodU s (xs.drop k) = R) : R = true := by
  rw [drop_all xs k hk] at h
  exact h.symm
theorem revRow_len (t : List (List Int)) (m : List Int) (n i : Nat) : (revRow t m n i).length = n := by simp [revRow]
theorem revRow_get {t : List (List Int)} {m : List Int} {n i j : Nat} (h : j < n) : (revRow t m n i)[j]? = some (wrap64 (wrap64 (m.getD j 0 * en t j i) * oth i m 0 1)) := by simp [revRow, h]
theorem revT_len (t : List (List Int)) (m : List Int) : (revT t m).length = t.length := by simp [revT]
theorem revT_get {t : List (List Int)} {m : List Int} {i : Nat} (h : i < t.length) : (revT t m)[i]? = some (revRow t m t.length i) := by simp [revT, h]
theorem capL_len (r : List Int) : (capL r).length = r.length := by simp [capL]
theorem capL_get {r : List Int} {j : Nat} {x : Int} (h : r[j]? = some x) : (capL r)[j]? = some (mn x 1000) := by simp [capL, h]
/-- Products, in whole numbers. -/
def lprod : List Int → Int
  | [] => 1
  | x :: xs => x * lprod xs
def tp (i : Nat) : List Int → Nat → Int
  | [], _ => 1
  | x :: xs, k => (if k = i then 1 else x) * tp i xs (k + 1)
def Pos (xs : List Int) : Prop := ∀ x ∈ xs, 1 ≤ x
theorem Pos.tail {x : Int} {xs : List Int} (h : Pos (x :: xs)) : Pos xs := fun y hy => h y (List.mem_cons_of_mem _ hy)
theorem lprod_pos : ∀ (xs : List Int), Pos xs → 1 ≤ lprod xs
  | [], _ => by simp [lprod]
  | x :: xs, h => by
    have h1 := lprod_pos xs h.tail
    have h2 := h x (by simp)
    have := Int.mul_pos (show 0 < x by omega) (show 0 < lprod xs by omega)
    unfold lprod; omega
theorem le_lprod : ∀ (xs : List Int), Pos xs → ∀ x ∈ xs, x ≤ lprod xs
  | [], _, x, hx => by cases hx
  | y :: ys, h, x, hx => by
    have h1 := lprod_pos ys h.tail
    have h2 := h y (by simp)
    unfold lprod
    rcases List.mem_cons.1 hx with rfl | hx
    · have := Int.mul_le_mul_of_nonneg_left h1 (show 0 ≤ x by omega)
      omega
    · have h3 := le_lprod ys h.tail x hx
      have := Int.mul_le_mul_of_nonneg_right h2 (show 0 ≤ lprod ys by omega)
      omega
theorem prodU_iff : ∀ (xs : List Int) (s : Int), (∀ x ∈ xs, 1 ≤ x ∧ x ≤ 4000000) → 1 ≤ s → s ≤ 60 → (prodU s xs = true ↔ s * lprod xs ≤ 60)
  | [], s, _, _, _ => by simp [prodU, lprod]; omega
  | x :: xs, s, h, h1, h2 => by
    have hx := h x (by simp)
    have hp : Pos xs := fun y hy => (h y (by simp [hy])).1
    have hl := lprod_pos xs hp
    have hb1 : 1 ≤ s * x := by have := Int.mul_pos (show 0 < s by omega) (show 0 < x by omega); omega
    have hb2 : s * x ≤ 60 * 4000000 := Int.mul_le_mul h2 hx.2 (by omega) (by omega)
    have hw : wrap64 (s * x) = s * x := wrap_id (by omega)
    have e : s * lprod (x :: xs) = s * x * lprod xs := by show s * (x * lprod xs) = _; rw [Int.mul_assoc]
    unfold prodU
    rw [hw, e]
    by_cases h60 : 60 < s * x
    · rw [if_pos h60]
      have := Int.mul_le_mul_of_nonneg_left hl (show 0 ≤ s * x by omega)
      constructor
      · intro q; cases q
      · intro q; omega
    · rw [if_neg h60]
      exact prodU_iff xs (s * x) (fun y hy => h y (by simp [hy])) hb1 (by omega)
theorem tp_low (i : Nat) : ∀ (xs : List Int) (k : Nat), Pos xs → 1 ≤ tp i xs k
  | [], _, _ => by simp [tp]
  | x :: xs, k, h => by
    have h1 := tp_low i xs (k + 1) h.tail
    have h2 := h x (by simp)
    have h3 : 1 ≤ (if k = i then 1 else x) := by split <;> omega
    have := Int.mul_pos (show 0 < (if k = i then 1 else x) by omega) (show 0 < tp i xs (k + 1) by omega)
    unfold tp; omega
theorem tp_all (i : Nat) : ∀ (xs : List Int) (k : Nat), i < k → tp i xs k = lprod xs
  | [], _, _ => rfl
  | x :: xs, k, h => by
    unfold tp lprod
    rw [if_neg (by omega), tp_all i xs (k + 1) (by omega)]
theorem tp_mul (i : Nat) : ∀ (xs : List Int) (k : Nat), k ≤ i → i < k + xs.length → xs.getD (i - k) 0 * tp i xs k = lprod xs
  | [], k, h1, h2 => by simp at h2; omega
  | x :: xs, k, h1, h2 => by
    unfold tp lprod
    by_cases e : k = i
    · rw [if_pos e, tp_all i xs (k + 1) (by omega), e, Nat.sub_self, List.getD_cons_zero, Int.one_mul]
    · rw [if_neg e, show i - k = (i - (k + 1)) + 1 by omega, List.getD_cons_succ, Int.mul_left_comm, tp_mul i xs (k + 1) (by omega) (by simp at h2; omega)]
theorem le_tp (i : Nat) : ∀ (xs : List Int) (k q : Nat) (y : Int), Pos xs → xs[q]? = some y → k + q ≠ i → y ≤ tp i xs k
  | [], k, q, y, _, h, _ => by simp at h
  | x :: xs, k, q, y, hp, h, hne => by
    have h1 := tp_low i xs (k + 1) hp.tail
    have h2 := hp x (by simp)
    unfold tp
    match q, h with
    | 0, h =>
      simp at h
      subst h
      rw [if_neg (by omega)]
      have := Int.mul_le_mul_of_nonneg_left h1 (show 0 ≤ x by omega)
      omega
    | q + 1, h =>
      have h3 := le_tp i xs (k + 1) q y hp.tail (by simpa using h) (by omega)
      have h4 : 1 ≤ (if k = i then 1 else x) := by split <;> omega
      have := Int.mul_le_mul_of_nonneg_right h4 (show 0 ≤ tp i xs (k + 1) by omega)
      omega
theorem pow_one (c : Nat) : (1 : Int) ≤ 1000 ^ c := by
  induction c with
  | zero => simp
  | succ c ih => rw [Int.pow_succ]; omega
theorem oth_tp (i : Nat) : ∀ (xs : List Int) (k : Nat) (p Q : Int), (∀ x ∈ xs, 1 ≤ x ∧ x ≤ 1000) → 1 ≤ p → p ≤ Q → Q * 1000 ^ xs.length ≤ 1000000000000000 → oth i xs k p = p * tp i xs k ∧ 1 ≤ oth i xs k p ∧ oth i xs k p ≤ Q * 1000 ^ xs.length
  | [], k, p, Q, _, h1, h2, h3 => by simp [oth, tp]; omega
  | x :: xs, k, p, Q, h, h1, h2, h3 => by
    have hx := h x (by simp)
    have hq := pow_one xs.length
    have e : Q * 1000 ^ (x :: xs).length = Q * 1000 * 1000 ^ xs.length := by rw [List.length_cons, Int.pow_succ, Int.mul_assoc, Int.mul_comm (1000 ^ xs.length) 1000]
    rw [e] at h3 ⊢
    have hQ : Q * 1000 ≤ Q * 1000 * 1000 ^ xs.length := by
      have := Int.mul_le_mul_of_nonneg_left hq (show 0 ≤ Q * 1000 by omega)
      omega
    have hpx1 : 1 ≤ p * x := by have := Int.mul_pos (show 0 < p by omega) (show 0 < x by omega); omega
    have hpx2 : p * x ≤ Q * 1000 := Int.mul_le_mul h2 hx.2 (by omega) (by omega)
    have hw : wrap64 (p * x) = p * x := wrap_id (by omega)
    unfold oth tp
    rw [hw]
    by_cases hk : k = i
    · rw [if_pos hk, if_pos hk, Int.one_mul]
      exact oth_tp i xs (k + 1) p (Q * 1000) (fun y hy => h y (by simp [hy])) h1 (by omega) h3
    · rw [if_neg hk, if_neg hk, ← Int.mul_assoc]
      exact oth_tp i xs (k + 1) (p * x) (Q * 1000) (fun y hy => h y (by simp [hy])) hpx1 hpx2 h3
theorem range_sum : ∀ (n : Nat) (f : Nat → Int), ((List.range n).map f).sum = Sm n f
  | 0, _ => rfl
  | n + 1, f => by
    rw [List.range_succ, List.map_append, List.sum_append, range_sum n f]
    simp [Sm]
theorem Sm_bd0 : ∀ (n : Nat) (f : Nat → Int), (∀ j, j < n → 0 ≤ f j) → 0 ≤ Sm n f
  | 0, _, _ => Int.le_refl _
  | n + 1, f, h => by
    unfold Sm
    have h0 := Sm_bd0 n f (fun j hj => h j (by omega))
    have hn := h n (by omega)
    omega
theorem Sm_le : ∀ (n : Nat) (f : Nat → Int), (∀ j, j < n → 0 ≤ f j) → ∀ j, j < n → f j ≤ Sm n f
  | 0, _, _, j, hj => by omega
  | n + 1, f, h, j, hj => by
    unfold Sm
    have h0 := Sm_bd0 n f (fun j hj => h j (by omega))
    have hn := h n (by omega)
    by_cases e : j = n
    · subst e; omega
    · have := Sm_le n f (fun j hj => h j (by omega)) j (by omega)
      omega
/-- The entries of a row, in whole numbers. -/
theorem revRow_val {t : List (List Int)} {m : List Int} {i : Nat} (hc : isChance t = true) (hl : m.length = t.length) (hm : ∀ x ∈ m, 1 ≤ x ∧ x ≤ 1000) :
    revRow t m t.length i = (List.range t.length).map (fun j => m.getD j 0 * en t j i * tp i m 0) ∧ 1 ≤ tp i m 0 ∧ ∀ j, j < t.length → 0 ≤ m.getD j 0 * en t j i * tp i m 0 ∧ m.getD j 0 * en t j i * tp i m 0 ≤ 60000000000000000 := by
  have hf := chance_facts hc
  have h1 := oth_tp i m 0 1 1 hm (by omega) (by omega) (by
    have : m.length = 1 ∨ m.length = 2 ∨ m.length = 3 ∨ m.length = 4 := by omega
    rcases this with e | e | e | e <;> rw [e] <;> decide)
  have h2 : (1 : Int) * 1000 ^ m.length ≤ 1000000000000 := by
    have : m.length = 1 ∨ m.length = 2 ∨ m.length = 3 ∨ m.length = 4 := by omega
    rcases this with e | e | e | e <;> rw [e] <;> decide
  rw [Int.one_mul] at h1
  have hbd : ∀ j, j < t.length → 0 ≤ m.getD j 0 * en t j i ∧ m.getD j 0 * en t j i ≤ 60000 := by
    intro j hj
    have hg : m[j]? = some (m.getD j 0) := by simp [List.getD, hl, hj]
    have a := hm _ (List.mem_of_getElem? hg)
    have b := en_bd hc j i
    have c : m.getD j 0 * en t j i ≤ 1000 * 60 := Int.mul_le_mul a.2 b.2 b.1 (by omega)
    exact ⟨Int.mul_nonneg (by omega) b.1, by omega⟩
  have hb2 : ∀ j, j < t.length → 0 ≤ m.getD j 0 * en t j i * tp i m 0 ∧ m.getD j 0 * en t j i * tp i m 0 ≤ 60000000000000000 := by
    intro j hj
    have a := hbd j hj
    have c : m.getD j 0 * en t j i * tp i m 0 ≤ 60000 * 1000000000000 := Int.mul_le_mul a.2 (by omega) (by omega) (by omega)
    exact ⟨Int.mul_nonneg a.1 (by omega), by omega⟩
  refine ⟨?_, by omega, hb2⟩
  unfold revRow
  refine List.map_congr_left (fun j hj => ?_)
  have hj' := List.mem_range.1 hj
  have a := hbd j hj'
  have b := hb2 j hj'
  rw [h1.1, wrap_id (a := m.getD j 0 * en t j i) (by omega), wrap_id (by omega)]
theorem restV_len' {t : List (List Int)} (h : restOk t = true) : (restV t).length = t.length := by
  rw [show restV t = redL (cofL t) by simp [restV, h], redL_len, cofL_len]
theorem rest_mem {t : List (List Int)} (h : restOk t = true) : ∀ x ∈ restV t, 1 ≤ x ∧ x ≤ 4000000 := by
  intro x hx
  obtain ⟨i, hi⟩ := List.getElem?_of_mem hx
  have hl := (List.getElem?_eq_some_iff.1 hi).1
  rw [restV_len' h] at hl
  have := rest_pos h hl
  simp only [List.getD, hi, Option.getD_some] at this
  exact this
theorem mn_id {xs : List Int} (h : ∀ x ∈ xs, x ≤ 1000) : capL xs = xs := by
  unfold capL
  conv => rhs; rw [← List.map_id xs]
  refine List.map_congr_left (fun x hx => ?_)
  have := h x hx
  unfold mn
  split
  · rfl
  · show (1000 : Int) = x; omega
/-- The sum of a row, where no resting number is great. -/
theorem rev_rowsum {t : List (List Int)} (h : restOk t = true) (hs : ∀ x ∈ restV t, x ≤ 1000) {i : Nat} (hi : i < t.length) :
    isum 0 (revRow t (restV t) t.length i) = isum 0 (t.getD 0 []) * lprod (restV t) ∧ ∀ x ∈ revRow t (restV t) t.length i, 0 ≤ x ∧ x ≤ isum 0 (t.getD 0 []) * lprod (restV t) := by
  have h' := h
  simp only [restOk, Bool.and_eq_true] at h'
  have hc := h'.1
  have hf := chance_facts hc
  have hl := restV_len' h
  have hv := revRow_val (i := i) hc hl (fun x hx => ⟨(rest_mem h x hx).1, hs x hx⟩)
  have hsum : Sm t.length (fun j => (restV t).getD j 0 * en t j i * tp i (restV t) 0) = isum 0 (t.getD 0 []) * lprod (restV t) := by
    rw [Sm_congr t.length _ (fun j => tp i (restV t) 0 * ((restV t).getD j 0 * en t j i)) (fun j _ => Int.mul_comm _ _), Sm_mul, stat h hi]
    have := tp_mul i (restV t) 0 (Nat.zero_le _) (by omega)
    rw [Nat.sub_zero] at this
    rw [← this, Int.mul_comm, Int.mul_assoc]
  have hb := Sm_bd t.length _ _ hv.2.2
  have hn : ((t.length : Nat) : Int) * 60000000000000000 ≤ 4 * 60000000000000000 := by omega
  rw [hv.1]
  refine ⟨?_, ?_⟩
  · rw [isum_zero, range_sum, hsum, wrap_id]
    rw [← hsum]
    omega
  · intro x hx
    simp only [List.mem_map, List.mem_range] at hx
    obtain ⟨j, hj, rfl⟩ := hx
    refine ⟨(hv.2.2 j hj).1, ?_⟩
    rw [← hsum]
    exact Sm_le t.length _ (fun j hj => (hv.2.2 j hj).1) j hj
/-- Both programs say one thing of it. -/
theorem rev_same {t : List (List Int)} (h : restOk t = true) : prodU (isum 0 (t.getD 0 [])) (restV t) = isChance (revT t (capL (restV t))) ∧ (prodU (isum 0 (t.getD 0 [])) (restV t) = true → capL (restV t) = restV t) := by
  have h' := h
  simp only [restOk, Bool.and_eq_true] at h'
  have hc := h'.1
  have hf := chance_facts hc
  have hl := restV_len' h
  have hm := rest_mem h
  have hpos : Pos (restV t) := fun x hx => (hm x hx).1
  have hP := lprod_pos _ hpos
  obtain ⟨s, hs⟩ : ∃ s, isum 0 (t.getD 0 []) = s := ⟨_, rfl⟩
  have hiff := prodU_iff (restV t) s hm (by omega) (by omega)
  have row0 : ∀ m : List Int, (revT t m).getD 0 [] = revRow t m t.length 0 := by
    intro m
    simp only [List.getD, revT_get (t := t) (m := m) (i := 0) (by omega), Option.getD_some]
  have bad : ∀ (m : List Int) (i : Nat), i < t.length → (allIn 0 60 (revRow t m t.length i) = false ∨ inR (isum 0 (revRow t m t.length i)) 1 60 = false) → isChance (revT t m) = false := by
    intro m i hi hb
    have hr : rowC (revT t m).length (isum 0 ((revT t m).getD 0 [])) (revRow t m t.length i) = false := by
      rcases hb with hb | hb
      · exact rowC_in hb
      · exact rowC_sum (.inr hb)
    have ht : tabC (revT t m).length (isum 0 ((revT t m).getD 0 [])) (revT t m) = false := by
      cases hq : tabC (revT t m).length (isum 0 ((revT t m).getD 0 [])) (revT t m) with
      | false => rfl
      | true =>
        simp only [tabC, List.all_eq_true] at hq
        rw [hq _ (List.mem_of_getElem? (revT_get (t := t) (m := m) hi))] at hr
        cases hr
    unfold isChance; rw [ht]; rfl
  rw [hs]
  cases hp : prodU s (restV t) with
  | true =>
    have hle := hiff.1 hp
    have hall : ∀ x ∈ restV t, x ≤ 60 := by
      intro x hx
      have a := le_lprod _ hpos x hx
      have b := Int.mul_le_mul_of_nonneg_right (show 1 ≤ s by omega) (show 0 ≤ lprod (restV t) by omega)
      omega
    have hcap := mn_id (xs := restV t) (fun x hx => by have := hall x hx; omega)
    refine ⟨?_, fun _ => hcap⟩
    rw [hcap]
    have hrs : ∀ {i : Nat}, i < t.length → isum 0 (revRow t (restV t) t.length i) = s * lprod (restV t) ∧ ∀ x ∈ revRow t (restV t) t.length i, 0 ≤ x ∧ x ≤ s * lprod (restV t) := by
      intro i hi
      rw [← hs]
      exact rev_rowsum h (fun x hx => by have := hall x hx; omega) hi
    have hb1 : 1 ≤ s * lprod (restV t) := by have := Int.mul_pos (show 0 < s by omega) (show 0 < lprod (restV t) by omega); omega
    symm
    simp only [isChance, revT_len, row0, Bool.and_eq_true]
    refine ⟨?_, inR_mk ⟨by omega, by omega⟩⟩
    simp only [tabC, List.all_eq_true]
    intro r hr
    simp only [revT, List.mem_map, List.mem_range] at hr
    obtain ⟨i, hi, rfl⟩ := hr
    have a := hrs hi
    refine rowC_yes (revRow_len _ _ _ _) ?_ (by rw [a.1, (hrs (show 0 < t.length by omega)).1]) (by rw [a.1]; exact inR_mk ⟨hb1, hle⟩)
    simp only [allIn, List.all_eq_true]
    intro x hx
    have := a.2 x hx
    exact inR_mk ⟨by omega, by omega⟩
  | false =>
    refine ⟨?_, fun q => by cases q⟩
    symm
    have hgt : 60 < s * lprod (restV t) := by
      rcases Int.lt_or_le 60 (s * lprod (restV t)) with a | a
      · exact a
      · rw [hiff.2 a] at hp; cases hp
    by_cases hall : ∀ x ∈ restV t, x ≤ 1000
    · rw [mn_id hall]
      refine bad _ 0 (by omega) (.inr ?_)
      rw [(rev_rowsum h hall (show 0 < t.length by omega)).1, hs]
      exact inR_no (.inr hgt)
    · obtain ⟨k, x, hk, hx⟩ : ∃ (k : Nat) (x : Int), (restV t)[k]? = some x ∧ 1000 < x := by
        by_cases hq : ∃ (k : Nat) (x : Int), (restV t)[k]? = some x ∧ 1000 < x
        · exact hq
        · exfalso
          refine hall (fun x hx => ?_)
          obtain ⟨k, hk⟩ := List.getElem?_of_mem hx
          rcases Int.lt_or_le 1000 x with a | a
          · exact absurd ⟨k, x, hk, a⟩ hq
          · exact a
      have hkl : k < t.length := by rw [← hl]; exact (List.getElem?_eq_some_iff.1 hk).1
      have hn2 : 2 ≤ t.length := by
        rcases Nat.lt_or_ge t.length 2 with a | a
        · exfalso
          have e1 : t.length = 1 := by omega
          have e2 : k = 0 := by omega
          subst e2
          have g := rest_cof h (show 0 < t.length by omega)
          have gp := rest_gcd h
          simp only [List.getD, hk, Option.getD_some] at g
          have e3 : cofAt t 0 = 1 := by unfold cofAt; rw [e1]; rfl
          rw [e3] at g
          have := Int.mul_le_mul_of_nonneg_right (show 1 ≤ gcdL 0 (cofL t) by omega) (show 0 ≤ x by omega)
          omega
        · exact a
      obtain ⟨i, hi, hik⟩ : ∃ i, i < t.length ∧ k ≠ i := by
        by_cases e : k = 0
        · exact ⟨1, by omega, by omega⟩
        · exact ⟨0, by omega, e⟩
      have hcm : ∀ y ∈ capL (restV t), 1 ≤ y ∧ y ≤ 1000 := by
        intro y hy
        simp only [capL, List.mem_map] at hy
        obtain ⟨z, hz, rfl⟩ := hy
        have := hm z hz
        unfold mn
        split <;> omega
      have hv := revRow_val (i := i) hc (by rw [capL_len]; exact hl) hcm
      have hck : (capL (restV t))[k]? = some 1000 := by
        rw [capL_get hk]
        unfold mn
        rw [if_neg (by omega)]
      have ho := le_tp i (capL (restV t)) 0 k 1000 (fun y hy => (hcm y hy).1) hck (by omega)
      refine bad _ i hi ?_
      cases ha : allIn 0 60 (revRow t (capL (restV t)) t.length i) with
      | false => exact .inl rfl
      | true =>
        right
        rw [hv.1] at ha ⊢
        have hz : ∀ j, j < t.length → (capL (restV t)).getD j 0 * en t j i * tp i (capL (restV t)) 0 = 0 := by
          intro j hj
          simp only [allIn, List.all_eq_true] at ha
          have a := inR_true (ha _ (List.mem_map.2 ⟨j, List.mem_range.2 hj, rfl⟩))
          have b := (hv.2.2 j hj).1
          have hg : (capL (restV t))[j]? = some ((capL (restV t)).getD j 0) := by simp [List.getD, capL_len, hl, hj]
          have c := hcm _ (List.mem_of_getElem? hg)
          have d : 0 ≤ (capL (restV t)).getD j 0 * en t j i := Int.mul_nonneg (by omega) (en_bd hc j i).1
          generalize (capL (restV t)).getD j 0 * en t j i = q at *
          rcases Int.lt_or_le 0 q with e | e
          · have := Int.mul_le_mul (show 1 ≤ q by omega) ho (by omega) d
            omega
          · have : q = 0 := by omega
            rw [this, Int.zero_mul]
        rw [isum_zero, range_sum, Sm_congr t.length _ (fun _ => 0) hz, Sm_zero]
        exact inR_no (.inl (by unfold wrap64; omega))
end Go.Proofs.Ytjkpndhfdlnpdaa
