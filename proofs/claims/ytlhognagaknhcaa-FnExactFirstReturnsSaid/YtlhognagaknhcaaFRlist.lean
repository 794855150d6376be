/- First returns by both roads: rows of numbers, and sums that are taken off. -/
import Derived.Test.YtlhognagaknhcaaFRmath
namespace Go.Proofs.Ytlhognagaknhcaa
open Go.RowKit
set_option linter.all false
def entA (m : List (List Int)) (j l : Nat) : Int := (m.getD j []).getD l 0
def frRow (m : List (List Int)) (i : Nat) : Nat → List Int
  | 0 => m.getD i []
  | k + 1 => mulRow m m.length ((frRow m i k).set i 0)
theorem wdot_canon : ∀ (r v : List Int) (a : Int), wrap64 a = a → wrap64 (wdot a r v) = wdot a r v
  | [], _, a, h => by simpa [wdot] using h
  | x :: r, [], a, h => by simpa [wdot] using h
  | x :: r, y :: v, a, _ => wdot_canon r v _ (Cg.wrap _).eq
theorem getD_get {α : Type} {xs : List α} {k : Nat} {x d : α} (h : xs[k]? = some x) : xs.getD k d = x := by simp [List.getD, h]
theorem get_lt {α : Type} (xs : List α) (k : Nat) (d : α) (h : k < xs.length) : xs[k]? = some (xs.getD k d) := by simp [List.getD, h]
theorem row_mul {m : List (List Int)} {r : List Int} {l : Nat} (hr : r.length = m.length) (hl : l < m.length) :
    Cg ((mulRow m m.length r).getD l 0) (Sm m.length (fun j => r.getD j 0 * entA m j l)) ∧ wrap64 ((mulRow m m.length r).getD l 0) = (mulRow m m.length r).getD l 0 := by
  rw [getD_get (mulRow_get hl)]
  refine ⟨?_, wdot_canon _ _ _ (wrap_id (by omega))⟩
  have h := wdot_Cg r (col m l) 0 (by simp [col, hr])
  rw [hr] at h
  refine h.trans (Cg.of_eq ?_)
  rw [Int.zero_add]
  refine Sm_congr _ _ _ (fun j hj => ?_)
  congr 1
  show (col m l).getD j 0 = (m.getD j []).getD l 0
  simp [col, List.getD, hj]
theorem entA_canon {m : List (List Int)} (hm : isMat m = true) {j l : Nat} (hj : j < m.length) (hl : l < m.length) : wrap64 (entA m j l) = entA m j l := by
  have h1 := get_lt m j [] hj
  have h2 := isMat_row hm h1
  have h3 := allIn_get h2.2 (get_lt (m.getD j []) l 0 (by rw [h2.1]; exact hl))
  exact wrap_id ⟨by unfold entA; omega, by unfold entA; omega⟩
theorem frRow_len {m : List (List Int)} (hm : isMat m = true) {i : Nat} (hi : i < m.length) : ∀ k, (frRow m i k).length = m.length
  | 0 => (isMat_row hm (get_lt m i [] hi)).1
  | k + 1 => mulRow_len _ _ _
theorem frRow_Cg {m : List (List Int)} (hm : isMat m = true) {i : Nat} (hi : i < m.length) : ∀ (k l : Nat), l < m.length →
    Cg ((frRow m i k).getD l 0) (RR m.length i (entA m) k l) ∧ wrap64 ((frRow m i k).getD l 0) = (frRow m i k).getD l 0
  | 0, l, hl => ⟨Cg.refl _, entA_canon hm hi hl⟩
  | k + 1, l, hl => by
    have h := row_mul (m := m) (r := (frRow m i k).set i 0) (l := l) (by rw [List.length_set, frRow_len hm hi]) hl
    refine ⟨h.1.trans ?_, h.2⟩
    refine Sm_Cg _ _ _ (fun j hj => ?_)
    refine Cg.mul ?_ (Cg.refl _)
    have hjl : j < (frRow m i k).length := by rw [frRow_len hm hi]; exact hj
    by_cases e : j = i
    · subst e
      simp [List.getD, List.getElem?_set, hjl]
      exact Cg.refl _
    · have h2 : ((frRow m i k).set i 0).getD j 0 = (frRow m i k).getD j 0 := by
        simp only [List.getD, List.getElem?_set]
        rw [if_neg (fun e2 => e e2.symm)]
      rw [h2]
      simp only [if_neg e]
      exact (frRow_Cg hm hi k j hj).1
theorem mulM_is {a b c : List (List Int)} (h : mulM a b = some c) : c = mulT a b b.length ∧ isMat a = true ∧ a.length = b.length := by
  unfold mulM at h
  split at h
  · rename_i h1
    injection h with h
    simp only [Bool.and_eq_true, decide_eq_true_eq] at h1
    exact ⟨h.symm, h1.1, h1.2.2.1⟩
  · cases h
theorem iterM_row {m : List (List Int)} {i : Nat} (hi : i < m.length) : ∀ (k t : Nat) (acc p : List (List Int)), acc.length = m.length → (acc.getD i []).length = m.length →
    (∀ l, l < m.length → Cg ((acc.getD i []).getD l 0) (TT m.length i (entA m) t l)) → iterM m k acc = some p → ∀ l, l < m.length → Cg ((p.getD i []).getD l 0) (TT m.length i (entA m) (t + k) l)
  | 0, t, acc, p, _, _, h, e => by
    injection e with e
    subst e
    exact h
  | k + 1, t, acc, p, h1, h2, h, e => by
    cases hq : mulM acc m with
    | none => rw [iterM_none hq] at e; cases e
    | some q =>
      rw [iterM_some hq] at e
      have hq2 := mulM_is hq
      have hrow : q.getD i [] = mulRow m m.length (acc.getD i []) := by
        rw [hq2.1]
        exact getD_get (mulT_get (get_lt acc i [] (by omega)))
      have := iterM_row hi k (t + 1) q p (by rw [hq2.1, mulT_len]; exact h1) (by rw [hrow, mulRow_len]) (by
        intro l hl
        rw [hrow]
        refine (row_mul h2 hl).1.trans ?_
        exact Sm_Cg _ _ _ (fun j hj => (h j hj).mul (Cg.refl _))) e
      intro l hl
      have h5 := this l hl
      rw [show t + 1 + k = t + (k + 1) by omega] at h5
      exact h5
theorem iterM_pre {m : List (List Int)} : ∀ (a b : Nat) (acc p : List (List Int)), iterM m (a + b) acc = some p → ∃ q, iterM m a acc = some q
  | 0, b, acc, p, _ => ⟨acc, rfl⟩
  | a + 1, b, acc, p, h => by
    rw [show a + 1 + b = (a + b) + 1 by omega] at h
    cases hq : mulM acc m with
    | none => rw [iterM_none hq] at h; cases h
    | some q =>
      rw [iterM_some hq] at h ⊢
      exact iterM_pre a b q p h
theorem rooted_facts {m : List (List Int)} {i n : Int} (h : ¬ rooted m i n < 0) : isMat m = true ∧ 0 ≤ i ∧ i.toNat < m.length ∧ 1 ≤ n ∧ n ≤ 30 ∧
    ∀ k : Nat, 1 ≤ k → (k : Int) ≤ n → Cg (rooted m i k) (TT m.length i.toNat (entA m) k i.toNat) ∧ wrap64 (rooted m i k) = rooted m i k := by
  cases h1 : isMat m
  · rw [rooted_mat h1] at h; omega
  cases h2 : inR i 0 (m.length - 1)
  · rw [rooted_i h2] at h; omega
  cases h3 : inR n 1 30
  · rw [rooted_n h3] at h; omega
  have b2 := inR_true h2
  have b3 := inR_true h3
  obtain ⟨i0, rfl⟩ := Int.eq_ofNat_of_zero_le b2.1
  have hi : i0 < m.length := by omega
  refine ⟨rfl, b2.1, hi, b3.1, b3.2, ?_⟩
  intro k hk1 hk2
  have h4 : inR n 0 30 = true := inR_mk ⟨by omega, by omega⟩
  have h5 : inR (k : Int) 0 30 = true := inR_mk ⟨by omega, by omega⟩
  cases hp : powM m n with
  | none => rw [rooted_none hp] at h; omega
  | some p =>
    rw [powM_iter h1 h4] at hp
    have e : n.toNat = k + (n.toNat - k) := by omega
    rw [e] at hp
    obtain ⟨q, hq⟩ := iterM_pre k (n.toNat - k) _ _ hp
    have hpk : powM m (k : Int) = some q := by rw [powM_iter h1 h5]; exact hq
    have hqm := powM_mat hpk
    have hr : rooted m (i0 : Int) (k : Int) = (q.getD i0 []).getD i0 0 := by
      have h6 : inR (k : Int) 1 30 = true := inR_mk ⟨by omega, by omega⟩
      simp [rooted, h1, h2, h6, hpk]
    have hrow := isMat_row hqm.2.1 (get_lt q i0 [] (by rw [hqm.2.2]; exact hi))
    rw [hr]
    constructor
    · have h7 := iterM_row hi k 0 (oneT m.length) q (oneT_len _) (by rw [getD_get (oneT_get hi)]; exact oneRow_len _ _) (by
        intro l hl
        rw [getD_get (oneT_get hi)]
        refine Cg.of_eq ?_
        show (oneRow m.length i0).getD l 0 = if l = i0 then 1 else 0
        unfold oneRow
        simp only [List.getD, List.getElem?_set, List.length_replicate]
        by_cases e : i0 = l
        · subst e; simp [hi]
        · rw [if_neg e, if_neg (fun e2 => e e2.symm)]
          simp [List.getElem?_replicate, hl]) hq i0 hi
      rw [Nat.zero_add] at h7
      exact h7
    · have h8 := allIn_get hrow.2 (get_lt (q.getD i0 []) i0 0 (by rw [hrow.1, hqm.2.2]; exact hi))
      exact wrap_id ⟨by omega, by omega⟩
/-- The sums that are taken off, one after the other. -/
def conv (fs rs : List Int) (k : Nat) : Nat → Nat → Int → Int
  | 0, _, f => f
  | c + 1, l, f => conv fs rs k c (l + 1) (wrap64 (f - wrap64 (fs.getD l 0 * rs.getD (k - l) 0)))
theorem conv_Cg (fs rs : List Int) (k : Nat) : ∀ (c l : Nat) (f : Int), wrap64 f = f → Cg (conv fs rs k c l f) (f - Sm c (fun t => fs.getD (l + t) 0 * rs.getD (k - (l + t)) 0)) ∧ wrap64 (conv fs rs k c l f) = conv fs rs k c l f
  | 0, l, f, hf => ⟨Cg.of_eq (by simp [conv, Sm]), hf⟩
  | c + 1, l, f, hf => by
    have ih := conv_Cg fs rs k c (l + 1) (wrap64 (f - wrap64 (fs.getD l 0 * rs.getD (k - l) 0))) (Cg.wrap _).eq
    refine ⟨ih.1.trans ?_, ih.2⟩
    rw [Sm_first]
    have h1 : Cg (wrap64 (f - wrap64 (fs.getD l 0 * rs.getD (k - l) 0))) (f - fs.getD l 0 * rs.getD (k - l) 0) := (Cg.wrap _).trans ((Cg.refl f).sub (Cg.wrap _))
    refine (h1.sub (Cg.refl _)).trans (Cg.of_eq ?_)
    have h2 : Sm c (fun t => fs.getD (l + 1 + t) 0 * rs.getD (k - (l + 1 + t)) 0) = Sm c (fun j => fs.getD (l + (j + 1)) 0 * rs.getD (k - (l + (j + 1))) 0) :=
      Sm_congr c _ _ (fun t _ => by rw [show l + 1 + t = l + (t + 1) by omega])
    rw [h2]
    simp only [Nat.add_zero]
    omega
def rsL (m : List (List Int)) (i : Int) (k : Nat) : List Int := 1 :: (List.range k).map (fun (t : Nat) => rooted m i ((t : Int) + 1))
def fsL (m : List (List Int)) (i : Int) : Nat → List Int
  | 0 => [0]
  | k + 1 => fsL m i k ++ [conv (fsL m i k) (rsL m i (k + 1)) (k + 1) k 1 ((rsL m i (k + 1)).getD (k + 1) 0)]
theorem rsL_len (m : List (List Int)) (i : Int) (k : Nat) : (rsL m i k).length = k + 1 := by simp [rsL]
theorem fsL_len (m : List (List Int)) (i : Int) : ∀ k, (fsL m i k).length = k + 1
  | 0 => rfl
  | k + 1 => by simp [fsL, fsL_len m i k]
theorem rsL_get {m : List (List Int)} {i : Int} {k t : Nat} (h1 : 1 ≤ t) (h2 : t ≤ k) : (rsL m i k).getD t 0 = rooted m i t := by
  obtain ⟨s, rfl⟩ : ∃ s, t = s + 1 := ⟨t - 1, by omega⟩
  have hs : s < k := by omega
  simp [rsL, List.getD, hs]
theorem rsL_push (m : List (List Int)) (i : Int) (k : Nat) : rsL m i k ++ [rooted m i ((k : Int) + 1)] = rsL m i (k + 1) := by
  simp [rsL, List.range_succ]
theorem fsL_Cg {m : List (List Int)} {i n : Int} (h : ¬ rooted m i n < 0) : ∀ (k : Nat), (k : Int) ≤ n → ∀ t, 1 ≤ t → t ≤ k →
    Cg ((fsL m i k).getD t 0) (FF m.length i.toNat (entA m) (t - 1)) ∧ wrap64 ((fsL m i k).getD t 0) = (fsL m i k).getD t 0
  | 0, _, t, h1, h2 => by omega
  | k + 1, hk, t, h1, h2 => by
    have ih := fsL_Cg h k (by omega)
    have hf := rooted_facts h
    by_cases ht : t ≤ k
    · have e : (fsL m i (k + 1)).getD t 0 = (fsL m i k).getD t 0 := by
        show (fsL m i k ++ [_]).getD t 0 = _
        simp only [List.getD]
        rw [List.getElem?_append_left (by rw [fsL_len]; omega)]
      rw [e]
      exact ih t h1 ht
    · have e : t = k + 1 := by omega
      subst e
      have e : (fsL m i (k + 1)).getD (k + 1) 0 = conv (fsL m i k) (rsL m i (k + 1)) (k + 1) k 1 ((rsL m i (k + 1)).getD (k + 1) 0) := by
        show (fsL m i k ++ [_]).getD (k + 1) 0 = _
        simp only [List.getD]
        rw [List.getElem?_append_right (by rw [fsL_len]; omega), fsL_len]
        simp
      rw [e, rsL_get (by omega) (Nat.le_refl _)]
      have hk1 := hf.2.2.2.2.2 (k + 1) (by omega) hk
      have hc := conv_Cg (fsL m i k) (rsL m i (k + 1)) (k + 1) k 1 (rooted m i ((k + 1 : Nat) : Int)) hk1.2
      refine ⟨hc.1.trans ?_, hc.2⟩
      have hren := renew m.length i.toNat (entA m) hf.2.2.1 k i.toNat
      have h3 : Cg (Sm k (fun t => (fsL m i k).getD (1 + t) 0 * (rsL m i (k + 1)).getD (k + 1 - (1 + t)) 0)) (Sm k (fun t => FF m.length i.toNat (entA m) t * TT m.length i.toNat (entA m) (k - t) i.toNat)) := by
        refine Sm_Cg _ _ _ (fun s hs => ?_)
        have a1 := (ih (1 + s) (by omega) (by omega)).1
        rw [show 1 + s - 1 = s by omega] at a1
        have a2 := (hf.2.2.2.2.2 (k - s) (by omega) (by omega)).1
        rw [← rsL_get (k := k + 1) (by omega) (by omega)] at a2
        rw [show k + 1 - (1 + s) = k - s by omega]
        exact a1.mul a2
      refine (hk1.1.sub h3).trans (Cg.of_eq ?_)
      rw [hren, show k + 1 - 1 = k by omega]
      unfold FF
      omega
def firstR (m : List (List Int)) (i n : Int) : Int := if 10 < n then -1 else if rooted m i n < 0 then -1 else (frRow m i.toNat (n.toNat - 1)).getD i.toNat 0
/-- Both roads come to one number. -/
theorem first_both {m : List (List Int)} {i n : Int} (h : ¬ rooted m i n < 0) : (fsL m i n.toNat).getD n.toNat 0 = (frRow m i.toNat (n.toNat - 1)).getD i.toNat 0 := by
  have hf := rooted_facts h
  have h1 := fsL_Cg h n.toNat (by omega) n.toNat (by omega) (Nat.le_refl _)
  have h2 := frRow_Cg hf.1 hf.2.2.1 (n.toNat - 1) i.toNat hf.2.2.1
  exact (h1.1.trans h2.1.symm).same h1.2 h2.2
end Go.Proofs.Ytlhognagaknhcaa
