/- Parts of the proof of a law, joined: Rooted FRmath FRlist Trace NewtA NewtB NewtC NewtD NewtE NewtG TurnC FlowLike DiffT GrpL IIsSmall ILess IWithout IDet ISignOf ISets SFits SSets SMinorsOf SDiagonalOf SGroupOf IPicked SMin7 SCut STurned SSameZ. -/
import Derived.Test.YtbjoblgklcilpaaGreatDoorProg
import Derived.Test.YtbjoblgklcilpaaGreatDoorJG1a
import Derived.Test.YtbjoblgklcilpaaGreatDoorJThA
import Derived.Test.YtbjoblgklcilpaaGreatDoorJG0b
import Derived.Test.YtbjoblgklcilpaaGreatDoorJG0a
import Derived.Test.YtbjoblgklcilpaaGreatDoorJSSome
import Derived.Test.YtbjoblgklcilpaaGreatDoorJSPart
namespace Go.Proofs.YtbjoblgklcilpaaGreatDoor
open Go.RowKit
set_option linter.all false
/-- The paths of a length from a vertex to itself. -/
def rooted (m : List (List Int)) (i n : Int) : Int :=
  if isMat m && (inR i 0 (m.length - 1) && inR n 1 30) then (match powM m n with
    | none => -1
    | some p => (p.getD i.toNat []).getD i.toNat 0) else -1
theorem rooted_mat {m : List (List Int)} {i n : Int} (h : isMat m = false) : rooted m i n = -1 := by simp [rooted, h]
theorem rooted_i {m : List (List Int)} {i n : Int} (h : inR i 0 (m.length - 1) = false) : rooted m i n = -1 := by simp [rooted, h]
theorem rooted_n {m : List (List Int)} {i n : Int} (h : inR n 1 30 = false) : rooted m i n = -1 := by simp [rooted, h]
theorem rooted_none {m : List (List Int)} {i n : Int} (h : powM m n = none) : rooted m i n = -1 := by simp [rooted, h]
theorem rooted_some {m p r : List (List Int)} {i : Nat} {n x : Int} {q : List Int} (h1 : isMat m = true) (h2 : inR (i : Int) 0 (m.length - 1) = true) (h3 : inR n 1 30 = true) (h : powM m n = some p) (hq : p[i]? = some q) (hx : q[i]? = some x) : rooted m i n = x := by
  simp [rooted, h1, h2, h3, h, List.getD, hq, hx]
end Go.Proofs.YtbjoblgklcilpaaGreatDoor

namespace Go.Proofs.YtbjoblgklcilpaaGreatDoor
open Go.RowKit
set_option linter.all false
def Sm : Nat → (Nat → Int) → Int
  | 0, _ => 0
  | n + 1, f => Sm n f + f n
theorem Sm_congr : ∀ (n : Nat) (f g : Nat → Int), (∀ j, j < n → f j = g j) → Sm n f = Sm n g
  | 0, _, _, _ => rfl
  | n + 1, f, g, h => by
    unfold Sm
    rw [Sm_congr n f g (fun j hj => h j (by omega)), h n (by omega)]
theorem Sm_add : ∀ (n : Nat) (f g : Nat → Int), Sm n (fun j => f j + g j) = Sm n f + Sm n g
  | 0, _, _ => rfl
  | n + 1, f, g => by
    unfold Sm
    rw [Sm_add n f g]
    dsimp only
    omega
theorem Sm_mul : ∀ (n : Nat) (c : Int) (f : Nat → Int), Sm n (fun j => c * f j) = c * Sm n f
  | 0, c, _ => by simp [Sm]
  | n + 1, c, f => by
    unfold Sm
    rw [Sm_mul n c f, Int.mul_add]
theorem Sm_zero : ∀ (n : Nat), Sm n (fun _ => 0) = 0
  | 0 => rfl
  | n + 1 => by unfold Sm; rw [Sm_zero n]; rfl
theorem Sm_comm : ∀ (n m : Nat) (f : Nat → Nat → Int), Sm n (fun j => Sm m (fun t => f j t)) = Sm m (fun t => Sm n (fun j => f j t))
  | 0, m, f => by simp only [Sm]; rw [Sm_zero]
  | n + 1, m, f => by
    show Sm n (fun j => Sm m (fun t => f j t)) + Sm m (fun t => f n t) = Sm m (fun t => Sm n (fun j => f j t) + f n t)
    rw [Sm_add, Sm_comm n m f]
theorem Sm_first : ∀ (n : Nat) (f : Nat → Int), Sm (n + 1) f = f 0 + Sm n (fun j => f (j + 1))
  | 0, f => by simp [Sm]
  | n + 1, f => by
    show Sm (n + 1) f + f (n + 1) = f 0 + (Sm n (fun j => f (j + 1)) + f (n + 1))
    rw [Sm_first n f]
    omega
theorem Sm_one : ∀ (n i : Nat) (g : Nat → Int), i < n → Sm n (fun j => (if j = i then 1 else 0) * g j) = g i
  | 0, i, g, h => by omega
  | n + 1, i, g, h => by
    unfold Sm
    by_cases e : n = i
    · subst e
      have : Sm n (fun j => (if j = n then 1 else 0) * g j) = Sm n (fun _ => 0) := Sm_congr n _ _ (fun j hj => by rw [if_neg (by omega)]; simp)
      rw [this, Sm_zero]
      dsimp only
      rw [if_pos rfl]
      omega
    · rw [Sm_one n i g (by omega)]
      dsimp only
      rw [if_neg e]
      omega
section
variable (N i : Nat) (A : Nat → Nat → Int)
/-- The row of i in the power k. -/
def TT : Nat → Nat → Int
  | 0, j => if j = i then 1 else 0
  | k + 1, l => Sm N (fun j => TT k j * A j l)
/-- Paths of k + 1 arcs from i that have not yet come back ahead of their end. -/
def RR : Nat → Nat → Int
  | 0, j => A i j
  | k + 1, l => Sm N (fun j => (if j = i then 0 else RR k j) * A j l)
def FF (k : Nat) : Int := RR N i A k i
theorem TT_one (hi : i < N) (l : Nat) : TT N i A 1 l = A i l := Sm_one N i (fun j => A j l) hi
theorem RR_split (hi : i < N) (k l : Nat) : Sm N (fun j => RR N i A k j * A j l) = RR N i A (k + 1) l + FF N i A k * A i l := by
  have h1 : Sm N (fun j => RR N i A k j * A j l) = Sm N (fun j => (if j = i then 0 else RR N i A k j) * A j l + (if j = i then 1 else 0) * (RR N i A k i * A j l)) := by
    refine Sm_congr N _ _ (fun j _ => ?_)
    by_cases e : j = i
    · subst e; simp
    · simp [e]
  rw [h1, Sm_add, Sm_one N i (fun j => RR N i A k i * A j l) hi]
  rfl
/-- All rooted paths are sums over the place of their first return. -/
theorem renew (hi : i < N) : ∀ (k l : Nat), TT N i A (k + 1) l = RR N i A k l + Sm k (fun t => FF N i A t * TT N i A (k - t) l)
  | 0, l => by
    rw [TT_one N i A hi l]
    simp [Sm, RR]
  | k + 1, l => by
    have ih := renew hi k
    show Sm N (fun j => TT N i A (k + 1) j * A j l) = _
    have h1 : Sm N (fun j => TT N i A (k + 1) j * A j l) = Sm N (fun j => RR N i A k j * A j l + Sm k (fun t => FF N i A t * (TT N i A (k - t) j * A j l))) := by
      refine Sm_congr N _ _ (fun j _ => ?_)
      rw [ih j, Int.add_mul]
      congr 1
      rw [Int.mul_comm, ← Sm_mul]
      refine Sm_congr k _ _ (fun t _ => ?_)
      rw [Int.mul_left_comm, Int.mul_comm (A j l)]
    rw [h1, Sm_add, RR_split N i A hi k l, Sm_comm]
    have h2 : Sm k (fun t => Sm N (fun j => FF N i A t * (TT N i A (k - t) j * A j l))) = Sm k (fun t => FF N i A t * TT N i A (k + 1 - t) l) := by
      refine Sm_congr k _ _ (fun t ht => ?_)
      rw [Sm_mul, show k + 1 - t = (k - t) + 1 by omega]
      rfl
    rw [h2]
    show _ = RR N i A (k + 1) l + (Sm k (fun t => FF N i A t * TT N i A (k + 1 - t) l) + FF N i A k * TT N i A (k + 1 - k) l)
    rw [show k + 1 - k = 1 by omega, TT_one N i A hi l]
    omega
end
/-- Two numbers that a machine word does not tell apart. -/
def Cg (x y : Int) : Prop := ∃ k : Int, x = y + k * 18446744073709551616
theorem Cg.refl (x : Int) : Cg x x := ⟨0, by omega⟩
theorem Cg.of_eq {x y : Int} (h : x = y) : Cg x y := h ▸ Cg.refl x
theorem Cg.symm {x y : Int} (h : Cg x y) : Cg y x := by obtain ⟨k, h⟩ := h; exact ⟨-k, by omega⟩
theorem Cg.trans {x y z : Int} (h : Cg x y) (g : Cg y z) : Cg x z := by
  obtain ⟨k, h⟩ := h
  obtain ⟨l, g⟩ := g
  exact ⟨k + l, by omega⟩
theorem Cg.add {x y a b : Int} (h : Cg x y) (g : Cg a b) : Cg (x + a) (y + b) := by
  obtain ⟨k, h⟩ := h
  obtain ⟨l, g⟩ := g
  exact ⟨k + l, by omega⟩
theorem Cg.sub {x y a b : Int} (h : Cg x y) (g : Cg a b) : Cg (x - a) (y - b) := by
  obtain ⟨k, h⟩ := h
  obtain ⟨l, g⟩ := g
  exact ⟨k - l, by omega⟩
theorem Cg.mul {x y a b : Int} (h : Cg x y) (g : Cg a b) : Cg (x * a) (y * b) := by
  obtain ⟨k, rfl⟩ := h
  obtain ⟨l, rfl⟩ := g
  refine ⟨k * b + y * l + k * l * 18446744073709551616, ?_⟩
  generalize 18446744073709551616 = M
  simp only [Int.mul_add, Int.add_mul, Int.mul_assoc, Int.mul_comm, Int.mul_left_comm]
  omega
theorem Cg.wrap (x : Int) : Cg (wrap64 x) x := by
  unfold wrap64
  refine ⟨-((x + 9223372036854775808) / 18446744073709551616), ?_⟩
  omega
theorem Cg.eq {x y : Int} (h : Cg x y) : wrap64 x = wrap64 y := by
  obtain ⟨k, rfl⟩ := h
  unfold wrap64
  omega
theorem Cg.same {x y : Int} (h : Cg x y) (hx : wrap64 x = x) (hy : wrap64 y = y) : x = y := by rw [← hx, ← hy]; exact h.eq
theorem Sm_Cg : ∀ (n : Nat) (f g : Nat → Int), (∀ j, j < n → Cg (f j) (g j)) → Cg (Sm n f) (Sm n g)
  | 0, _, _, _ => Cg.refl _
  | n + 1, f, g, h => (Sm_Cg n f g (fun j hj => h j (by omega))).add (h n (by omega))
theorem wdot_Cg : ∀ (r v : List Int) (a : Int), r.length = v.length → Cg (wdot a r v) (a + Sm r.length (fun j => r.getD j 0 * v.getD j 0))
  | [], [], a, _ => by simp [wdot, Sm]; exact Cg.refl _
  | x :: r, y :: v, a, h => by
    have ih := wdot_Cg r v (wrap64 (a + wrap64 (x * y))) (by simpa using h)
    show Cg (wdot (wrap64 (a + wrap64 (x * y))) r v) _
    refine ih.trans ?_
    rw [List.length_cons, Sm_first]
    have h1 : Cg (wrap64 (a + wrap64 (x * y))) (a + x * y) := (Cg.wrap _).trans ((Cg.refl a).add (Cg.wrap _))
    have h2 := h1.add (Cg.refl (Sm r.length (fun j => r.getD j 0 * v.getD j 0)))
    refine h2.trans (Cg.of_eq ?_)
    simp only [List.getD_cons_zero, List.getD_cons_succ]
    omega
end Go.Proofs.YtbjoblgklcilpaaGreatDoor

namespace Go.Proofs.YtbjoblgklcilpaaGreatDoor
open Go.RowKit
set_option linter.all false
def entA (m : List (List Int)) (j l : Nat) : Int := (m.getD j []).getD l 0
def frRow (m : List (List Int)) (i : Nat) : Nat → List Int
  | 0 => m.getD i []
  | k + 1 => mulRow m m.length ((frRow m i k).set i 0)
theorem wdot_canon : ∀ (r v : List Int) (a : Int), wrap64 a = a → wrap64 (wdot a r v) = wdot a r v
  | [], _, a, h => by simpa [wdot] using h
  | x :: r, [], a, h => by simpa [wdot] using h
  | x :: r, y :: v, a, _ => wdot_canon r v _ (Cg.wrap _).eq
theorem getD_get {α : Type} {xs : List α} {k : Nat} {x d : α} (h : xs[k]? = some x) : xs.getD k d = x := by simp [List.getD, h]
theorem get_lt {α : Type} (xs : List α) (k : Nat) (d : α) (h : k < xs.length) : xs[k]? = some (xs.getD k d) := by simp [List.getD, h]
theorem row_mul {m : List (List Int)} {r : List Int} {l : Nat} (hr : r.length = m.length) (hl : l < m.length) :
    Cg ((mulRow m m.length r).getD l 0) (Sm m.length (fun j => r.getD j 0 * entA m j l)) ∧ wrap64 ((mulRow m m.length r).getD l 0) = (mulRow m m.length r).getD l 0 := by
  rw [getD_get (mulRow_get hl)]
  refine ⟨?_, wdot_canon _ _ _ (wrap_id (by omega))⟩
  have h := wdot_Cg r (col m l) 0 (by simp [col, hr])
  rw [hr] at h
  refine h.trans (Cg.of_eq ?_)
  rw [Int.zero_add]
  refine Sm_congr _ _ _ (fun j hj => ?_)
  congr 1
  show (col m l).getD j 0 = (m.getD j []).getD l 0
  simp [col, List.getD, hj]
theorem entA_canon {m : List (List Int)} (hm : isMat m = true) {j l : Nat} (hj : j < m.length) (hl : l < m.length) : wrap64 (entA m j l) = entA m j l := by
  have h1 := get_lt m j [] hj
  have h2 := isMat_row hm h1
  have h3 := allIn_get h2.2 (get_lt (m.getD j []) l 0 (by rw [h2.1]; exact hl))
  exact wrap_id ⟨by unfold entA; omega, by unfold entA; omega⟩
theorem frRow_len {m : List (List Int)} (hm : isMat m = true) {i : Nat} (hi : i < m.length) : ∀ k, (frRow m i k).length = m.length
  | 0 => (isMat_row hm (get_lt m i [] hi)).1
  | k + 1 => mulRow_len _ _ _
theorem frRow_Cg {m : List (List Int)} (hm : isMat m = true) {i : Nat} (hi : i < m.length) : ∀ (k l : Nat), l < m.length →
    Cg ((frRow m i k).getD l 0) (RR m.length i (entA m) k l) ∧ wrap64 ((frRow m i k).getD l 0) = (frRow m i k).getD l 0
  | 0, l, hl => ⟨Cg.refl _, entA_canon hm hi hl⟩
  | k + 1, l, hl => by
    have h := row_mul (m := m) (r := (frRow m i k).set i 0) (l := l) (by rw [List.length_set, frRow_len hm hi]) hl
    refine ⟨h.1.trans ?_, h.2⟩
    refine Sm_Cg _ _ _ (fun j hj => ?_)
    refine Cg.mul ?_ (Cg.refl _)
    have hjl : j < (frRow m i k).length := by rw [frRow_len hm hi]; exact hj
    by_cases e : j = i
    · subst e
      simp [List.getD, List.getElem?_set, hjl]
      exact Cg.refl _
    · have h2 : ((frRow m i k).set i 0).getD j 0 = (frRow m i k).getD j 0 := by
        simp only [List.getD, List.getElem?_set]
        rw [if_neg (fun e2 => e e2.symm)]
      rw [h2]
      simp only [if_neg e]
      exact (frRow_Cg hm hi k j hj).1
theorem mulM_is {a b c : List (List Int)} (h : mulM a b = some c) : c = mulT a b b.length ∧ isMat a = true ∧ a.length = b.length := by
  unfold mulM at h
  split at h
  · rename_i h1
    injection h with h
    simp only [Bool.and_eq_true, decide_eq_true_eq] at h1
    exact ⟨h.symm, h1.1, h1.2.2.1⟩
  · cases h
theorem iterM_row {m : List (List Int)} {i : Nat} (hi : i < m.length) : ∀ (k t : Nat) (acc p : List (List Int)), acc.length = m.length → (acc.getD i []).length = m.length →
    (∀ l, l < m.length → Cg ((acc.getD i []).getD l 0) (TT m.length i (entA m) t l)) → iterM m k acc = some p → ∀ l, l < m.length → Cg ((p.getD i []).getD l 0) (TT m.length i (entA m) (t + k) l)
  | 0, t, acc, p, _, _, h, e => by
    injection e with e
    subst e
    exact h
  | k + 1, t, acc, p, h1, h2, h, e => by
    cases hq : mulM acc m with
    | none => rw [iterM_none hq] at e; cases e
    | some q =>
      rw [iterM_some hq] at e
      have hq2 := mulM_is hq
      have hrow : q.getD i [] = mulRow m m.length (acc.getD i []) := by
        rw [hq2.1]
        exact getD_get (mulT_get (get_lt acc i [] (by omega)))
      have := iterM_row hi k (t + 1) q p (by rw [hq2.1, mulT_len]; exact h1) (by rw [hrow, mulRow_len]) (by
        intro l hl
        rw [hrow]
        refine (row_mul h2 hl).1.trans ?_
        exact Sm_Cg _ _ _ (fun j hj => (h j hj).mul (Cg.refl _))) e
      intro l hl
      have h5 := this l hl
      rw [show t + 1 + k = t + (k + 1) by omega] at h5
      exact h5
theorem iterM_pre {m : List (List Int)} : ∀ (a b : Nat) (acc p : List (List Int)), iterM m (a + b) acc = some p → ∃ q, iterM m a acc = some q
  | 0, b, acc, p, _ => ⟨acc, rfl⟩
  | a + 1, b, acc, p, h => by
    rw [show a + 1 + b = (a + b) + 1 by omega] at h
    cases hq : mulM acc m with
    | none => rw [iterM_none hq] at h; cases h
    | some q =>
      rw [iterM_some hq] at h ⊢
      exact iterM_pre a b q p h
theorem rooted_facts {m : List (List Int)} {i n : Int} (h : ¬ rooted m i n < 0) : isMat m = true ∧ 0 ≤ i ∧ i.toNat < m.length ∧ 1 ≤ n ∧ n ≤ 30 ∧
    ∀ k : Nat, 1 ≤ k → (k : Int) ≤ n → Cg (rooted m i k) (TT m.length i.toNat (entA m) k i.toNat) ∧ wrap64 (rooted m i k) = rooted m i k := by
  cases h1 : isMat m
  · rw [rooted_mat h1] at h; omega
  cases h2 : inR i 0 (m.length - 1)
  · rw [rooted_i h2] at h; omega
  cases h3 : inR n 1 30
  · rw [rooted_n h3] at h; omega
  have b2 := inR_true h2
  have b3 := inR_true h3
  obtain ⟨i0, rfl⟩ := Int.eq_ofNat_of_zero_le b2.1
  have hi : i0 < m.length := by omega
  refine ⟨rfl, b2.1, hi, b3.1, b3.2, ?_⟩
  intro k hk1 hk2
  have h4 : inR n 0 30 = true := inR_mk ⟨by omega, by omega⟩
  have h5 : inR (k : Int) 0 30 = true := inR_mk ⟨by omega, by omega⟩
  cases hp : powM m n with
  | none => rw [rooted_none hp] at h; omega
  | some p =>
    rw [powM_iter h1 h4] at hp
    have e : n.toNat = k + (n.toNat - k) := by omega
    rw [e] at hp
    obtain ⟨q, hq⟩ := iterM_pre k (n.toNat - k) _ _ hp
    have hpk : powM m (k : Int) = some q := by rw [powM_iter h1 h5]; exact hq
    have hqm := powM_mat hpk
    have hr : rooted m (i0 : Int) (k : Int) = (q.getD i0 []).getD i0 0 := by
      have h6 : inR (k : Int) 1 30 = true := inR_mk ⟨by omega, by omega⟩
      simp [rooted, h1, h2, h6, hpk]
    have hrow := isMat_row hqm.2.1 (get_lt q i0 [] (by rw [hqm.2.2]; exact hi))
    rw [hr]
    constructor
    · have h7 := iterM_row hi k 0 (oneT m.length) q (oneT_len _) (by rw [getD_get (oneT_get hi)]; exact oneRow_len _ _) (by
        intro l hl
        rw [getD_get (oneT_get hi)]
        refine Cg.of_eq ?_
        show (oneRow m.length i0).getD l 0 = if l = i0 then 1 else 0
        unfold oneRow
        simp only [List.getD, List.getElem?_set, List.length_replicate]
        by_cases e : i0 = l
        · subst e; simp [hi]
        · rw [if_neg e, if_neg (fun e2 => e e2.symm)]
          simp [List.getElem?_replicate, hl]) hq i0 hi
      rw [Nat.zero_add] at h7
      exact h7
    · have h8 := allIn_get hrow.2 (get_lt (q.getD i0 []) i0 0 (by rw [hrow.1, hqm.2.2]; exact hi))
      exact wrap_id ⟨by omega, by omega⟩
/-- The sums that are taken off, one after the other. -/
def conv (fs rs : List Int) (k : Nat) : Nat → Nat → Int → Int
  | 0, _, f => f
  | c + 1, l, f => conv fs rs k c (l + 1) (wrap64 (f - wrap64 (fs.getD l 0 * rs.getD (k - l) 0)))
theorem conv_Cg (fs rs : List Int) (k : Nat) : ∀ (c l : Nat) (f : Int), wrap64 f = f → Cg (conv fs rs k c l f) (f - Sm c (fun t => fs.getD (l + t) 0 * rs.getD (k - (l + t)) 0)) ∧ wrap64 (conv fs rs k c l f) = conv fs rs k c l f
  | 0, l, f, hf => ⟨Cg.of_eq (by simp [conv, Sm]), hf⟩
  | c + 1, l, f, hf => by
    have ih := conv_Cg fs rs k c (l + 1) (wrap64 (f - wrap64 (fs.getD l 0 * rs.getD (k - l) 0))) (Cg.wrap _).eq
    refine ⟨ih.1.trans ?_, ih.2⟩
    rw [Sm_first]
    have h1 : Cg (wrap64 (f - wrap64 (fs.getD l 0 * rs.getD (k - l) 0))) (f - fs.getD l 0 * rs.getD (k - l) 0) := (Cg.wrap _).trans ((Cg.refl f).sub (Cg.wrap _))
    refine (h1.sub (Cg.refl _)).trans (Cg.of_eq ?_)
    have h2 : Sm c (fun t => fs.getD (l + 1 + t) 0 * rs.getD (k - (l + 1 + t)) 0) = Sm c (fun j => fs.getD (l + (j + 1)) 0 * rs.getD (k - (l + (j + 1))) 0) :=
      Sm_congr c _ _ (fun t _ => by rw [show l + 1 + t = l + (t + 1) by omega])
    rw [h2]
    simp only [Nat.add_zero]
    omega
def rsL (m : List (List Int)) (i : Int) (k : Nat) : List Int := 1 :: (List.range k).map (fun (t : Nat) => rooted m i ((t : Int) + 1))
def fsL (m : List (List Int)) (i : Int) : Nat → List Int
  | 0 => [0]
  | k + 1 => fsL m i k ++ [conv (fsL m i k) (rsL m i (k + 1)) (k + 1) k 1 ((rsL m i (k + 1)).getD (k + 1) 0)]
theorem rsL_len (m : List (List Int)) (i : Int) (k : Nat) : (rsL m i k).length = k + 1 := by simp [rsL]
theorem fsL_len (m : List (List Int)) (i : Int) : ∀ k, (fsL m i k).length = k + 1
  | 0 => rfl
  | k + 1 => by simp [fsL, fsL_len m i k]
theorem rsL_get {m : List (List Int)} {i : Int} {k t : Nat} (h1 : 1 ≤ t) (h2 : t ≤ k) : (rsL m i k).getD t 0 = rooted m i t := by
  obtain ⟨s, rfl⟩ : ∃ s, t = s + 1 := ⟨t - 1, by omega⟩
  have hs : s < k := by omega
  simp [rsL, List.getD, hs]
theorem rsL_push (m : List (List Int)) (i : Int) (k : Nat) : rsL m i k ++ [rooted m i ((k : Int) + 1)] = rsL m i (k + 1) := by
  simp [rsL, List.range_succ]
theorem fsL_Cg {m : List (List Int)} {i n : Int} (h : ¬ rooted m i n < 0) : ∀ (k : Nat), (k : Int) ≤ n → ∀ t, 1 ≤ t → t ≤ k →
    Cg ((fsL m i k).getD t 0) (FF m.length i.toNat (entA m) (t - 1)) ∧ wrap64 ((fsL m i k).getD t 0) = (fsL m i k).getD t 0
  | 0, _, t, h1, h2 => by omega
  | k + 1, hk, t, h1, h2 => by
    have ih := fsL_Cg h k (by omega)
    have hf := rooted_facts h
    by_cases ht : t ≤ k
    · have e : (fsL m i (k + 1)).getD t 0 = (fsL m i k).getD t 0 := by
        show (fsL m i k ++ [_]).getD t 0 = _
        simp only [List.getD]
        rw [List.getElem?_append_left (by rw [fsL_len]; omega)]
      rw [e]
      exact ih t h1 ht
    · have e : t = k + 1 := by omega
      subst e
      have e : (fsL m i (k + 1)).getD (k + 1) 0 = conv (fsL m i k) (rsL m i (k + 1)) (k + 1) k 1 ((rsL m i (k + 1)).getD (k + 1) 0) := by
        show (fsL m i k ++ [_]).getD (k + 1) 0 = _
        simp only [List.getD]
        rw [List.getElem?_append_right (by rw [fsL_len]; omega), fsL_len]
        simp
      rw [e, rsL_get (by omega) (Nat.le_refl _)]
      have hk1 := hf.2.2.2.2.2 (k + 1) (by omega) hk
      have hc := conv_Cg (fsL m i k) (rsL m i (k + 1)) (k + 1) k 1 (rooted m i ((k + 1 : Nat) : Int)) hk1.2
      refine ⟨hc.1.trans ?_, hc.2⟩
      have hren := renew m.length i.toNat (entA m) hf.2.2.1 k i.toNat
      have h3 : Cg (Sm k (fun t => (fsL m i k).getD (1 + t) 0 * (rsL m i (k + 1)).getD (k + 1 - (1 + t)) 0)) (Sm k (fun t => FF m.length i.toNat (entA m) t * TT m.length i.toNat (entA m) (k - t) i.toNat)) := by
        refine Sm_Cg _ _ _ (fun s hs => ?_)
        have a1 := (ih (1 + s) (by omega) (by omega)).1
        rw [show 1 + s - 1 = s by omega] at a1
        have a2 := (hf.2.2.2.2.2 (k - s) (by omega) (by omega)).1
        rw [← rsL_get (k := k + 1) (by omega) (by omega)] at a2
        rw [show k + 1 - (1 + s) = k - s by omega]
        exact a1.mul a2
      refine (hk1.1.sub h3).trans (Cg.of_eq ?_)
      rw [hren, show k + 1 - 1 = k by omega]
      unfold FF
      omega
def firstR (m : List (List Int)) (i n : Int) : Int := if 10 < n then -1 else if rooted m i n < 0 then -1 else (frRow m i.toNat (n.toNat - 1)).getD i.toNat 0
/-- Both roads come to one number. -/
theorem first_both {m : List (List Int)} {i n : Int} (h : ¬ rooted m i n < 0) : (fsL m i n.toNat).getD n.toNat 0 = (frRow m i.toNat (n.toNat - 1)).getD i.toNat 0 := by
  have hf := rooted_facts h
  have h1 := fsL_Cg h n.toNat (by omega) n.toNat (by omega) (Nat.le_refl _)
  have h2 := frRow_Cg hf.1 hf.2.2.1 (n.toNat - 1) i.toNat hf.2.2.1
  exact (h1.1.trans h2.1.symm).same h1.2 h2.2
end Go.Proofs.YtbjoblgklcilpaaGreatDoor

namespace Go.Proofs.YtbjoblgklcilpaaGreatDoor
open Go.RowKit
set_option linter.all false
theorem Sm_mulr (n : Nat) (c : Int) (f : Nat → Int) : Sm n (fun j => f j * c) = Sm n f * c := by
  rw [Int.mul_comm, ← Sm_mul]
  exact Sm_congr n _ _ (fun j _ => Int.mul_comm _ _)
theorem Sm_assoc (n m : Nat) (a : Nat → Int) (b : Nat → Nat → Int) (c : Nat → Int) : Sm m (fun l => Sm n (fun j => a j * b j l) * c l) = Sm n (fun j => a j * Sm m (fun l => b j l * c l)) := by
  have h1 : Sm m (fun l => Sm n (fun j => a j * b j l) * c l) = Sm m (fun l => Sm n (fun j => a j * (b j l * c l))) := by
    refine Sm_congr m _ _ (fun l _ => ?_)
    rw [← Sm_mulr]
    exact Sm_congr n _ _ (fun j _ => Int.mul_assoc _ _ _)
  rw [h1, ← Sm_comm]
  exact Sm_congr n _ _ (fun j _ => Sm_mul _ _ _)
/-- The sum of the diagonal of the power k. -/
def tr (n : Nat) (A : Nat → Nat → Int) (k : Nat) : Int := Sm n (fun i => TT n i A k i)
theorem TT_congr {n : Nat} {A B : Nat → Nat → Int} (h : ∀ i j, i < n → j < n → A i j = B i j) (i : Nat) : ∀ k l, l < n → TT n i A k l = TT n i B k l
  | 0, _, _ => rfl
  | k + 1, l, hl => Sm_congr n _ _ (fun j hj => by rw [TT_congr h i k j hj, h j l hj hl])
theorem tr_congr {n : Nat} {A B : Nat → Nat → Int} (h : ∀ i j, i < n → j < n → A i j = B i j) (k : Nat) : tr n A k = tr n B k :=
  Sm_congr n _ _ (fun i hi => TT_congr h i k i hi)
section
variable {n m : Nat} {R S A X : Nat → Nat → Int} (hA : ∀ i j, i < n → j < n → A i j = Sm m (fun q => R i q * S q j)) (hX : ∀ p q, p < m → q < m → X p q = Sm n (fun i => S p i * R i q))
include hA hX
theorem TT_two {k : Nat} (hk : k < n) : ∀ (t q : Nat), q < m → Sm n (fun l => TT n k A t l * R l q) = Sm m (fun p => R k p * TT m p X t q)
  | 0, q, hq => by
    have h1 : Sm n (fun l => TT n k A 0 l * R l q) = R k q := Sm_one n k (fun l => R l q) hk
    have h2 : Sm m (fun p => R k p * TT m p X 0 q) = Sm m (fun p => (if p = q then 1 else 0) * R k p) := by
      refine Sm_congr m _ _ (fun p _ => ?_)
      show R k p * (if q = p then 1 else 0) = _
      by_cases e : p = q
      · subst e; simp
      · rw [if_neg e, if_neg (fun e2 => e e2.symm)]; simp
    rw [h1, h2, Sm_one m q (fun p => R k p) hq]
  | t + 1, q, hq => by
    have ih := TT_two hk t
    show Sm n (fun l => Sm n (fun j => TT n k A t j * A j l) * R l q) = _
    rw [Sm_assoc]
    have h1 : Sm n (fun j => TT n k A t j * Sm n (fun l => A j l * R l q)) = Sm n (fun j => TT n k A t j * Sm m (fun p => R j p * X p q)) := by
      refine Sm_congr n _ _ (fun j hj => ?_)
      congr 1
      have h2 : Sm n (fun l => A j l * R l q) = Sm n (fun l => Sm m (fun p => R j p * S p l) * R l q) := Sm_congr n _ _ (fun l hl => by rw [hA j l hj hl])
      rw [h2, Sm_assoc]
      exact Sm_congr m _ _ (fun p hp => by rw [hX p q hp hq])
    rw [h1, ← Sm_assoc]
    have h3 : Sm m (fun l => Sm n (fun j => TT n k A t j * R j l) * X l q) = Sm m (fun l => Sm m (fun p => R k p * TT m p X t l) * X l q) := Sm_congr m _ _ (fun l hl => by rw [ih l hl])
    rw [h3, Sm_assoc]
    rfl
/-- Both products have the same closed paths. -/
theorem tr_two (t : Nat) : tr n A (t + 1) = tr m X (t + 1) := by
  unfold tr
  have h1 : Sm n (fun k => TT n k A (t + 1) k) = Sm n (fun k => Sm m (fun p => R k p * Sm m (fun l => TT m p X t l * S l k))) := by
    refine Sm_congr n _ _ (fun k hk => ?_)
    show Sm n (fun j => TT n k A t j * A j k) = _
    have h2 : Sm n (fun j => TT n k A t j * A j k) = Sm n (fun j => TT n k A t j * Sm m (fun q => R j q * S q k)) := Sm_congr n _ _ (fun j hj => by rw [hA j k hj hk])
    rw [h2, ← Sm_assoc]
    have h3 : Sm m (fun l => Sm n (fun j => TT n k A t j * R j l) * S l k) = Sm m (fun l => Sm m (fun p => R k p * TT m p X t l) * S l k) := Sm_congr m _ _ (fun l hl => by rw [TT_two hA hX hk t l hl])
    rw [h3, Sm_assoc]
  rw [h1, Sm_comm]
  refine Sm_congr m _ _ (fun p hp => ?_)
  show Sm n (fun k => R k p * Sm m (fun l => TT m p X t l * S l k)) = Sm m (fun l => TT m p X t l * X l p)
  have h4 : Sm n (fun k => R k p * Sm m (fun l => TT m p X t l * S l k)) = Sm n (fun k => Sm m (fun l => TT m p X t l * S l k) * R k p) := Sm_congr n _ _ (fun k _ => Int.mul_comm _ _)
  rw [h4, Sm_assoc]
  exact Sm_congr m _ _ (fun l hl => by rw [hX l p hl hp])
end
theorem TT_left (n : Nat) (A : Nat → Nat → Int) {i : Nat} (hi : i < n) : ∀ (k l : Nat), l < n → TT n i A (k + 1) l = Sm n (fun j => A i j * TT n j A k l)
  | 0, l, hl => by
    rw [TT_one n i A hi l]
    have h2 : Sm n (fun j => A i j * TT n j A 0 l) = Sm n (fun j => (if j = l then 1 else 0) * A i j) := by
      refine Sm_congr n _ _ (fun p _ => ?_)
      show A i p * (if l = p then 1 else 0) = _
      by_cases e : p = l
      · subst e; simp
      · rw [if_neg e, if_neg (fun e2 => e e2.symm)]; simp
    rw [h2, Sm_one n l (fun p => A i p) hl]
  | k + 1, l, hl => by
    have ih := TT_left n A hi k
    show Sm n (fun q => TT n i A (k + 1) q * A q l) = _
    have h1 : Sm n (fun q => TT n i A (k + 1) q * A q l) = Sm n (fun q => Sm n (fun j => A i j * TT n j A k q) * A q l) := Sm_congr n _ _ (fun q hq => by rw [ih q hq])
    rw [h1, Sm_assoc]
    rfl
theorem TT_turn (n : Nat) (A : Nat → Nat → Int) : ∀ (k i l : Nat), i < n → l < n → TT n i (fun a b => A b a) k l = TT n l A k i
  | 0, i, l, _, _ => by
    show (if l = i then 1 else 0) = (if i = l then (1 : Int) else 0)
    by_cases e : l = i
    · subst e; rfl
    · rw [if_neg e, if_neg (fun e2 => e e2.symm)]
  | k + 1, i, l, hi, hl => by
    rw [TT_left n A hl k i hi]
    show Sm n (fun j => TT n i (fun a b => A b a) k j * A l j) = _
    exact Sm_congr n _ _ (fun j hj => by rw [TT_turn n A k i j hi hj, Int.mul_comm])
theorem tr_turn (n : Nat) (A : Nat → Nat → Int) (k : Nat) : tr n (fun a b => A b a) k = tr n A k :=
  Sm_congr n _ _ (fun i hi => TT_turn n A k i i hi hi)
theorem trc_Cg : ∀ (p : List (List Int)) (k : Nat) (a : Int), Cg (trc k a p) (a + Sm p.length (fun i => (p.getD i []).getD (k + i) 0)) ∧ (wrap64 a = a → wrap64 (trc k a p) = trc k a p)
  | [], k, a => ⟨Cg.of_eq (by simp [trc, Sm]), id⟩
  | r :: p, k, a => by
    have ih := trc_Cg p (k + 1) (wrap64 (a + r.getD k 0))
    refine ⟨?_, fun _ => ih.2 (Cg.wrap _).eq⟩
    refine ih.1.trans ?_
    rw [List.length_cons, Sm_first]
    refine ((Cg.wrap _).add (Cg.refl _)).trans (Cg.of_eq ?_)
    have h2 : Sm p.length (fun i => (p.getD i []).getD (k + 1 + i) 0) = Sm p.length (fun j => ((r :: p).getD (j + 1) []).getD (k + (j + 1)) 0) :=
      Sm_congr _ _ _ (fun j _ => by rw [List.getD_cons_succ, show k + 1 + j = k + (j + 1) by omega])
    rw [h2, List.getD_cons_zero, Nat.add_zero]
    omega
theorem Sm_bound (c : Int) : ∀ (n : Nat) (f : Nat → Int), (∀ j, j < n → 0 ≤ f j ∧ f j ≤ c) → 0 ≤ Sm n f ∧ Sm n f ≤ n * c
  | 0, _, _ => by simp [Sm]
  | n + 1, f, h => by
    have ih := Sm_bound c n f (fun j hj => h j (by omega))
    have h1 := h n (by omega)
    show 0 ≤ Sm n f + f n ∧ Sm n f + f n ≤ ((n + 1 : Nat) : Int) * c
    have e : ((n + 1 : Nat) : Int) * c = n * c + c := by rw [Int.natCast_add, Int.add_mul]; simp
    omega
/-- Where a number of closed paths is known, it is the sum of the diagonal. -/
theorem closed_Cg {m : List (List Int)} {k : Int} (h : 0 ≤ closed m k) : isMat m = true ∧ 1 ≤ k ∧ k ≤ 30 ∧ Cg (closed m k) (tr m.length (entA m) k.toNat) ∧ closed m k ≤ 9000000 := by
  unfold closed at h ⊢
  cases h1 : inR k 1 30
  · rw [h1] at h; simp at h
  rw [h1] at h
  simp only [if_true] at h ⊢
  have b1 := inR_true h1
  cases hp : powM m k with
  | none => rw [hp] at h; simp at h
  | some p =>
    rw [hp] at h
    simp only at h ⊢
    have hm := powM_mat hp
    have hl := isMat_len hm.2.1
    have hc := trc_Cg p 0 0
    have hent : ∀ j, j < p.length → 0 ≤ (p.getD j []).getD (0 + j) 0 ∧ (p.getD j []).getD (0 + j) 0 ≤ 1000000 := by
      intro j hj
      rw [Nat.zero_add]
      have h2 := isMat_row hm.2.1 (get_lt p j [] hj)
      exact allIn_get h2.2 (get_lt _ j 0 (by rw [h2.1]; exact hj))
    have hsb := Sm_bound 1000000 p.length _ hent
    have hcan := hc.2 (wrap_id (by omega))
    have heq : trc 0 0 p = Sm p.length (fun i => (p.getD i []).getD (0 + i) 0) := by
      refine Cg.same (hc.1.trans (Cg.of_eq (Int.zero_add _))) hcan (wrap_id ?_)
      have : (p.length : Int) ≤ 9 := by omega
      omega
    refine ⟨hm.1, b1.1, b1.2, ?_, by rw [heq]; have : (p.length : Int) ≤ 9 := by omega
                                     omega⟩
    rw [heq, hm.2.2]
    unfold tr
    refine Sm_Cg _ _ _ (fun i hi => ?_)
    have h4 : inR k 0 30 = true := inR_mk ⟨by omega, by omega⟩
    rw [powM_iter hm.1 h4] at hp
    have h7 := iterM_row hi k.toNat 0 (oneT m.length) p (oneT_len _) (by rw [getD_get (oneT_get hi)]; exact oneRow_len _ _) (by
      intro l hl
      rw [getD_get (oneT_get hi)]
      refine Cg.of_eq ?_
      show (oneRow m.length i).getD l 0 = if l = i then 1 else 0
      unfold oneRow
      simp only [List.getD, List.getElem?_set, List.length_replicate]
      by_cases e : i = l
      · subst e; simp [hi]
      · rw [if_neg e, if_neg (fun e2 => e e2.symm)]
        simp [List.getElem?_replicate, hl]) hp i hi
    rw [Nat.zero_add] at h7 ⊢
    exact h7
/-- Two graphs of which the sums of the diagonals are one have the same closed paths, where these are known. -/
theorem closed_same {m x : List (List Int)} {k : Int} (hm : 0 ≤ closed m k) (hx : 0 ≤ closed x k) (h : ∀ t : Nat, tr x.length (entA x) (t + 1) = tr m.length (entA m) (t + 1)) : closed x k = closed m k := by
  have h1 := closed_Cg hm
  have h2 := closed_Cg hx
  have e : k.toNat = (k.toNat - 1) + 1 := by omega
  have h3 := h (k.toNat - 1)
  rw [← e] at h3
  have h4 := h2.2.2.2.1
  rw [h3] at h4
  exact (h4.trans h1.2.2.2.1.symm).same (wrap_id (by omega)) (wrap_id (by omega))
end Go.Proofs.YtbjoblgklcilpaaGreatDoor

namespace Go.Proofs.YtbjoblgklcilpaaGreatDoor
open Go.RowKit
set_option linter.all false
def D2f (A : Nat → Nat → Int) (i j : Nat) : Int := A i i * A j j - A i j * A j i
def D3f (A : Nat → Nat → Int) (i j k : Nat) : Int := A i i * (A j j * A k k - A j k * A k j) - A i j * (A j i * A k k - A j k * A k i) + A i k * (A j i * A k j - A j j * A k i)
def D3g (A : Nat → Nat → Int) (r s u c d e : Nat) : Int := A r c * (A s d * A u e - A s e * A u d) - A r d * (A s c * A u e - A s e * A u c) + A r e * (A s c * A u d - A s d * A u c)
def D4f (A : Nat → Nat → Int) : Int := A 0 0 * D3g A 1 2 3 1 2 3 - A 0 1 * D3g A 1 2 3 0 2 3 + A 0 2 * D3g A 1 2 3 0 1 3 - A 0 3 * D3g A 1 2 3 0 1 2
theorem ch1 (A : Nat → Nat → Int) (j l : Nat) (hj : j < 1) (hl : l < 1) : TT 1 j A 1 l - A 0 0 * TT 1 j A 0 l = 0 := by
  obtain rfl : j = 0 := by omega
  obtain rfl : l = 0 := by omega
  simp [TT, Sm]
theorem ch2 (A : Nat → Nat → Int) (j l : Nat) (hj : j < 2) (hl : l < 2) : TT 2 j A 2 l - (A 0 0 + A 1 1) * TT 2 j A 1 l + D2f A 0 1 * TT 2 j A 0 l = 0 := by
  have hj : j = 0 ∨ j = 1 := by omega
  have hl : l = 0 ∨ l = 1 := by omega
  unfold D2f
  rcases hj with rfl | rfl <;> rcases hl with rfl | rfl <;> simp [TT, Sm] <;> grind
theorem ch3 (A : Nat → Nat → Int) (j l : Nat) (hj : j < 3) (hl : l < 3) : TT 3 j A 3 l - (A 0 0 + A 1 1 + A 2 2) * TT 3 j A 2 l + (D2f A 0 1 + D2f A 0 2 + D2f A 1 2) * TT 3 j A 1 l - D3f A 0 1 2 * TT 3 j A 0 l = 0 := by
  have hj : j = 0 ∨ j = 1 ∨ j = 2 := by omega
  have hl : l = 0 ∨ l = 1 ∨ l = 2 := by omega
  unfold D3f D2f
  rcases hj with rfl | rfl | rfl <;> rcases hl with rfl | rfl | rfl <;> simp [TT, Sm] <;> grind
end Go.Proofs.YtbjoblgklcilpaaGreatDoor

namespace Go.Proofs.YtbjoblgklcilpaaGreatDoor
open Go.RowKit
set_option linter.all false
set_option maxHeartbeats 4000000 in
theorem ch4 (A : Nat → Nat → Int) (j l : Nat) (hj : j < 4) (hl : l < 4) : TT 4 j A 4 l - (A 0 0 + A 1 1 + A 2 2 + A 3 3) * TT 4 j A 3 l + (D2f A 0 1 + D2f A 0 2 + D2f A 0 3 + D2f A 1 2 + D2f A 1 3 + D2f A 2 3) * TT 4 j A 2 l - (D3f A 0 1 2 + D3f A 0 1 3 + D3f A 0 2 3 + D3f A 1 2 3) * TT 4 j A 1 l + D4f A * TT 4 j A 0 l = 0 := by
  have hj : j = 0 ∨ j = 1 ∨ j = 2 ∨ j = 3 := by omega
  have hl : l = 0 ∨ l = 1 ∨ l = 2 ∨ l = 3 := by omega
  unfold D4f D3g D3f D2f
  rcases hj with rfl | rfl | rfl | rfl <;> rcases hl with rfl | rfl | rfl | rfl <;> simp [TT, Sm] <;> grind
end Go.Proofs.YtbjoblgklcilpaaGreatDoor

namespace Go.Proofs.YtbjoblgklcilpaaGreatDoor
open Go.RowKit
set_option linter.all false
theorem nt2a (A : Nat → Nat → Int) : tr 2 A 1 = A 0 0 + A 1 1 := by simp [tr, TT, Sm]
theorem nt3a (A : Nat → Nat → Int) : tr 3 A 1 = A 0 0 + A 1 1 + A 2 2 := by simp [tr, TT, Sm]
theorem nt4a (A : Nat → Nat → Int) : tr 4 A 1 = A 0 0 + A 1 1 + A 2 2 + A 3 3 := by simp [tr, TT, Sm]
theorem nt3b (A : Nat → Nat → Int) : tr 3 A 2 - (A 0 0 + A 1 1 + A 2 2) * tr 3 A 1 + 2 * (D2f A 0 1 + D2f A 0 2 + D2f A 1 2) = 0 := by
  unfold D2f
  simp [tr, TT, Sm]
  grind
theorem nt4b (A : Nat → Nat → Int) : tr 4 A 2 - (A 0 0 + A 1 1 + A 2 2 + A 3 3) * tr 4 A 1 + 2 * (D2f A 0 1 + D2f A 0 2 + D2f A 0 3 + D2f A 1 2 + D2f A 1 3 + D2f A 2 3) = 0 := by
  unfold D2f
  simp [tr, TT, Sm]
  grind
set_option maxHeartbeats 4000000 in
theorem nt4c (A : Nat → Nat → Int) : tr 4 A 3 - (A 0 0 + A 1 1 + A 2 2 + A 3 3) * tr 4 A 2 + (D2f A 0 1 + D2f A 0 2 + D2f A 0 3 + D2f A 1 2 + D2f A 1 3 + D2f A 2 3) * tr 4 A 1 - 3 * (D3f A 0 1 2 + D3f A 0 1 3 + D3f A 0 2 3 + D3f A 1 2 3) = 0 := by
  unfold D3f D2f
  simp [tr, TT, Sm]
  grind
theorem TT_plus (n : Nat) (A : Nat → Nat → Int) (i : Nat) : ∀ (s k l : Nat), l < n → TT n i A (s + k) l = Sm n (fun j => TT n i A s j * TT n j A k l)
  | s, 0, l, hl => by
    have e : Sm n (fun j => TT n i A s j * TT n j A 0 l) = Sm n (fun j => (if j = l then 1 else 0) * TT n i A s j) := Sm_congr n _ _ fun j _ => by
      show TT n i A s j * (if l = j then 1 else 0) = _
      by_cases h : l = j
      · subst h; simp
      · rw [if_neg h, if_neg (fun e => h e.symm)]; simp
    rw [e, Sm_one n l _ hl]
    rfl
  | s, k + 1, l, hl => by
    show Sm n (fun t => TT n i A (s + k) t * A t l) = _
    have e1 : Sm n (fun t => TT n i A (s + k) t * A t l) = Sm n (fun t => Sm n (fun j => TT n i A s j * TT n j A k t) * A t l) := Sm_congr n _ _ fun t ht => by rw [TT_plus n A i s k t ht]
    rw [e1, Sm_assoc]
    rfl
end Go.Proofs.YtbjoblgklcilpaaGreatDoor

namespace Go.Proofs.YtbjoblgklcilpaaGreatDoor
open Go.RowKit
set_option linter.all false
theorem tr_ch {n k : Nat} {A : Nat → Nat → Int} {b : Nat → Int} (h : ∀ j l, j < n → l < n → Sm (k + 1) (fun i => b i * TT n j A i l) = 0) (r : Nat) : Sm (k + 1) (fun t => b t * tr n A (r + t)) = 0 := by
  have e1 : Sm (k + 1) (fun t => b t * tr n A (r + t)) = Sm (k + 1) (fun t => Sm n (fun i => Sm n (fun j => TT n i A r j * (b t * TT n j A t i)))) := Sm_congr _ _ _ fun t _ => by
    unfold tr
    rw [← Sm_mul]
    refine Sm_congr _ _ _ fun i hi => ?_
    rw [TT_plus n A i r t i hi, ← Sm_mul]
    refine Sm_congr _ _ _ fun j _ => ?_
    rw [Int.mul_left_comm]
  rw [e1, Sm_comm]
  have e2 : Sm n (fun i => Sm (k + 1) (fun t => Sm n (fun j => TT n i A r j * (b t * TT n j A t i)))) = Sm n (fun _ => 0) := Sm_congr _ _ _ fun i hi => by
    rw [Sm_comm]
    have e3 : Sm n (fun j => Sm (k + 1) (fun t => TT n i A r j * (b t * TT n j A t i))) = Sm n (fun _ => 0) := Sm_congr _ _ _ fun j hj => by
      rw [Sm_mul, h j i hj hi, Int.mul_zero]
    rw [e3, Sm_zero]
  rw [e2, Sm_zero]
/-- The numbers of the polynomial. -/
def cfN (n : Nat) (A : Nat → Nat → Int) : List Int := match n with
  | 1 => [1, -A 0 0]
  | 2 => [1, -(A 0 0 + A 1 1), D2f A 0 1]
  | 3 => [1, -(A 0 0 + A 1 1 + A 2 2), D2f A 0 1 + D2f A 0 2 + D2f A 1 2, -D3f A 0 1 2]
  | 4 => [1, -(A 0 0 + A 1 1 + A 2 2 + A 3 3), D2f A 0 1 + D2f A 0 2 + D2f A 0 3 + D2f A 1 2 + D2f A 1 3 + D2f A 2 3, -(D3f A 0 1 2 + D3f A 0 1 3 + D3f A 0 2 3 + D3f A 1 2 3), D4f A]
  | _ => []
theorem tr_zero (n : Nat) (A : Nat → Nat → Int) : tr n A 0 = n := by
  have e : tr n A 0 = Sm n (fun _ => 1) := Sm_congr _ _ _ fun i _ => by show (if i = i then (1 : Int) else 0) = 1; rw [if_pos rfl]
  rw [e]
  clear e
  induction n with
  | zero => rfl
  | succ n ih => show Sm n _ + 1 = _; rw [ih]; omega
theorem tr_of1 (A : Nat → Nat → Int) (r : Nat) : tr 1 A (r + 1) - A 0 0 * tr 1 A r = 0 := by
  have h := tr_ch (n := 1) (k := 1) (A := A) (b := fun i => ([-A 0 0, 1] : List Int).getD i 0) (fun j l hj hl => by have := ch1 A j l hj hl; simp only [Sm, List.getD_cons_zero, List.getD_cons_succ]; grind) r
  simp only [Sm, List.getD_cons_zero, List.getD_cons_succ, Nat.add_zero] at h
  grind
theorem tr_of2 (A : Nat → Nat → Int) (r : Nat) : tr 2 A (r + 2) - (A 0 0 + A 1 1) * tr 2 A (r + 1) + D2f A 0 1 * tr 2 A r = 0 := by
  have h := tr_ch (n := 2) (k := 2) (A := A) (b := fun i => ([D2f A 0 1, -(A 0 0 + A 1 1), 1] : List Int).getD i 0) (fun j l hj hl => by have := ch2 A j l hj hl; simp only [Sm, List.getD_cons_zero, List.getD_cons_succ]; grind) r
  simp only [Sm, List.getD_cons_zero, List.getD_cons_succ, Nat.add_zero] at h
  grind
theorem tr_of3 (A : Nat → Nat → Int) (r : Nat) : tr 3 A (r + 3) - (A 0 0 + A 1 1 + A 2 2) * tr 3 A (r + 2) + (D2f A 0 1 + D2f A 0 2 + D2f A 1 2) * tr 3 A (r + 1) - D3f A 0 1 2 * tr 3 A r = 0 := by
  have h := tr_ch (n := 3) (k := 3) (A := A) (b := fun i => ([-D3f A 0 1 2, D2f A 0 1 + D2f A 0 2 + D2f A 1 2, -(A 0 0 + A 1 1 + A 2 2), 1] : List Int).getD i 0) (fun j l hj hl => by have := ch3 A j l hj hl; simp only [Sm, List.getD_cons_zero, List.getD_cons_succ]; grind) r
  simp only [Sm, List.getD_cons_zero, List.getD_cons_succ, Nat.add_zero] at h
  grind
theorem tr_of4 (A : Nat → Nat → Int) (r : Nat) : tr 4 A (r + 4) - (A 0 0 + A 1 1 + A 2 2 + A 3 3) * tr 4 A (r + 3) + (D2f A 0 1 + D2f A 0 2 + D2f A 0 3 + D2f A 1 2 + D2f A 1 3 + D2f A 2 3) * tr 4 A (r + 2) - (D3f A 0 1 2 + D3f A 0 1 3 + D3f A 0 2 3 + D3f A 1 2 3) * tr 4 A (r + 1) + D4f A * tr 4 A r = 0 := by
  have h := tr_ch (n := 4) (k := 4) (A := A) (b := fun i => ([D4f A, -(D3f A 0 1 2 + D3f A 0 1 3 + D3f A 0 2 3 + D3f A 1 2 3), D2f A 0 1 + D2f A 0 2 + D2f A 0 3 + D2f A 1 2 + D2f A 1 3 + D2f A 2 3, -(A 0 0 + A 1 1 + A 2 2 + A 3 3), 1] : List Int).getD i 0) (fun j l hj hl => by have := ch4 A j l hj hl; simp only [Sm, List.getD_cons_zero, List.getD_cons_succ]; grind) r
  simp only [Sm, List.getD_cons_zero, List.getD_cons_succ, Nat.add_zero] at h
  grind
end Go.Proofs.YtbjoblgklcilpaaGreatDoor

namespace Go.Proofs.YtbjoblgklcilpaaGreatDoor
open Go.RowKit
set_option linter.all false
def cN (n : Nat) (A : Nat → Nat → Int) (k : Nat) : Int := (cfN n A).getD k 0
theorem newt1 (A : Nat → Nat → Int) : ∀ k, k < 6 → tr 1 A (k + 1) + Sm k (fun i => cN 1 A (i + 1) * tr 1 A (k - i)) + ((k + 1 : Nat) : Int) * cN 1 A (k + 1) = 0 := by
  have h0 := tr_zero 1 A
  have h1 := tr_of1 A 0
  have h2 := tr_of1 A 1
  have h3 := tr_of1 A 2
  have h4 := tr_of1 A 3
  have h5 := tr_of1 A 4
  have h6 := tr_of1 A 5
  intro k hk
  have h : k = 0 ∨ k = 1 ∨ k = 2 ∨ k = 3 ∨ k = 4 ∨ k = 5 := by omega
  rcases h with rfl | rfl | rfl | rfl | rfl | rfl <;> simp [Sm, cN, cfN] at * <;> grind
theorem newt2 (A : Nat → Nat → Int) : ∀ k, k < 6 → tr 2 A (k + 1) + Sm k (fun i => cN 2 A (i + 1) * tr 2 A (k - i)) + ((k + 1 : Nat) : Int) * cN 2 A (k + 1) = 0 := by
  have h0 := tr_zero 2 A
  have h1 := nt2a A
  have h2 := tr_of2 A 0
  have h3 := tr_of2 A 1
  have h4 := tr_of2 A 2
  have h5 := tr_of2 A 3
  have h6 := tr_of2 A 4
  intro k hk
  have h : k = 0 ∨ k = 1 ∨ k = 2 ∨ k = 3 ∨ k = 4 ∨ k = 5 := by omega
  rcases h with rfl | rfl | rfl | rfl | rfl | rfl <;> simp [Sm, cN, cfN] at * <;> grind
theorem newt3 (A : Nat → Nat → Int) : ∀ k, k < 6 → tr 3 A (k + 1) + Sm k (fun i => cN 3 A (i + 1) * tr 3 A (k - i)) + ((k + 1 : Nat) : Int) * cN 3 A (k + 1) = 0 := by
  have h0 := tr_zero 3 A
  have h1 := nt3a A
  have h2 := nt3b A
  have h3 := tr_of3 A 0
  have h4 := tr_of3 A 1
  have h5 := tr_of3 A 2
  have h6 := tr_of3 A 3
  intro k hk
  have h : k = 0 ∨ k = 1 ∨ k = 2 ∨ k = 3 ∨ k = 4 ∨ k = 5 := by omega
  rcases h with rfl | rfl | rfl | rfl | rfl | rfl <;> simp [Sm, cN, cfN] at * <;> grind
theorem newt4 (A : Nat → Nat → Int) : ∀ k, k < 6 → tr 4 A (k + 1) + Sm k (fun i => cN 4 A (i + 1) * tr 4 A (k - i)) + ((k + 1 : Nat) : Int) * cN 4 A (k + 1) = 0 := by
  have h0 := tr_zero 4 A
  have h1 := nt4a A
  have h2 := nt4b A
  have h3 := nt4c A
  have h4 := tr_of4 A 0
  have h5 := tr_of4 A 1
  have h6 := tr_of4 A 2
  intro k hk
  have h : k = 0 ∨ k = 1 ∨ k = 2 ∨ k = 3 ∨ k = 4 ∨ k = 5 := by omega
  rcases h with rfl | rfl | rfl | rfl | rfl | rfl <;> simp [Sm, cN, cfN] at * <;> grind
end Go.Proofs.YtbjoblgklcilpaaGreatDoor

namespace Go.Proofs.YtbjoblgklcilpaaGreatDoor
open Go.RowKit
set_option linter.all false
theorem minTo_sum (t : List (List Int)) (n k : Nat) : ∀ m, Cg (minTo t n k m) (((setsTo n k m).map fun cs => det k (someT t cs cs)).sum)
  | 0 => Cg.refl _
  | m + 1 => by
    have ih := minTo_sum t n k m
    by_cases h : (setTo m n).length = k
    · rw [setsTo_yes h, minTo_yes h, List.map_append, List.sum_append]
      refine (Cg.wrap _).trans (ih.add (Cg.of_eq ?_))
      simp
    · rw [setsTo_no h, minTo_no h]
      exact ih
theorem sm_bnd {t : List (List Int)} (h : isSmallM t = true) : Bnd 100 t := by
  intro r hr x hx
  obtain ⟨i, hi, e⟩ := List.getElem_of_mem hr
  obtain ⟨j, hj, e2⟩ := List.getElem_of_mem hx
  have := isSmallM_get h ((List.getElem?_eq_getElem hi).trans (congrArg some e)) ((List.getElem?_eq_getElem hj).trans (congrArg some e2))
  omega
theorem det_some2 {t : List (List Int)} (h : Bnd 100 t) {k : Nat} (hk : k ≤ 4) {rs cs : List Int} (h1 : rs.length = k) (h2 : cs.length = k) : det k (someT t rs cs) = detI k (someT t rs cs) :=
  det_eqI (B := 100) (by omega) (by omega) k _ (by rw [someT_len, h1]) (by rw [← h2]; exact someT_rowsLen t rs cs) (h.pick (by omega) rs cs) (fun m hm => dmaxC m (by omega))
theorem sm0 {t : List (List Int)} : det 0 (someT t [] []) = 1 := rfl
theorem sm1 {t : List (List Int)} (h : Bnd 100 t) (r : Nat) : det 1 (someT t [(r : Int)] [(r : Int)]) = entA t r r := by
  rw [det_some2 (k := 1) h (by omega) rfl rfl]
  have e : someT t [(r : Int)] [(r : Int)] = [[entA t r r]] := by simp [someT, pickRow, entA]
  rw [e, detI1]
theorem sm2 {t : List (List Int)} (h : Bnd 100 t) (r s : Nat) : det 2 (someT t [(r : Int), (s : Int)] [(r : Int), (s : Int)]) = D2f (entA t) r s := by
  rw [det_some2 (k := 2) h (by omega) rfl rfl]
  have e : someT t [(r : Int), (s : Int)] [(r : Int), (s : Int)] = [[entA t r r, entA t r s], [entA t s r, entA t s s]] := by simp [someT, pickRow, entA]
  rw [e, detI2]
  rfl
theorem sm3 {t : List (List Int)} (h : Bnd 100 t) (r s u : Nat) : det 3 (someT t [(r : Int), (s : Int), (u : Int)] [(r : Int), (s : Int), (u : Int)]) = D3f (entA t) r s u := by
  rw [det_some2 (k := 3) h (by omega) rfl rfl]
  have e : someT t [(r : Int), (s : Int), (u : Int)] [(r : Int), (s : Int), (u : Int)] = [[entA t r r, entA t r s, entA t r u], [entA t s r, entA t s s, entA t s u], [entA t u r, entA t u s, entA t u u]] := by simp [someT, pickRow, entA]
  rw [e, detI3]
  rfl
theorem sm4 {t : List (List Int)} (h : Bnd 100 t) : det 4 (someT t [0, 1, 2, 3] [0, 1, 2, 3]) = D4f (entA t) := by
  rw [det_some2 (k := 4) h (by omega) rfl rfl]
  have e : someT t [0, 1, 2, 3] [0, 1, 2, 3] = [[entA t 0 0, entA t 0 1, entA t 0 2, entA t 0 3], [entA t 1 0, entA t 1 1, entA t 1 2, entA t 1 3], [entA t 2 0, entA t 2 1, entA t 2 2, entA t 2 3], [entA t 3 0, entA t 3 1, entA t 3 2, entA t 3 3]] := by simp [someT, pickRow, entA]
  rw [e, detI4, detI3, detI3, detI3, detI3]
  rfl
theorem cg_min {t : List (List Int)} {n k : Nat} {x : Int} (h : ((sets n k).map fun cs => det k (someT t cs cs)).sum = x) : Cg (pE t n k) (sg k * x) := by
  unfold pE
  refine (Cg.wrap _).trans ((Cg.refl _).mul ?_)
  rw [← h]
  exact minTo_sum t n k (2 ^ n)
theorem pE_cN {t : List (List Int)} (h : isSmallM t = true) {k : Nat} (hk : k ≤ t.length) : Cg (pE t t.length k) (cN t.length (entA t) k) := by
  obtain ⟨_, h4, h1⟩ := isSmallM_mat h
  have hb := sm_bnd h
  have a0 := fun r : Nat => sm1 hb r
  have a1 := fun r s : Nat => sm2 hb r s
  have a2 := fun r s u : Nat => sm3 hb r s u
  have a3 := sm4 hb
  generalize t.length = n at *
  have hn : n = 1 ∨ n = 2 ∨ n = 3 ∨ n = 4 := by omega
  have hk4 : k = 0 ∨ k = 1 ∨ k = 2 ∨ k = 3 ∨ k = 4 := by omega
  rcases hn with rfl | rfl | rfl | rfl <;> rcases hk4 with rfl | rfl | rfl | rfl | rfl <;> first | omega | skip
  all_goals refine (cg_min rfl).trans (Cg.of_eq ?_)
  · rw [show sets 1 0 = [[]] by decide]; simp [sm0, sg, cN, cfN]
  · rw [show sets 1 1 = [[((0 : Nat) : Int)]] by decide]; simp only [List.map, a0, sg, cN, cfN]; simp; try omega
  · rw [show sets 2 0 = [[]] by decide]; simp [sm0, sg, cN, cfN]
  · rw [show sets 2 1 = [[((0 : Nat) : Int)], [((1 : Nat) : Int)]] by decide]; simp only [List.map, a0, sg, cN, cfN]; simp; try omega
  · rw [show sets 2 2 = [[((0 : Nat) : Int), ((1 : Nat) : Int)]] by decide]; simp only [List.map, a1, sg, cN, cfN]; simp; try omega
  · rw [show sets 3 0 = [[]] by decide]; simp [sm0, sg, cN, cfN]
  · rw [show sets 3 1 = [[((0 : Nat) : Int)], [((1 : Nat) : Int)], [((2 : Nat) : Int)]] by decide]; simp only [List.map, a0, sg, cN, cfN]; simp; try omega
  · rw [show sets 3 2 = [[((0 : Nat) : Int), ((1 : Nat) : Int)], [((0 : Nat) : Int), ((2 : Nat) : Int)], [((1 : Nat) : Int), ((2 : Nat) : Int)]] by decide]; simp only [List.map, a1, sg, cN, cfN]; simp; try omega
  · rw [show sets 3 3 = [[((0 : Nat) : Int), ((1 : Nat) : Int), ((2 : Nat) : Int)]] by decide]; simp only [List.map, a2, sg, cN, cfN]; simp; try omega
  · rw [show sets 4 0 = [[]] by decide]; simp [sm0, sg, cN, cfN]
  · rw [show sets 4 1 = [[((0 : Nat) : Int)], [((1 : Nat) : Int)], [((2 : Nat) : Int)], [((3 : Nat) : Int)]] by decide]; simp only [List.map, a0, sg, cN, cfN]; simp; try omega
  · rw [show sets 4 2 = [[((0 : Nat) : Int), ((1 : Nat) : Int)], [((0 : Nat) : Int), ((2 : Nat) : Int)], [((1 : Nat) : Int), ((2 : Nat) : Int)], [((0 : Nat) : Int), ((3 : Nat) : Int)], [((1 : Nat) : Int), ((3 : Nat) : Int)], [((2 : Nat) : Int), ((3 : Nat) : Int)]] by decide]; simp only [List.map, a1, sg, cN, cfN]; simp; try omega
  · rw [show sets 4 3 = [[((0 : Nat) : Int), ((1 : Nat) : Int), ((2 : Nat) : Int)], [((0 : Nat) : Int), ((1 : Nat) : Int), ((3 : Nat) : Int)], [((0 : Nat) : Int), ((2 : Nat) : Int), ((3 : Nat) : Int)], [((1 : Nat) : Int), ((2 : Nat) : Int), ((3 : Nat) : Int)]] by decide +kernel]; simp only [List.map, a2, sg, cN, cfN]; simp; try omega
  · rw [show sets 4 4 = [[0, 1, 2, 3]] by decide +kernel]; simp only [List.map, a3, sg, cN, cfN]; simp
end Go.Proofs.YtbjoblgklcilpaaGreatDoor

namespace Go.Proofs.YtbjoblgklcilpaaGreatDoor
open Go.RowKit
set_option linter.all false
theorem getD_over {p : List Int} {i : Nat} (h : p.length ≤ i) : p.getD i 0 = 0 := by simp [List.getD, List.getElem?_eq_none h]
theorem cut_getD (p : List Int) : ∀ n i, p.length ≤ n → (p.take (cutN p n)).getD i 0 = p.getD i 0 := by
  have key : ∀ n i, cutN p n ≤ i → i < n → p.getD i 0 = 0 := by
    intro n
    induction n with
    | zero => intro i _ h; omega
    | succ n ih =>
      intro i h1 h2
      rw [cutN] at h1
      split at h1
      · rename_i h0
        by_cases e : i = n
        · rw [e]; exact h0
        · exact ih i h1 (by omega)
      · omega
  intro n i hn
  by_cases hi : i < cutN p n
  · simp [List.getD, List.getElem?_take_of_lt hi]
  · rw [getD_over (p := p.take (cutN p n)) (by rw [List.length_take]; omega)]
    by_cases h2 : i < n
    · exact (key n i (by omega) h2).symm
    · exact (getD_over (by omega)).symm
theorem cfN_len {n : Nat} (h1 : 1 ≤ n) (h4 : n ≤ 4) (A : Nat → Nat → Int) : (cfN n A).length = n + 1 := by
  have hn : n = 1 ∨ n = 2 ∨ n = 3 ∨ n = 4 := by omega
  rcases hn with rfl | rfl | rfl | rfl <;> rfl
theorem turned_cg {m : List (List Int)} (h : isSmallM m = true) (i : Nat) : Cg ((turnedP m).getD i 0) (cN m.length (entA m) i) := by
  obtain ⟨_, h4, h1⟩ := isSmallM_mat h
  unfold turnedP
  rw [if_pos h, cutZ, cut_getD _ _ _ (Nat.le_refl _)]
  by_cases hi : i ≤ m.length
  · rw [getD_get (polyL_get (by omega))]
    exact pE_cN h hi
  · rw [getD_over (by rw [polyL_len]; omega)]
    unfold cN
    rw [getD_over (by rw [cfN_len h1 h4]; omega)]
    exact Cg.refl _
end Go.Proofs.YtbjoblgklcilpaaGreatDoor

namespace Go.Proofs.YtbjoblgklcilpaaGreatDoor
open Go.RowKit
set_option linter.all false
def flowLike (a b : List (List Int)) : Bool := isSmallM a && (isSmallM b && (eqL (groupV a) (groupV b) && (signOf a == signOf b)))
end Go.Proofs.YtbjoblgklcilpaaGreatDoor

namespace Go.Proofs.YtbjoblgklcilpaaGreatDoor
open Go.RowKit
set_option linter.all false
def txtPoly : ByteArray := ⟨#[112, 111, 108, 121]⟩
def txtGroup : ByteArray := ⟨#[103, 114, 111, 117, 112]⟩
def txtSign : ByteArray := ⟨#[115, 105, 103, 110]⟩
def txtNone : ByteArray := ⟨#[110, 111, 110, 101]⟩
def differs (a b : List (List Int)) : ByteArray :=
  if isSmallM a = false then ⟨#[]⟩ else if isSmallM b = false then ⟨#[]⟩ else if sameZ a b = false then txtPoly else if eqL (groupV a) (groupV b) = false then txtGroup else if signOf a = signOf b then txtNone else txtSign
theorem ret_str {a b : ByteArray} (h : a = b) : Ending.returned (.string a) = .returned (.string b) := by rw [h]
end Go.Proofs.YtbjoblgklcilpaaGreatDoor

namespace Go.Proofs.YtbjoblgklcilpaaGreatDoor
open Go.RowKit
set_option linter.all false
theorem less_small {m m' : List (List Int)} (hs : isSmallM m = true) (hs' : isSmallM m' = true) (hl : m'.length = m.length + 1) {B : Nat → Nat → Int} (he : ∀ k j, k < m.length + 1 → j < m.length + 1 → el m' k j = B k j) :
    ∀ k j, k < m.length + 1 → j < m.length + 1 → el (lessT 1 1 m') k j = (if k = j then 1 else 0) - B k j := fun k j hk hj => by
  rw [less_el hs' (by omega) (by omega), he k j hk hj]
theorem strOk_get {m : List (List Int)} {i : Int} (h : strOk m i = true) : isMat m = true ∧ i.toNat < m.length ∧ 0 ≤ i := by
  simp only [strOk, Bool.and_eq_true] at h
  have := inR_true h.2.2
  exact ⟨h.1, by omega, by omega⟩
theorem strV_len {m : List (List Int)} {i : Int} (h : strOk m i = true) : (strV m i).length = m.length + 1 := by
  unfold strV
  rw [if_pos h, List.length_append, strT_len]
  rfl
theorem str_law {m : List (List Int)} {i : Int} (h : strOk m i = true) (hs : isSmallM m = true) (hs' : isSmallM (strV m i) = true) : flowLike m (strV m i) = true := by
  obtain ⟨hm, hi, _⟩ := strOk_get h
  have hr : ∀ (k : Nat) (r : List Int), m[k]? = some r → r.length = m.length := fun k r hk => (isMat_row hm hk).1
  obtain ⟨h1, h2⟩ := group_str hs hs' (strV_len h) hi (fun k j hk hj => by
    rw [less_small hs hs' (strV_len h) (str_el h hi hr) k j hk hj]
    unfold strX
    by_cases e1 : k = m.length
    · rw [if_pos e1, if_pos e1]
      by_cases e2 : j = m.length
      · rw [if_pos e2, if_neg (by omega : ¬ j = i.toNat), if_pos (by omega)]; rfl
      · rw [if_neg e2, if_neg (by omega : ¬ k = j)]
        split <;> rfl
    · rw [if_neg e1, if_neg e1]
      by_cases e2 : j = m.length
      · rw [if_pos e2, if_pos e2, if_neg (by omega : ¬ k = j), less_el hs (by omega) hi]
        split
        · omega
        · omega
      · rw [if_neg e2, if_neg e2]
        by_cases e3 : j = i.toNat
        · rw [if_pos e3, if_pos e3]
          by_cases e4 : k = i.toNat
          · rw [if_pos e4, if_pos (by omega)]; rfl
          · rw [if_neg e4, if_neg (by omega)]; rfl
        · rw [if_neg e3, if_neg e3, less_el hs (by omega) (by omega)])
  unfold flowLike
  rw [hs, hs', h1, h2, eqL_self]
  simp
theorem spl_group {m : List (List Int)} {i : Int} {p : List Int} (h : splOk m i p = true) (hs : isSmallM m = true) (hs' : isSmallM (splV m i p) = true) : groupV (splV m i p) = groupV m ∧ signOf (splV m i p) = signOf m := by
  have hf := splOk_facts h
  have hi := hf.il
  have hl : (splV m i p).length = m.length + 1 := by rw [splV_yes h, spT_len]
  refine group_spl hs hs' hl hi (fun l => p.getD l 0 - el m i.toNat l) (fun k j hk hj => ?_)
  rw [less_small hs hs' hl (spl_el h) k j hk hj]
  unfold splX
  by_cases e1 : k = m.length
  · rw [if_pos e1, if_pos e1]
    by_cases e2 : j = m.length
    · rw [if_pos e2, if_pos e2, if_pos (by omega)]; dsimp only; omega
    · rw [if_neg e2, if_neg e2, if_neg (by omega)]; dsimp only; omega
  · rw [if_neg e1, if_neg e1]
    by_cases e3 : k = i.toNat
    · rw [if_pos e3, if_pos e3]
      by_cases e2 : j = m.length
      · rw [if_pos e2, if_pos e2, if_neg (by omega), less_el hs hi hi, if_pos rfl]; dsimp only; omega
      · rw [if_neg e2, if_neg e2, less_el hs hi (by omega), e3]; dsimp only; omega
    · rw [if_neg e3, if_neg e3]
      by_cases e2 : j = m.length
      · rw [if_pos e2, if_pos e2, if_neg (by omega), less_el hs (by omega) hi, if_neg e3]
      · rw [if_neg e2, if_neg e2, less_el hs (by omega) (by omega)]
/-- The polynomial of a split matrix. -/
def cutA (n : Nat) (A : Nat → Nat → Int) : Nat → Nat → Int := fun i j => if i < n then (if j < n then A i j else 0) else 0
theorem cN_cut {n : Nat} (hn : n ≤ 4) (A : Nat → Nat → Int) (i : Nat) : cN n A i = cN n (cutA n A) i := by
  have hc : n = 0 ∨ n = 1 ∨ n = 2 ∨ n = 3 ∨ n = 4 := by omega
  rcases hc with rfl | rfl | rfl | rfl | rfl <;> rfl
theorem cN_same {n : Nat} (hn : n ≤ 4) {A B : Nat → Nat → Int} (h : ∀ i j, i < n → j < n → A i j = B i j) (i : Nat) : cN n A i = cN n B i := by
  rw [cN_cut hn A, cN_cut hn B]
  congr 1
  funext k l
  unfold cutA
  split
  · split
    · exact h k l (by assumption) (by assumption)
    · rfl
  · rfl
def spBx (B : Nat → Nat → Int) (n j0 : Nat) (p : Nat → Int) : Nat → Nat → Int := fun k l =>
  if k = n then (if l = n then B j0 j0 - p j0 else B j0 l - p l) else if k = j0 then (if l = n then p j0 else p l) else if l = n then B k j0 else B k l
theorem spBx_cN (B : Nat → Nat → Int) {n j0 : Nat} (hi : j0 < n) (hn : n ≤ 3) (p : Nat → Int) (i : Nat) : cN (n + 1) (spBx B n j0 p) i = cN n B i := by
  have hc : (n = 1 ∧ j0 = 0) ∨ (n = 2 ∧ j0 = 0) ∨ (n = 2 ∧ j0 = 1) ∨ (n = 3 ∧ j0 = 0) ∨ (n = 3 ∧ j0 = 1) ∨ (n = 3 ∧ j0 = 2) := by omega
  have hi5 : i = 0 ∨ i = 1 ∨ i = 2 ∨ i = 3 ∨ i = 4 ∨ ∃ q, i = q + 5 := by
    by_cases h : i < 5
    · omega
    · exact .inr (.inr (.inr (.inr (.inr ⟨i - 5, by omega⟩))))
  rcases hc with ⟨rfl, rfl⟩ | ⟨rfl, rfl⟩ | ⟨rfl, rfl⟩ | ⟨rfl, rfl⟩ | ⟨rfl, rfl⟩ | ⟨rfl, rfl⟩ <;> rcases hi5 with rfl | rfl | rfl | rfl | rfl | ⟨q, rfl⟩ <;> simp [cN, cfN, D2f, D3f, D4f, D3g, spBx] <;> grind
/-- Two lists without a zero at their end. -/
def trimL (l : List Int) : Prop := ∀ k, l.length = k + 1 → l.getD k 0 ≠ 0
theorem trim_eq {a b : List Int} (ha : trimL a) (hb : trimL b) (h : ∀ i, a.getD i 0 = b.getD i 0) : a = b := by
  have hl : a.length = b.length := by
    by_cases h1 : a.length < b.length
    · exact absurd (by rw [← h, getD_over (by omega)]) (hb (b.length - 1) (by omega))
    · by_cases h2 : b.length < a.length
      · exact absurd (by rw [h, getD_over (by omega)]) (ha (a.length - 1) (by omega))
      · omega
  apply List.ext_getElem?
  intro i
  by_cases hi : i < a.length
  · have := h i
    rw [getD_get (List.getElem?_eq_getElem hi), getD_get (List.getElem?_eq_getElem (show i < b.length by omega))] at this
    rw [List.getElem?_eq_getElem hi, List.getElem?_eq_getElem (show i < b.length by omega), this]
  · rw [List.getElem?_eq_none (by omega), List.getElem?_eq_none (by omega)]
theorem cutN_last {p : List Int} : ∀ {n k : Nat}, cutN p n = k + 1 → p.getD k 0 ≠ 0
  | 0, k, h => by simp [cutN] at h
  | n + 1, k, h => by
    rw [cutN] at h
    split at h
    · exact cutN_last h
    · rename_i h0
      rw [show k = n by omega]
      exact h0
theorem cutZ_trim (p : List Int) : trimL (cutZ p) := by
  intro k hk
  unfold cutZ at hk ⊢
  rw [cut_getD _ _ _ (Nat.le_refl _)]
  rw [List.length_take, Nat.min_eq_left (cutN_le p p.length)] at hk
  exact cutN_last hk
theorem turned_canon {m : List (List Int)} (h : isSmallM m = true) (i : Nat) : wrap64 ((turnedP m).getD i 0) = (turnedP m).getD i 0 := by
  unfold turnedP
  rw [if_pos h, cutZ, cut_getD _ _ _ (Nat.le_refl _)]
  by_cases hi : i ≤ m.length
  · rw [getD_get (polyL_get (by omega))]
    unfold pE
    generalize sg i * minTo m m.length i (2 ^ m.length) = u
    unfold wrap64
    omega
  · rw [getD_over (by rw [polyL_len]; omega)]
    exact wrap_id (by omega)
theorem turned_eq {a b : List (List Int)} (ha : isSmallM a = true) (hb : isSmallM b = true) (h : ∀ i, cN a.length (entA a) i = cN b.length (entA b) i) : turnedP a = turnedP b := by
  refine trim_eq ?_ ?_ fun i => ?_
  · unfold turnedP; rw [if_pos ha]; exact cutZ_trim _
  · unfold turnedP; rw [if_pos hb]; exact cutZ_trim _
  · refine Cg.same ((turned_cg ha i).trans ?_) (turned_canon ha i) (turned_canon hb i)
    rw [h i]
    exact (turned_cg hb i).symm
theorem spl_sameZ {m : List (List Int)} {i : Int} {p : List Int} (h : splOk m i p = true) (hs : isSmallM m = true) (hs' : isSmallM (splV m i p) = true) : sameZ m (splV m i p) = true := by
  have hf := splOk_facts h
  have hl : (splV m i p).length = m.length + 1 := by rw [splV_yes h, spT_len]
  have h4 := isSmallM_mat hs'
  have e : turnedP m = turnedP (splV m i p) := turned_eq hs hs' fun k => by
    rw [hl, cN_same (A := entA (splV m i p)) (by omega) (B := spBx (entA m) m.length i.toNat (fun l => p.getD l 0)) (fun a b ha hb => spl_el h a b ha hb), spBx_cN _ hf.il (by omega)]
  unfold sameZ
  rw [hs, hs', e, eqL_self]
  rfl
theorem spl_law {m : List (List Int)} {i : Int} {p : List Int} (h : splOk m i p = true) (hs : isSmallM m = true) (hs' : isSmallM (splV m i p) = true) : differs m (splV m i p) = txtNone := by
  obtain ⟨h1, h2⟩ := spl_group h hs hs'
  unfold differs
  rw [hs, hs', spl_sameZ h hs hs', h1, h2, eqL_self]
  simp
theorem self_law {m : List (List Int)} (hs : isSmallM m = true) : differs m m = txtNone := by
  have e : sameZ m m = true := by unfold sameZ; rw [hs, eqL_self]; rfl
  unfold differs
  rw [hs, e, eqL_self]
  simp
/-- The sign and the numbers. -/
theorem diag_zeroes {t : List (List Int)} (hs : smith t = true) : (0 : Int) ∈ diagN t ↔ minorsI t t.length = 0 := by
  have hl := smith_len hs
  constructor
  · intro h
    obtain ⟨j, hj⟩ := List.getElem?_of_mem h
    have hjl : j < t.length := by have := (List.getElem?_eq_some_iff.1 hj).1; rw [diagN_len] at this; exact this
    rw [diag_get hl.2 hjl] at hj
    injection hj with hj
    have h0 := (dgn_zero (smith_bnd hs) hl.2 hjl).1 hj
    have mono : ∀ q, j + 1 + q ≤ t.length → minorsI t (j + 1 + q) = 0 := by
      intro q
      induction q with
      | zero => intro _; exact h0
      | succ q ih => intro hq; exact minors_mono (k := j + 1 + q) hl.2 (by omega) (ih (by omega))
    have := mono (t.length - (j + 1)) (by omega)
    rw [show j + 1 + (t.length - (j + 1)) = t.length by omega] at this
    exact this
  · intro h
    have hjl : t.length - 1 < t.length := by omega
    have h1 := diag_get hl.2 hjl
    have h0 : dgAt t (t.length - 1) = 0 := (dgn_zero (smith_bnd hs) hl.2 hjl).2 (by rw [show t.length - 1 + 1 = t.length by omega]; exact h)
    rw [h0] at h1
    exact List.mem_of_getElem? h1
theorem sgn_zero (x : Int) : sgn x = 0 ↔ x = 0 := by
  unfold sgn
  split
  · omega
  · split <;> omega
theorem sign_zero {m : List (List Int)} (hs : isSmallM m = true) : (signOf m == 0) = decide ((0 : Int) ∈ groupV m) := by
  have hl := isSmallM_mat hs
  have hsm := less_smith hs
  have hd := minors_det (t := lessT 1 1 m) (n := m.length) (lessT_len 1 1 m) (smith_rowsLen hsm (lessT_len 1 1 m)) hl.2.2 hl.2.1
  have hz := diag_zeroes hsm
  rw [lessT_len, hd] at hz
  have e1 : (0 : Int) ∈ groupV m ↔ (0 : Int) ∈ diagN (lessT 1 1 m) := by
    unfold groupV
    rw [if_pos hs, List.mem_filter]
    exact ⟨fun h => h.1, fun h => ⟨h, rfl⟩⟩
  have e2 : signOf m = 0 ↔ det m.length (lessT 1 1 m) = 0 := by
    unfold signOf
    rw [if_pos hs]
    exact sgn_zero _
  by_cases h : signOf m = 0
  · rw [h, decide_eq_true (e1.2 (hz.2 (by rw [e2.1 h]; rfl)))]
    rfl
  · rw [beq_eq_false_iff_ne.2 h, decide_eq_false (fun e => h (e2.2 (by have := hz.1 (e1.1 e); omega)))]
theorem sign_range {m : List (List Int)} (h : -1 ≤ signOf m) : isSmallM m = true := by
  cases hs : isSmallM m
  · unfold signOf at h
    simp [hs] at h
  · rfl
/-- The turned matrix. -/
theorem turn_small {m : List (List Int)} (hs : isSmallM m = true) : turnM m = turnT m ∧ isSmallM (turnT m) = true ∧ ∀ i j, i < m.length → j < m.length → el (turnT m) i j = el m j i := by
  have hm := isSmallM_mat hs
  have hr : ∀ (k : Nat) (r : List Int), m[k]? = some r → r.length = m.length := fun k r hk => (isMat_row hm.1 hk).1
  have hel : ∀ i j, i < m.length → j < m.length → el (turnT m) i j = el m j i := by
    intro i j hi hj
    rw [el_get (turnT_get hi), el_get (List.getElem?_eq_getElem hj)]
    simp [List.getD, hj]
  refine ⟨by unfold turnM; rw [if_pos hm.1], ?_, hel⟩
  have hent : ∀ r ∈ turnT m, ∀ x ∈ r, 0 ≤ x ∧ x ≤ 9 := by
    intro r hr2 x hx
    obtain ⟨i, hi⟩ := List.getElem?_of_mem hr2
    have hil : i < m.length := by have := (List.getElem?_eq_some_iff.1 hi).1; rw [turnT_len] at this; exact this
    rw [turnT_get hil] at hi
    injection hi with hi
    subst hi
    obtain ⟨q, hq, rfl⟩ := List.mem_map.1 hx
    obtain ⟨k, hk⟩ := List.getElem?_of_mem hq
    have h1 : q[i]? = some (q[i]'(by rw [hr k q hk]; exact hil)) := List.getElem?_eq_getElem _
    have := isSmallM_get hs hk h1
    simpa [List.getD, h1] using this
  have hmat : isMat (turnT m) = true := by
    have h1 := hm.1
    unfold isMat at h1 ⊢
    rw [Bool.and_eq_true] at h1 ⊢
    refine ⟨?_, by rw [turnT_len]; exact h1.2⟩
    unfold tabIn
    rw [List.all_eq_true]
    intro r hr2
    obtain ⟨i, hi⟩ := List.getElem?_of_mem hr2
    have hrl := turnT_rows m i r hi
    rw [Bool.and_eq_true, decide_eq_true_eq, turnT_len]
    refine ⟨hrl, ?_⟩
    unfold allIn
    rw [List.all_eq_true]
    intro x hx
    have := hent r hr2 x hx
    exact inR_mk ⟨by omega, by omega⟩
  unfold isSmallM
  rw [Bool.and_eq_true, Bool.and_eq_true]
  refine ⟨hmat, by rw [turnT_len]; simp; omega, ?_⟩
  unfold le9T le9
  rw [List.all_eq_true]
  intro r hr2
  rw [List.all_eq_true]
  intro x hx
  have := hent r hr2 x hx
  simp
  omega
theorem turn_law {m : List (List Int)} (hs : isSmallM m = true) : groupV (turnM m) = groupV m := by
  obtain ⟨h1, h2, h3⟩ := turn_small hs
  rw [h1]
  have e : lessT 1 1 (turnT m) = trn (lessT 1 1 m) := by
    have hr1 := smith_rowsLen (less_smith h2) (show (lessT 1 1 (turnT m)).length = m.length by rw [lessT_len, turnT_len])
    have hr2 := smith_rowsLen (trn_smith (less_smith hs)) (show (trn (lessT 1 1 m)).length = m.length by rw [trn_len, lessT_len])
    apply List.ext_getElem?
    intro i
    by_cases hi : i < m.length
    · have g1 : (lessT 1 1 (turnT m))[i]? = some ((lessT 1 1 (turnT m))[i]'(by rw [lessT_len, turnT_len]; exact hi)) := List.getElem?_eq_getElem _
      have g2 : (trn (lessT 1 1 m))[i]? = some ((trn (lessT 1 1 m))[i]'(by rw [trn_len, lessT_len]; exact hi)) := List.getElem?_eq_getElem _
      rw [g1, g2]
      congr 1
      have l1 := hr1 i _ g1
      have l2 := hr2 i _ g2
      apply List.ext_getElem?
      intro j
      by_cases hj : j < m.length
      · have k1 : el (lessT 1 1 (turnT m)) i j = el (trn (lessT 1 1 m)) i j := by
          rw [less_el h2 (by rw [turnT_len]; exact hi) (by rw [turnT_len]; exact hj), h3 i j hi hj, trn_el (by rw [lessT_len]; exact hi) (by rw [lessT_len]; exact hj), less_el hs hj hi]
          by_cases q : i = j
          · rw [if_pos q, if_pos q.symm]
          · rw [if_neg q, if_neg (fun e => q e.symm)]
        rw [el_get g1, el_get g2] at k1
        rw [List.getElem?_eq_getElem (show j < _ by omega), List.getElem?_eq_getElem (show j < _ by omega)]
        rw [getD_get (List.getElem?_eq_getElem (show j < _ by omega)), getD_get (List.getElem?_eq_getElem (show j < _ by omega))] at k1
        rw [k1]
      · rw [List.getElem?_eq_none (by omega), List.getElem?_eq_none (by omega)]
    · rw [List.getElem?_eq_none (by rw [lessT_len, turnT_len]; omega), List.getElem?_eq_none (by rw [trn_len, lessT_len]; omega)]
  have hd := trn_diag (less_smith hs)
  unfold groupV
  rw [if_pos hs, if_pos h2, e]
  unfold diagV at hd
  rw [if_pos (trn_smith (less_smith hs)), if_pos (less_smith hs)] at hd
  rw [hd]
end Go.Proofs.YtbjoblgklcilpaaGreatDoor

namespace Go.Proofs.YtbjoblgklcilpaaGreatDoor
open Go.RowKit
set_option linter.all false
set_option maxHeartbeats 1600000 in
theorem iIsSmall_any (ao : Option Addr) (n cap : Nat) (xss : List (List Int)) (w : World) (h : Intss w ao n xss) :
    Calls Tryz.prog 31 #[.slice ao n cap] w fun e w' => e = .returned (.bool (isSmallM xss)) ∧ w = w' := by
  have hm := h.2.1
  have HL := Lib.hid h.1
  have H := Lib.hid h
  have hg0 : Hid (isSmallM xss = (isMat xss && (!decide (4 < n) && le9T xss))) := by show isSmallM xss = _; unfold isSmallM; rw [h.1]
  clear h
  cases hmat : isMat xss
  · have hg : Hid (isSmallM xss = false) := by show isSmallM xss = _; rw [hg0.out, hmat]; rfl
    go_enter Tryz.func31, Tryz.ntmps31
    go_wp2_with (first | (go_at_call 40; refine (iIsMatrix_any _ _ _ xss _ H.out).mono ?_; rintro e w' ⟨rfl, rfl⟩))
    go_ret
    exact ⟨ret_bool hg.out.symm, rfl⟩
  by_cases h4 : 4 < n
  · have hg : Hid (isSmallM xss = false) := by show isSmallM xss = _; rw [hg0.out]; simp [h4]
    go_enter Tryz.func31, Tryz.ntmps31
    go_wp2_with (first | (go_at_call 40; refine (iIsMatrix_any _ _ _ xss _ H.out).mono ?_; rintro e w' ⟨rfl, rfl⟩))
    go_ret
    exact ⟨ret_bool hg.out.symm, rfl⟩
  · have hg : Hid (isSmallM xss = le9T xss) := by show isSmallM xss = _; rw [hg0.out, hmat]; simp [h4]
    go_enter Tryz.func31, Tryz.ntmps31
    go_wp2_with (first | (go_at_call 40; refine (iIsMatrix_any _ _ _ xss _ H.out).mono ?_; rintro e w' ⟨rfl, rfl⟩))
    clear hmat
    go_loop [17] (fun i => ∃ k : Nat, k ≤ n ∧ i = .int .i64 k ∧ Hid (le9T (xss.drop k) = le9T xss)) (fun i => n - (intOf i).toNat)
    case atStart => exact ⟨0, Nat.zero_le _, rfl, rfl⟩
    case round =>
      obtain ⟨k, hk, rfl, hr⟩ := hrel
      by_cases hlt : k < n
      · obtain ⟨b, o, ai, ci, r, rfl, hcell, hrow, hget⟩ := H.out.at_ hlt
        have hrb := hrow.2.1
        have Hst := Lib.hid (le9T_step hget.out hr.out)
        have Hrow := Lib.hid hrow
        clear hrow hr H
        go_wp2_with fail
        go_loop [23] (fun i => ∃ j : Nat, j ≤ r.length ∧ i = .int .i64 j ∧ Hid (le9 (r.drop j) = le9 r)) (fun i => r.length - (intOf i).toNat)
        case atStart => exact ⟨0, Nat.zero_le _, rfl, rfl⟩
        case round =>
          obtain ⟨j, hj, rfl, hrj⟩ := hrel
          by_cases hjn : j < r.length
          · obtain ⟨b', o', x, rfl, hcell', hget'⟩ := Hrow.out.at_ hjn
            have Hsj := Lib.hid (le9_step hget'.out hrj.out)
            clear hrj Hrow
            by_cases h9 : 9 < x
            · have hr1 : Hid _ := Hst.out.1 (Hsj.out.1 h9)
              clear Hst Hsj
              go_wp2_with fail
              go_ret
              exact ⟨ret_bool (by rw [hg.out, hr1.out]), rfl⟩
            · have hr1 : Hid _ := Hsj.out.2 h9
              clear Hst Hsj
              go_wp2_with fail
              go_round
              case rel => exact ⟨j + 1, hjn, by go_num, hr1⟩
              case measure => simp [intOf]; omega
          · have hr1 : Hid _ := Hst.out.2 (by have := hrj.out; rw [drop_all r j (by omega)] at this; exact this.symm)
            clear Hst hrj Hrow
            go_wp2_with fail
            go_round
            case rel => exact ⟨k + 1, hlt, by go_num, hr1⟩
            case measure => simp [intOf]; omega
      · rw [drop_all xss k (by have := HL.out; omega)] at hr
        have hr1 : Hid _ := hr.out.symm
        clear hr H
        go_wp2_with fail
        go_ret
        exact ⟨ret_bool (by rw [hg.out, hr1.out]; rfl), rfl⟩
end Go.Proofs.YtbjoblgklcilpaaGreatDoor

namespace Go.Proofs.YtbjoblgklcilpaaGreatDoor
open Go.RowKit
set_option linter.all false
set_option maxHeartbeats 3200000 in
theorem iLess_any (p : Option Addr) (n c : Nat) (t : List (List Int)) (q d : Int) (w : World) (h : Intss w p n t) (hr : RowsLen t n) (hn : n ≤ 1048576) (hq1 : -1000000 ≤ q) (hq2 : q ≤ 1000000) (hd1 : -1000000 ≤ d) (hd2 : d ≤ 1000000) :
    Calls Tryz.prog 34 #[.slice p n c, .int .i64 q, .int .i64 d] w fun e w' => ∃ v, e = .returned v ∧ OIntss w' w.heap.size v n (lessT q d t) ∧ Below w.heap.size w w' := by
  have H := Lib.hid h
  have HR := Lib.hid hr
  have HL : Hid (t.length = n) := h.1
  clear h hr
  go_enter Tryz.func34, Tryz.ntmps34
  go_wp2_with fail
  refine (iZeros_any n _ hn).mono ?_
  rintro e w1 ⟨v, rfl, hown, hbl⟩
  obtain ⟨ao, cap, rfl, _⟩ := hown.form
  go_wp2_with fail
  go_loopw [17] (fun i wr => ∃ k : Nat, k ≤ n ∧ i = .int .i64 k ∧ OIntss wr w.heap.size (.slice ao n cap) n ((lessT q d t).take k ++ List.replicate (n - k) (List.replicate n 0)) ∧ Below w.heap.size w wr) (fun i _ => n - (intOf i).toNat)
  case atStart => exact ⟨0, Nat.zero_le _, rfl, by rw [fill_start]; exact hown, hbl⟩
  case round =>
    obtain ⟨i, hi, rfl, hown, hbl⟩ := hrel
    obtain ⟨wo, rfl⟩ : ∃ wo : World, wo = wr := ⟨_, rfl⟩
    by_cases hlt : i < n
    · obtain ⟨b1, o1, a1, c1, r, rfl, hca, hrow, hget⟩ := H.out.at_ hlt
      have HRL : Hid (r.length = n) := HR.out _ _ hget.out
      have hrl1 : r.length ≤ n := by have := HRL.out; omega
      have hrl2 : n ≤ r.length := by have := HRL.out; omega
      have HMG := Lib.hid (lessT_get (q := q) (d := d) hget.out)
      rw [fill_open hlt] at hown
      have HAl : Hid (((lessT q d t).take i).length = i) := take_len (by rw [lessT_len]; have := HL.out; omega)
      obtain ⟨g, cap', e⟩ := hown.head (by omega)
      injection e with e1 e2 e3
      subst e1
      clear e2 e3 cap'
      have h1 := (hbl.cell (World.block_lt_of_cell? w _ hca)).trans hca
      have Hrow := Lib.hid hrow
      have Hown := Lib.hid hown
      have Hbl := Lib.hid hbl
      clear hown hbl hrow hca
      go_wp2_with fail
      clear h1
      go_loopw [24] (fun i' wx => ∃ j : Nat, j ≤ r.length ∧ i' = .int .i64 j ∧ OIntss wx w.heap.size (.slice (some ⟨g, 0, none⟩) n cap) n ((lessT q d t).take i ++ ((negRow d r).take j ++ List.replicate (n - j) 0) :: List.replicate (n - (i + 1)) (List.replicate n 0)) ∧ Below w.heap.size w wx) (fun i _ => r.length - (intOf i).toNat)
      case atStart => exact ⟨0, Nat.zero_le _, rfl, by rw [fill_start]; exact Hown.out, Hbl.out⟩
      case round =>
        obtain ⟨j, hj, rfl, hown, hbl⟩ := hrel
        clear Hown Hbl
        by_cases hjn : j < r.length
        · obtain ⟨b3, o3, x, rfl, hcx, hgetx⟩ := Hrow.out.at_ hjn
          have hjn' : j < n := by omega
          rw [fill_open hjn'] at hown
          have HBl : Hid (((negRow d r).take j).length = j) := take_len (by rw [negRow_len]; omega)
          have HG := Lib.hid (negRow_get (d := d) hgetx.out)
          have h3 := (hbl.cell (World.block_lt_of_cell? w _ hcx)).trans hcx
          obtain ⟨gk, ck, h5, ho, hne, hlo⟩ := hown.rowAt (at_mid HAl.out) (by simp; omega)
          have hset := hown.setIn (at_mid HAl.out) h5 ho j (wrap64 (-d * x))
          rw [set_mid HAl.out, set_mid HBl.out, fill_shut HG.out] at hset
          have hlen : ((negRow d r).take j ++ 0 :: List.replicate (n - (j + 1)) 0).length = n := by
            rw [List.length_append, HBl.out]; simp; omega
          rw [hlen] at h5 ho
          have h6 := ho.cell j hjn'
          have h7 := ho.frozen j
          have hb' := hbl.setCell (p := ⟨gk, j, none⟩) hlo (.int .i64 (wrap64 (-d * x)))
          have Hset := Lib.hid hset
          have Hb' := Lib.hid hb'
          clear hset hb' ho hown hbl hlen hcx
          go_wp2_with fail
          go_roundw
          case rel => exact ⟨j + 1, hjn, by go_num, Hset.out, Hb'.out⟩
          case measure => simp [intOf]; omega
        · have hjn' : j = n := by omega
          subst hjn'
          rw [fill_end (by rw [negRow_len]; exact HRL.out)] at hown
          have hxi : (negRow d r)[i]? = some ((negRow d r).getD i 0) := by
            have hl : i < (negRow d r).length := by rw [negRow_len]; omega
            simp [List.getD, hl]
          have HX := Lib.hid hxi
          obtain ⟨gk, ck, h5, ho, hne, hlo⟩ := hown.rowAt (at_mid HAl.out) (by rw [negRow_len]; omega)
          have hset := hown.setIn (at_mid HAl.out) h5 ho i (wrap64 ((negRow d r).getD i 0 + q))
          rw [set_mid HAl.out] at hset
          have hset' := (congrArg (OIntss _ w.heap.size _ j) (fill_shut HMG.out)) ▸ hset
          rw [negRow_len, HRL.out] at h5 ho
          have h6 := ho.cell i (by omega)
          have h7 := ho.frozen i
          have hb' := hbl.setCell (p := ⟨gk, i, none⟩) hlo (.int .i64 (wrap64 ((negRow d r).getD i 0 + q)))
          have Hset := Lib.hid hset'
          have Hb' := Lib.hid hb'
          clear hset hset' hb' ho hown hbl hxi
          generalize (negRow d r).getD i 0 = z at *
          go_wp2_with fail
          go_roundw
          case rel => exact ⟨i + 1, hlt, by go_num, Hset.out, Hb'.out⟩
          case measure => simp [intOf]; omega
    · go_wp2_with fail
      go_ret
      have : i = n := by omega
      subst this
      rw [fill_end (by rw [lessT_len]; exact HL.out)] at hown
      exact ⟨_, rfl, hown, hbl⟩
end Go.Proofs.YtbjoblgklcilpaaGreatDoor

namespace Go.Proofs.YtbjoblgklcilpaaGreatDoor
open Go.RowKit
set_option linter.all false
set_option maxHeartbeats 3200000 in
theorem iWithout_any (p : Option Addr) (n c : Nat) (t : List (List Int)) (i j m : Nat) (w : World) (h : Intss w p n t) (hr : RowsLen t m) (hj : j < m) (hm : m ≤ 1048576) (hn : n ≤ 1048576) :
    Calls Tryz.prog 71 #[.slice p n c, .int .i64 i, .int .i64 j] w fun e w' => ∃ v, e = .returned v ∧ OIntss w' w.heap.size v (minorT t i j).length (minorT t i j) ∧ Below w.heap.size w w' := by
  have H := Lib.hid h
  have HL : Hid (t.length = n) := h.1
  have HR := Lib.hid hr
  clear h hr
  go_enter Tryz.func71, Tryz.ntmps71
  go_wp2_with fail
  go_loopw [7, 13] (fun v x wr => ∃ k : Nat, k ≤ n ∧ x = .int .i64 k ∧ OIntss wr w.heap.size v (minorTo t i j k).length (minorTo t i j k) ∧ Below w.heap.size w wr) (fun _ x _ => n - (intOf x).toNat)
  case atStart => exact ⟨0, Nat.zero_le _, rfl, by rw [minorTo_zero]; exact OIntss.empty w _ (Nat.le_refl _), (Below.refl _ _).alloc (Nat.le_refl _) _⟩
  case round =>
    obtain ⟨k, hk, rfl, hown, hbl⟩ := hrel
    obtain ⟨wo, rfl⟩ : ∃ wo : World, wo = wr := ⟨_, rfl⟩
    by_cases hlt : k < n
    · obtain ⟨b1, o1, a1, c1, r, rfl, hca, hrow, hget, hcap⟩ := H.out.cap_ hlt
      have h1 := (hbl.cell (World.block_lt_of_cell? w _ hca)).trans hca
      have hrl : r.length = m := HR.out _ _ hget.out
      by_cases hki : k = i
      · subst hki
        have e : minorTo t k j (k + 1) = minorTo t k j k := minorTo_skip (by have := HL.out; omega)
        rw [← e] at hown
        have Hown := Lib.hid hown
        have Hbl := Lib.hid hbl
        have hne : ((k : Int) != (k : Int)) = false := by simp
        clear hown hbl hca hrow hrl e
        go_wp2_with fail
        go_roundw
        case rel => exact ⟨k + 1, hlt, by go_num, Hown.out, Hbl.out⟩
        case measure => simp [intOf]; omega
      · have hne : ((k : Int) != (i : Int)) = true := by simp; omega
        have e : minorTo t i j (k + 1) = minorTo t i j k ++ [cut j r] := minorTo_step hget.out hki
        have Hown := Lib.hid hown
        have Hbl := Lib.hid hbl
        have hjr : j < r.length := by omega
        have hjr2 : j ≤ r.length := by omega
        have hjr3 : j + 1 ≤ r.length := by omega
        have hjc : j ≤ c1 := by omega
        have hjc3 : j + 1 ≤ c1 := by omega
        have hw1 : IntKind.i64.wrap ((j : Int) + 1) = (j : Int) + 1 := IntWalk.i64_in _ (by omega)
        have hw2 : 0 ≤ (j : Int) + 1 := by omega
        have hw3 : ((j : Int) + 1).toNat = j + 1 := by omega
        have Hrow := Lib.hid hrow
        have E := Lib.hid e
        have HRL := Lib.hid hrl
        clear hown hbl hca hki hrow e hrl
        have Hcap := Lib.hid hcap
        obtain ⟨A2, hA2⟩ : ∃ A2, (if c1 = j + 1 then a1 else a1.map (·.add (j + 1))) = A2 := ⟨_, rfl⟩
        have Hd : Hid (Ints wo A2 (r.length - (j + 1)) (r.drop (j + 1))) := by rw [← hA2]; exact (Hrow.out.keep (Hbl.out.mono (Nat.le_refl _))).drop hjr3 hcap
        have Ht : Hid (Ints wo a1 j (r.take j)) := (Hrow.out.keep (Hbl.out.mono (Nat.le_refl _))).take hjr2
        have hs1 := slice_to a1 r.length c1 j hjc
        have hs2 := slice_from a1 r.length c1 j hjr3
        rw [hA2] at hs2
        have HA2 := Lib.hid hA2
        clear hcap hA2 hjc hjc3 hjr hjr2 hjr3
        go_wp2_with fail
        have hw0 : Below wo.heap.size wo (wo.alloc (.cells #[] 3)).drew := ((Below.refl _ _).alloc (Nat.le_refl _) _).drew
        have Hw0 := Lib.hid hw0
        have ho0 : Hid (OInts (wo.alloc (.cells #[] 3)).drew wo.heap.size (.slice (some ⟨wo.heap.size, 0, none⟩) 0 0) 0 []) := (OInts.empty wo wo.heap.size (Nat.le_refl _)).drewN 1
        have hjm : j ≤ 1048576 := by omega
        have hrm : r.length ≤ 1048576 := by have := HRL.out; omega
        have hjr4 : j + 1 ≤ r.length := by have := HRL.out; omega
        have hml := minorTo_len (t := t) (i := i) (j := j) (k := k)
        clear hw0
        go_region_law (first
          | (refine step_of_wp rfl (wp_app_ints _ (.tmp 22) (.tmp 25) rfl wo.heap.size _ 0 [] rfl ho0.out a1 j _ (r.take j) rfl (Ht.out.keep Hw0.out) (by omega) (by exact Hw0.out.size) ?_); intro v1 w1 ho1 hg1; rw [Nat.zero_add, List.nil_append] at ho1; have Ho1 := Lib.hid ho1; have Hb1 : Hid (Below wo.heap.size wo w1) := Hw0.out.grown hg1 Hw0.out.size (fun k hk => (ho0.out.ownlt k hk).1); clear ho1 hg1)
          | (refine step_of_wp rfl (wp_app_ints _ (.tmp 26) (.tmp 30) rfl wo.heap.size _ _ _ rfl Ho1.out A2 _ _ (r.drop (j + 1)) rfl (Hd.out.keep Hb1.out) (by omega) (by exact Hb1.out.size) ?_); intro v2 w2 ho2 hg2; obtain ⟨ao2, cap2, rfl, _⟩ := ho2.form; have Ho2 := Lib.hid ho2; have Hb2 : Hid (Below wo.heap.size wo w2) := Hb1.out.grown hg2 Hb1.out.size (fun k hk => (Ho1.out.ownlt k hk).1); clear ho2 hg2)
          | (refine step_of_wp rfl (wp_push_fresh _ _ wo (.tmp 21) (.tmp 32) rfl w.heap.size _ _ _ rfl Hown.out (by omega) Hbl.out.size Hb2.out _ _ Ho2.out _ (by rfl) rfl ?_); intro v3 w3 ho3 hb3 _; have Ho3 := Lib.hid ho3; have Hb3 := Lib.hid hb3; clear ho3 hb3))
        go_wp2_with fail
        go_roundw
        case rel =>
          refine ⟨k + 1, hlt, by go_num, ?_, Hbl.out.trans Hb3.out⟩
          have h9 := Ho3.out
          rw [E.out, List.length_append]
          exact h9
        case measure => simp [intOf]; omega
    · go_wp2_with fail
      go_ret
      rw [minorTo_end (by have := HL.out; omega)] at hown
      exact ⟨_, rfl, hown, hbl⟩
end Go.Proofs.YtbjoblgklcilpaaGreatDoor

namespace Go.Proofs.YtbjoblgklcilpaaGreatDoor
open Go.RowKit
set_option linter.all false
theorem iWithout0_any (p : Option Addr) (n c : Nat) (t : List (List Int)) (j m : Nat) (w : World) (h : Intss w p n t) (hr : RowsLen t m) (hj : j < m) (hm : m ≤ 1048576) (hn : n ≤ 1048576) :
    Calls Tryz.prog 71 #[.slice p n c, .int .i64 0, .int .i64 j] w fun e w' => ∃ v, e = .returned v ∧ OIntss w' w.heap.size v (minorT t 0 j).length (minorT t 0 j) ∧ Below w.heap.size w w' := by
  have := iWithout_any p n c t 0 j m w h hr hj hm hn
  simpa using this

set_option maxHeartbeats 1600000 in
theorem iDet_any (m : Nat) : ∀ (p : Option Addr) (n c : Nat) (t : List (List Int)) (w : World), n = m → m ≤ 9 → Intss w p n t → RowsLen t m →
    Calls Tryz.prog 48 #[.slice p n c] w fun e w' => e = .returned (.int .i64 (det m t)) ∧ Below w.heap.size w w' := by
  induction m with
  | zero =>
    intro p n c t w hn _ _ _
    subst hn
    go_enter Tryz.func48, Tryz.ntmps48
    go_wp2_with fail
    go_ret
    exact ⟨rfl, Below.refl _ _⟩
  | succ m ih =>
    intro p n c t w hn hm h hr
    subst hn
    have HL : Hid (t.length = m + 1) := h.1
    obtain ⟨b0, o0, a0, c0, r0, rfl, hc0, hrow0, hget0⟩ := h.at_ (k := 0) (by omega)
    rw [Nat.add_zero] at hc0
    have HR0 : Hid (r0.length = m + 1) := hr _ _ hget0.out
    have hl1 : r0.length ≤ m + 1 := by have := HR0.out; omega
    have hl2 : m + 1 ≤ r0.length := by have := HR0.out; omega
    have HD : Hid (det (m + 1) t = dloop (det m) t r0 0 0 1) := by
      show det (m + 1) t = _
      have e : t.getD 0 [] = r0 := by rw [List.getD, hget0.out]; rfl
      unfold det
      rw [e]
    have hne : ((m : Int) + 1 == 0) = false := by simp; omega
    have H := Lib.hid h
    have HRL := Lib.hid hr
    have Hrow := Lib.hid hrow0
    have IH := Lib.hid ih
    clear h hr hrow0 ih
    go_enter Tryz.func48, Tryz.ntmps48
    go_wp2_with fail
    go_loopw [3, 4, 14] (fun s g i wr => ∃ (j : Nat) (sv gv : Int), j ≤ r0.length ∧ i = .int .i64 j ∧ s = .int .i64 sv ∧ g = .int .i64 gv ∧ -1 ≤ gv ∧ gv ≤ 1 ∧ Below w.heap.size w wr ∧ Hid (dloop (det m) t (r0.drop j) j sv gv = det (m + 1) t)) (fun _ _ i _ => (m + 1) - (intOf i).toNat)
    case atStart => exact ⟨0, 0, 1, Nat.zero_le _, rfl, rfl, rfl, by omega, by omega, Below.refl _ _, HD.out.symm⟩
    case round =>
      obtain ⟨j, sv, gv, hj, rfl, rfl, rfl, hg1, hg2, hbl, hd⟩ := hrel
      by_cases hlt : j < r0.length
      · obtain ⟨b1, o1, x, rfl, hcx, hgetx⟩ := Hrow.out.at_ hlt
        have hcx' := (hbl.cell (World.block_lt_of_cell? w _ hcx)).trans hcx
        by_cases hx0 : x = 0
        · subst hx0
          have hd1 : Hid _ := dloop_zero hgetx.out hd.out
          clear hcx hd
          go_wp2_with fail
          go_roundw
          case rel => exact ⟨j + 1, sv, -gv, hlt, by go_num, rfl, rfl, by omega, by omega, hbl, hd1⟩
          case measure => simp [intOf]; omega
        · have hd1 : Hid _ := dloop_step hgetx.out hx0 hd.out
          have hne2 : (x != 0) = true := by simp [hx0]
          clear hcx hd hx0
          have Hbl := Lib.hid hbl
          clear hbl
          go_wp2_with fail
          refine (iWithout0_any _ _ _ t j (m + 1) _ (H.out.keep (Hbl.out.mono (Nat.le_refl _))) HRL.out (by omega) (by omega) (by omega)).mono ?_
          rintro e w1 ⟨v1, rfl, ho1, hb1⟩
          obtain ⟨ao1, cap1, rfl, hi1⟩ := ho1.form
          have hml : (minorT t 0 j).length = m := by rw [minorT_len (by have := HL.out; omega), HL.out]; omega
          have Hi1 := Lib.hid hi1
          have Hb1 := Lib.hid (Hbl.out.trans (hb1.mono Hbl.out.size))
          have HML := Lib.hid hml
          clear ho1 hb1 hi1 hml
          go_wp2_with fail
          refine (IH.out _ _ _ (minorT t 0 j) _ HML.out (by omega) Hi1.out (minorT_rowsLen HRL.out (by omega))).mono ?_
          rintro e w2 ⟨rfl, hb2⟩
          have Hb2 := Lib.hid (Hb1.out.trans (hb2.mono Hb1.out.size))
          clear hb2
          go_wp2_with fail
          go_roundw
          case rel => exact ⟨j + 1, _, -gv, hlt, by go_num, rfl, rfl, by omega, by omega, Hb2.out, hd1⟩
          case measure => simp [intOf]; omega
      · go_wp2_with fail
        go_ret
        exact ⟨ret_int (dloop_end (by omega) hd.out), hbl⟩
end Go.Proofs.YtbjoblgklcilpaaGreatDoor

namespace Go.Proofs.YtbjoblgklcilpaaGreatDoor
open Go.RowKit
set_option linter.all false
set_option maxHeartbeats 1600000 in
theorem iSignOf_any (ao : Option Addr) (n cap : Nat) (xss : List (List Int)) (w : World) (h : Intss w ao n xss) :
    Calls Tryz.prog 16 #[.slice ao n cap] w fun e w' => e = .returned (.int .i64 (signOf xss)) ∧ Below w.heap.size w w' := by
  have HL : Hid (xss.length = n) := h.1
  have H := Lib.hid h
  clear h
  cases hs : isSmallM xss
  · have hg : Hid (signOf xss = -2) := by show signOf xss = _; simp [signOf, hs]
    go_enter Tryz.func16, Tryz.ntmps16
    go_wp2_with (first | (go_at_call 31; refine (iIsSmall_any _ _ _ xss _ H.out).mono ?_; rintro e w' ⟨rfl, rfl⟩))
    go_ret
    exact ⟨ret_int hg.out.symm, Below.refl _ _⟩
  · have hg : Hid (signOf xss = sgn (det n (lessT 1 1 xss))) := by show signOf xss = _; simp [signOf, hs, HL.out]
    have hsm := isSmallM_mat hs
    have HR := Lib.hid (isMat_rowsLen hsm.1 HL.out)
    have hn4 : n ≤ 4 := by have := HL.out; omega
    have HT := Lib.hid (lessT_rowsLen (q := 1) (d := 1) HR.out)
    have HTL : Hid ((lessT 1 1 xss).length = n) := by show (lessT 1 1 xss).length = n; rw [lessT_len, HL.out]
    clear hsm
    rcases Int.lt_trichotomy (det n (lessT 1 1 xss)) 0 with hz | hz | hz
    · have hg1 : Hid (signOf xss = -1) := by show signOf xss = _; rw [hg.out]; unfold sgn; rw [if_neg (by omega), if_pos hz]
      go_enter Tryz.func16, Tryz.ntmps16
      go_wp2_with (first
        | (go_at_call 31; refine (iIsSmall_any _ _ _ xss _ H.out).mono ?_; rintro e w' ⟨rfl, rfl⟩)
        | (go_at_call 34; refine (iLess_any _ _ _ xss 1 1 _ H.out HR.out (by omega) (by omega) (by omega) (by omega) (by omega)).mono ?_; rintro e w1 ⟨v1, rfl, ho1, hb1⟩; obtain ⟨ao1, cap1, rfl, hi1⟩ := ho1.form; have Hi1 := Lib.hid hi1; have Hb1 := Lib.hid hb1; clear ho1 hb1 hi1)
        | (go_at_call 48; refine (iDet_any n _ _ _ (lessT 1 1 xss) _ rfl (by omega) Hi1.out HT.out).mono ?_; rintro e w2 ⟨rfl, hb2⟩; have Hb2 := Lib.hid (Hb1.out.trans (hb2.mono Hb1.out.size)); clear hb2))
      go_ret
      exact ⟨ret_int hg1.out.symm, Hb2.out⟩
    · have hg1 : Hid (signOf xss = 0) := by show signOf xss = _; rw [hg.out]; unfold sgn; rw [if_neg (by omega), if_neg (by omega)]
      go_enter Tryz.func16, Tryz.ntmps16
      go_wp2_with (first
        | (go_at_call 31; refine (iIsSmall_any _ _ _ xss _ H.out).mono ?_; rintro e w' ⟨rfl, rfl⟩)
        | (go_at_call 34; refine (iLess_any _ _ _ xss 1 1 _ H.out HR.out (by omega) (by omega) (by omega) (by omega) (by omega)).mono ?_; rintro e w1 ⟨v1, rfl, ho1, hb1⟩; obtain ⟨ao1, cap1, rfl, hi1⟩ := ho1.form; have Hi1 := Lib.hid hi1; have Hb1 := Lib.hid hb1; clear ho1 hb1 hi1)
        | (go_at_call 48; refine (iDet_any n _ _ _ (lessT 1 1 xss) _ rfl (by omega) Hi1.out HT.out).mono ?_; rintro e w2 ⟨rfl, hb2⟩; have Hb2 := Lib.hid (Hb1.out.trans (hb2.mono Hb1.out.size)); clear hb2))
      go_ret
      exact ⟨ret_int hg1.out.symm, Hb2.out⟩
    · have hg1 : Hid (signOf xss = 1) := by show signOf xss = _; rw [hg.out]; unfold sgn; rw [if_pos (by omega)]
      go_enter Tryz.func16, Tryz.ntmps16
      go_wp2_with (first
        | (go_at_call 31; refine (iIsSmall_any _ _ _ xss _ H.out).mono ?_; rintro e w' ⟨rfl, rfl⟩)
        | (go_at_call 34; refine (iLess_any _ _ _ xss 1 1 _ H.out HR.out (by omega) (by omega) (by omega) (by omega) (by omega)).mono ?_; rintro e w1 ⟨v1, rfl, ho1, hb1⟩; obtain ⟨ao1, cap1, rfl, hi1⟩ := ho1.form; have Hi1 := Lib.hid hi1; have Hb1 := Lib.hid hb1; clear ho1 hb1 hi1)
        | (go_at_call 48; refine (iDet_any n _ _ _ (lessT 1 1 xss) _ rfl (by omega) Hi1.out HT.out).mono ?_; rintro e w2 ⟨rfl, hb2⟩; have Hb2 := Lib.hid (Hb1.out.trans (hb2.mono Hb1.out.size)); clear hb2))
      go_ret
      exact ⟨ret_int hg1.out.symm, Hb2.out⟩
end Go.Proofs.YtbjoblgklcilpaaGreatDoor

namespace Go.Proofs.YtbjoblgklcilpaaGreatDoor
open Go.RowKit
set_option linter.all false
set_option maxHeartbeats 3200000 in
theorem iSets_any (n k : Nat) (w : World) (hn : n ≤ 4) (hk : k ≤ 1048576) :
    Calls Tryz.prog 83 #[.int .i64 n, .int .i64 k] w fun e w' => ∃ v, e = .returned v ∧ OIntss w' w.heap.size v (sets n k).length (sets n k) ∧ Below w.heap.size w w' := by
  have h2n : 2 ^ n ≤ 16 := Nat.pow_le_pow_right (n := 2) (by omega) hn
  go_enter Tryz.func83, Tryz.ntmps83
  go_wp2_with fail
  go_loopw [5, 12] (fun v x wr => ∃ m : Nat, m ≤ 2 ^ n ∧ x = .int .i64 m ∧ OIntss wr w.heap.size v (setsTo n k m).length (setsTo n k m) ∧ Below w.heap.size w wr) (fun _ x _ => 2 ^ n - (intOf x).toNat)
  case atStart => exact ⟨0, Nat.zero_le _, rfl, OIntss.empty w _ (Nat.le_refl _), (Below.refl _ _).alloc (Nat.le_refl _) _⟩
  case round =>
    obtain ⟨m, hm, rfl, hown, hbl⟩ := hrel
    obtain ⟨wo, rfl⟩ : ∃ wo : World, wo = wr := ⟨_, rfl⟩
    have hp : wrap64 ((2 : Int) ^ n) = ((2 ^ n : Nat) : Int) := by
      have e : ((2 ^ n : Nat) : Int) = (2 : Int) ^ n := by simp
      rw [← e]; unfold wrap64; omega
    by_cases hlt : m < 2 ^ n
    · have hd : decide ((m : Int) < wrap64 (2 ^ n)) = true := by rw [hp]; simp only [decide_eq_true_eq]; omega
      have Hown := Lib.hid hown
      have Hbl := Lib.hid hbl
      clear hown hbl hp
      go_wp2_with fail
      go_loopw [7, 17] (fun v' x wx => ∃ i : Nat, i ≤ n ∧ x = .int .i64 i ∧ OInts wx wo.heap.size v' (setTo m i).length (setTo m i) ∧ Below wo.heap.size wo wx) (fun _ x _ => n - (intOf x).toNat)
      case atStart => exact ⟨0, Nat.zero_le _, rfl, OInts.empty wo _ (Nat.le_refl _), (Below.refl _ _).alloc (Nat.le_refl _) _⟩
      case round =>
        obtain ⟨i, hi, rfl, hrow, hbx⟩ := hrel
        by_cases hin : i < n
        · have hil := setTo_len m i
          have hbb := bits_bit (m := m) (i := i) (by omega) (by omega)
          have Hrow := Lib.hid hrow
          have Hbx := Lib.hid hbx
          cases hb : bitOf m i
          · rw [hb] at hbb
            have E : Hid (setTo m (i + 1) = setTo m i) := setTo_no hb
            clear hrow hbx hb
            go_wp2_with fail
            go_roundw
            case rel => exact ⟨i + 1, hin, by go_num, by rw [E.out]; exact Hrow.out, Hbx.out⟩
            case measure => simp [intOf]; omega
          · rw [hb] at hbb
            have E : Hid (setTo m (i + 1) = setTo m i ++ [(i : Int)]) := setTo_yes hb
            clear hrow hbx hb
            go_wp2_with (first | (at_builtin; refine wpList_push_one _ _ rfl _ _ rfl wo.heap.size _ _ _ rfl Hrow.out (by omega) Hbx.out.size _ rfl rfl ?_; intro v1 w1 ho1 hb1))
            go_roundw
            case rel => exact ⟨i + 1, hin, by go_num, by rw [E.out, List.length_append]; exact ho1, Hbx.out.trans hb1⟩
            case measure => simp [intOf]; omega
        · have e : i = n := by omega
          subst e
          have hsl := setsTo_len i k m
          have hrl := setTo_len m i
          have Hrow := Lib.hid hrow
          have Hbx := Lib.hid hbx
          by_cases hlk : (setTo m i).length = k
          · have hk1 : (((setTo m i).length : Int) == (k : Int)) = true := by simp [hlk]
            have E : Hid (setsTo i k (m + 1) = setsTo i k m ++ [setTo m i]) := setsTo_yes hlk
            clear hrow hbx hlk
            obtain ⟨ao, cap, e, _⟩ := Hrow.out.form
            subst e
            go_wp2_with (first | (at_builtin; refine wpList_push_fresh _ _ wo rfl _ _ rfl w.heap.size _ _ _ rfl Hown.out (by omega) Hbl.out.size Hbx.out _ _ Hrow.out _ (by rfl) rfl ?_; intro v3 w3 ho3 hb3 _))
            go_roundw
            case rel => exact ⟨m + 1, hlt, by go_num, by rw [E.out, List.length_append]; exact ho3, Hbl.out.trans hb3⟩
            case measure => simp [intOf]; omega
          · have hk1 : (((setTo m i).length : Int) == (k : Int)) = false := by simp; omega
            have E : Hid (setsTo i k (m + 1) = setsTo i k m) := setsTo_no hlk
            clear hrow hbx hlk
            obtain ⟨ao, cap, e, _⟩ := Hrow.out.form
            subst e
            go_wp2_with fail
            go_roundw
            case rel => exact ⟨m + 1, hlt, by go_num, by rw [E.out]; exact Hown.out.keep (Hbx.out.mono (Nat.le_refl _)), Hbl.out.trans (Hbx.out.mono Hbl.out.size)⟩
            case measure => simp [intOf]; omega
    · have hd : decide ((m : Int) < wrap64 (2 ^ n)) = false := by rw [hp]; simp only [decide_eq_false_iff_not]; omega
      clear hp
      go_wp2_with fail
      go_ret
      have : m = 2 ^ n := by omega
      subst this
      exact ⟨_, rfl, hown, hbl⟩
end Go.Proofs.YtbjoblgklcilpaaGreatDoor

namespace Go.Proofs.YtbjoblgklcilpaaGreatDoor
open Go.RowKit
set_option linter.all false
set_option maxHeartbeats 800000 in
theorem sFits_any (ao : Option Addr) (n cap : Nat) (xss : List (List Int)) (w : World) (h : Intss w ao n xss) :
    Calls Tryz.prog 68 #[.slice ao n cap] w fun e w' => e = .returned (.bool (smith xss)) ∧ w = w' := by
  have hm := h.2.1
  have HL := Lib.hid h.1
  have hg : Hid (smith xss = (tabIn n (-100) 100 xss && inR n 1 4)) := by show smith xss = _; unfold smith; rw [h.1]
  have H := Lib.hid h
  clear h
  go_enter Tryz.func68, Tryz.ntmps68
  go_wp2
  go_loop [3] (fun i => ∃ k : Nat, k ≤ n ∧ i = .int .i64 k ∧ Hid (tabIn n (-100) 100 (xss.drop k) = tabIn n (-100) 100 xss)) (fun i => n - (intOf i).toNat)
  case atStart => exact ⟨0, Nat.zero_le _, rfl, rfl⟩
  case round =>
    obtain ⟨k, hk, rfl, hr⟩ := hrel
    by_cases hlt : k < n
    · obtain ⟨b, o, ai, ci, r, rfl, hcell, hrow, hget⟩ := H.out.at_ hlt
      clear H
      have Hst := Lib.hid (tabIn_step hget.out hr.out)
      have Hrow := Lib.hid hrow
      clear hrow hr
      by_cases hrl : r.length = n
      · have hne : ((r.length : Int) != (n : Int)) = false := by simp [hrl]
        have HRL := Lib.hid hrl
        clear hrl
        go_wp2
        go_loop [4] (fun i => ∃ j : Nat, j ≤ n ∧ i = .int .i64 j ∧ Hid (allIn (-100) 100 (r.drop j) = allIn (-100) 100 r)) (fun i => n - (intOf i).toNat)
        case atStart => exact ⟨0, Nat.zero_le _, rfl, rfl⟩
        case round =>
          obtain ⟨j, hj, rfl, hrj⟩ := hrel
          by_cases hjn : j < n
          · obtain ⟨b', o', x, rfl, hcell', hget'⟩ := Hrow.out.at_ (k := j) (by have := HRL.out; omega)
            clear Hrow
            have hjr : j < r.length := by have := HRL.out; omega
            have Hsj := Lib.hid (allIn_step hget'.out hrj.out)
            clear hrj
            cases hi : inR x (-100) 100
            · have hr1 : Hid _ := Hst.out.2.1 (Hsj.out.2 hi)
              clear Hst Hsj
              go_wp2_with (first | (go_at_call 43; refine (l1In_any _ _ _ _).mono ?_; rintro e w' ⟨rfl, rfl⟩))
              go_ret
              exact ⟨ret_bool (by rw [hg.out, hr1.out]; rfl), rfl⟩
            · have hr1 : Hid _ := Hsj.out.1 hi
              clear Hst Hsj
              go_wp2_with (first | (go_at_call 43; refine (l1In_any _ _ _ _).mono ?_; rintro e w' ⟨rfl, rfl⟩))
              go_round
              case rel => exact ⟨j + 1, hjn, by go_num, hr1⟩
              case measure => simp [intOf]; omega
          · have hr1 : Hid _ := Hst.out.2.2 HRL.out (by have := hrj.out; rw [drop_all r j (by have := HRL.out; omega)] at this; exact this.symm)
            clear Hst hrj Hrow
            go_wp2
            go_round
            case rel => exact ⟨k + 1, hlt, by go_num, hr1⟩
            case measure => simp [intOf]; omega
      · have hne : ((r.length : Int) != (n : Int)) = true := by simp; omega
        have hr1 : Hid _ := Hst.out.1 hrl
        clear Hst hrl
        go_wp2
        go_ret
        exact ⟨ret_bool (by rw [hg.out, hr1.out]; rfl), rfl⟩
    · rw [drop_all xss k (by have := HL.out; omega)] at hr
      have hr1 : Hid _ := hr.out.symm
      clear hr H
      go_wp2_with (first | (go_at_call 43; refine (l1In_any _ _ _ _).mono ?_; rintro e w' ⟨rfl, rfl⟩))
      go_ret
      exact ⟨ret_bool (by rw [hg.out, hr1.out]; rfl), rfl⟩
end Go.Proofs.YtbjoblgklcilpaaGreatDoor

namespace Go.Proofs.YtbjoblgklcilpaaGreatDoor
open Go.RowKit
set_option linter.all false
set_option maxHeartbeats 3200000 in
theorem sSets_any (n k : Nat) (w : World) (hn : n ≤ 4) (hk : k ≤ 1048576) :
    Calls Tryz.prog 85 #[.int .i64 n, .int .i64 k] w fun e w' => ∃ v, e = .returned v ∧ OIntss w' w.heap.size v (sets n k).length (sets n k) ∧ Below w.heap.size w w' := by
  have h2n : 2 ^ n ≤ 16 := Nat.pow_le_pow_right (n := 2) (by omega) hn
  go_enter Tryz.func85, Tryz.ntmps85
  go_wp2_with fail
  go_loopw [5, 6] (fun v x wr => ∃ m : Nat, m ≤ 2 ^ n ∧ x = .int .i64 m ∧ OIntss wr w.heap.size v (setsTo n k m).length (setsTo n k m) ∧ Below w.heap.size w wr) (fun _ x _ => 2 ^ n - (intOf x).toNat)
  case atStart => exact ⟨0, Nat.zero_le _, rfl, OIntss.empty w _ (Nat.le_refl _), (Below.refl _ _).alloc (Nat.le_refl _) _⟩
  case round =>
    obtain ⟨m, hm, rfl, hown, hbl⟩ := hrel
    obtain ⟨wo, rfl⟩ : ∃ wo : World, wo = wr := ⟨_, rfl⟩
    have hp : wrap64 ((2 : Int) ^ n) = ((2 ^ n : Nat) : Int) := by
      have e : ((2 ^ n : Nat) : Int) = (2 : Int) ^ n := by simp
      rw [← e]; unfold wrap64; omega
    by_cases hlt : m < 2 ^ n
    · have hd : decide ((m : Int) < wrap64 (2 ^ n)) = true := by rw [hp]; simp only [decide_eq_true_eq]; omega
      have Hown := Lib.hid hown
      have Hbl := Lib.hid hbl
      clear hown hbl hp
      go_wp2_with fail
      go_loopw [7, 8] (fun v' x wx => ∃ i : Nat, i ≤ n ∧ x = .int .i64 i ∧ OInts wx wo.heap.size v' (setTo m i).length (setTo m i) ∧ Below wo.heap.size wo wx) (fun _ x _ => n - (intOf x).toNat)
      case atStart => exact ⟨0, Nat.zero_le _, rfl, OInts.empty wo _ (Nat.le_refl _), (Below.refl _ _).alloc (Nat.le_refl _) _⟩
      case round =>
        obtain ⟨i, hi, rfl, hrow, hbx⟩ := hrel
        by_cases hin : i < n
        · have hil := setTo_len m i
          have hbb := bits_bit (m := m) (i := i) (by omega) (by omega)
          have Hrow := Lib.hid hrow
          have Hbx := Lib.hid hbx
          cases hb : bitOf m i
          · rw [hb] at hbb
            have E : Hid (setTo m (i + 1) = setTo m i) := setTo_no hb
            clear hrow hbx hb
            go_wp2_with fail
            go_roundw
            case rel => exact ⟨i + 1, hin, by go_num, by rw [E.out]; exact Hrow.out, Hbx.out⟩
            case measure => simp [intOf]; omega
          · rw [hb] at hbb
            have E : Hid (setTo m (i + 1) = setTo m i ++ [(i : Int)]) := setTo_yes hb
            clear hrow hbx hb
            go_wp2_with (first | (at_builtin; refine wpList_push_one _ _ rfl _ _ rfl wo.heap.size _ _ _ rfl Hrow.out (by omega) Hbx.out.size _ rfl rfl ?_; intro v1 w1 ho1 hb1))
            go_roundw
            case rel => exact ⟨i + 1, hin, by go_num, by rw [E.out, List.length_append]; exact ho1, Hbx.out.trans hb1⟩
            case measure => simp [intOf]; omega
        · have e : i = n := by omega
          subst e
          have hsl := setsTo_len i k m
          have hrl := setTo_len m i
          have Hrow := Lib.hid hrow
          have Hbx := Lib.hid hbx
          by_cases hlk : (setTo m i).length = k
          · have hk1 : (((setTo m i).length : Int) == (k : Int)) = true := by simp [hlk]
            have E : Hid (setsTo i k (m + 1) = setsTo i k m ++ [setTo m i]) := setsTo_yes hlk
            clear hrow hbx hlk
            obtain ⟨ao, cap, e, _⟩ := Hrow.out.form
            subst e
            go_wp2_with (first | (at_builtin; refine wpList_push_fresh _ _ wo rfl _ _ rfl w.heap.size _ _ _ rfl Hown.out (by omega) Hbl.out.size Hbx.out _ _ Hrow.out _ (by rfl) rfl ?_; intro v3 w3 ho3 hb3 _))
            go_roundw
            case rel => exact ⟨m + 1, hlt, by go_num, by rw [E.out, List.length_append]; exact ho3, Hbl.out.trans hb3⟩
            case measure => simp [intOf]; omega
          · have hk1 : (((setTo m i).length : Int) == (k : Int)) = false := by simp; omega
            have E : Hid (setsTo i k (m + 1) = setsTo i k m) := setsTo_no hlk
            clear hrow hbx hlk
            obtain ⟨ao, cap, e, _⟩ := Hrow.out.form
            subst e
            go_wp2_with fail
            go_roundw
            case rel => exact ⟨m + 1, hlt, by go_num, by rw [E.out]; exact Hown.out.keep (Hbx.out.mono (Nat.le_refl _)), Hbl.out.trans (Hbx.out.mono Hbl.out.size)⟩
            case measure => simp [intOf]; omega
    · have hd : decide ((m : Int) < wrap64 (2 ^ n)) = false := by rw [hp]; simp only [decide_eq_false_iff_not]; omega
      clear hp
      go_wp2_with fail
      go_ret
      have : m = 2 ^ n := by omega
      subst this
      exact ⟨_, rfl, hown, hbl⟩
end Go.Proofs.YtbjoblgklcilpaaGreatDoor

namespace Go.Proofs.YtbjoblgklcilpaaGreatDoor
open Go.RowKit
set_option linter.all false
set_option maxHeartbeats 3200000 in
theorem sMinorsOf_any (p : Option Addr) (n c : Nat) (t : List (List Int)) (k : Int) (w : World) (h : Intss w p n t) :
    Calls Tryz.prog 69 #[.slice p n c, .int .i64 k] w fun e w' => e = .returned (.int .i64 (minorsOf t k)) ∧ Below w.heap.size w w' := by
  have hm := h.2.1
  have HL : Hid (t.length = n) := h.1
  have H := Lib.hid h
  clear h
  cases hs : smith t
  · have hg : Hid (minorsOf t k = -1) := by show minorsOf t k = _; simp [minorsOf, hs]
    go_enter Tryz.func69, Tryz.ntmps69
    go_wp2_with (first | (go_at_call 68; refine (sFits_any _ _ _ t _ H.out).mono ?_; rintro e w' ⟨rfl, rfl⟩))
    go_ret
    exact ⟨ret_int hg.out.symm, Below.refl _ _⟩
  cases hi : inR k 0 n
  · have hg : Hid (minorsOf t k = -1) := by show minorsOf t k = _; simp [minorsOf, HL.out, hi]
    go_enter Tryz.func69, Tryz.ntmps69
    go_wp2_with (first | (go_at_call 68; refine (sFits_any _ _ _ t _ H.out).mono ?_; rintro e w' ⟨rfl, rfl⟩) | (go_at_call 43; refine (l1In_any _ _ _ _).mono ?_; rintro e w' ⟨rfl, rfl⟩))
    go_ret
    exact ⟨ret_int hg.out.symm, Below.refl _ _⟩
  have hk := inR_true hi
  obtain ⟨k, rfl⟩ : ∃ m : Nat, k = (m : Int) := ⟨k.toNat, by omega⟩
  have hkn : k ≤ n := by omega
  have HG : Hid (gcdAll t k (sets n k) (sets n k) 0 = minorsOf t k) := by
    show _ = minorsOf t k
    simp only [minorsOf, HL.out, hs, hi, minorsI, Bool.and_self, if_true, Int.toNat_natCast]
  have hn4 : n ≤ 4 := by have := smith_len hs; have := HL.out; omega
  have HB := Lib.hid (smith_bnd hs)
  have HR := Lib.hid (smith_rowsLen hs HL.out)
  have hk4 : k ≤ 4 := by omega
  go_enter Tryz.func69, Tryz.ntmps69
  go_wp2_with (first | (go_at_call 68; refine (sFits_any _ _ _ t _ H.out).mono ?_; rintro e w' ⟨rfl, rfl⟩) | (go_at_call 43; refine (l1In_any _ _ _ _).mono ?_; rintro e w' ⟨rfl, rfl⟩) | (go_at_call 85; refine (sSets_any n k _ hn4 (by omega)).mono ?_; rintro e w1 ⟨v1, rfl, ho1, hb1⟩; obtain ⟨ao1, cap1, rfl, hi1⟩ := ho1.form; have Hb1 := Lib.hid hb1; have HS := Lib.hid hi1; have HM := Lib.hid (H.out.keep hb1); clear ho1 hi1 hb1))
  have hsl : (sets n k).length ≤ 1048576 := by
    have h1 := setsTo_len n k (2 ^ n)
    have h2n : 2 ^ n ≤ 16 := Nat.pow_le_pow_right (n := 2) (by omega) hn4
    have h2 : (sets n k).length ≤ 2 ^ n := h1
    omega
  go_loopw [5, 7] (fun u x wr => ∃ (i : Nat) (g : Int), i ≤ (sets n k).length ∧ u = .int .i64 g ∧ x = .int .i64 i ∧ Below w1.heap.size w1 wr ∧ Hid (Small62 g) ∧ Hid (gcdAll t k (sets n k) ((sets n k).drop i) g = minorsOf t k)) (fun _ x _ => (sets n k).length - (intOf x).toNat)
  case atStart => exact ⟨0, 0, Nat.zero_le _, rfl, rfl, Below.refl _ _, ⟨by omega, by omega⟩, HG.out⟩
  case round =>
    obtain ⟨i, g, hi, rfl, rfl, hbl, hg, hr⟩ := hrel
    by_cases hlt : i < (sets n k).length
    · obtain ⟨b1, o1, a1, c1, rs, rfl, hc1, hrow1, hget1⟩ := HS.out.at_ hlt
      have Hc1 := Lib.hid hc1
      have Hrow1 := Lib.hid hrow1
      have HX1 := Lib.hid (sets_get hget1.out)
      have hr2 : Hid _ := gcdAll_step hget1.out hr.out
      clear hc1 hrow1 hr
      have Hbl := Lib.hid hbl
      have Hg := hg
      clear hbl hg
      go_wp2_with fail
      go_loopw [5, 8] (fun u x wr => ∃ (j : Nat) (g' : Int), j ≤ (sets n k).length ∧ u = .int .i64 g' ∧ x = .int .i64 j ∧ Below w1.heap.size w1 wr ∧ Hid (Small62 g') ∧ Hid (gcdRow t k rs ((sets n k).drop j) g' = gcdRow t k rs (sets n k) g)) (fun _ x _ => (sets n k).length - (intOf x).toNat)
      case atStart => exact ⟨0, g, Nat.zero_le _, rfl, rfl, Hbl.out, Hg, rfl⟩
      case round =>
        obtain ⟨j, g', hj, rfl, rfl, hbl, hg, hr⟩ := hrel
        clear Hbl Hg
        by_cases hjt : j < (sets n k).length
        · obtain ⟨b2, o2, a2, c2, cs, e, hc2, hrow2, hget2⟩ := HS.out.at_ hjt
          injection e with e
          injection e with e1 e2
          subst e1
          subst e2
          have Hc2 := Lib.hid hc2
          have Hrow2 := Lib.hid hrow2
          have HX2 := Lib.hid (sets_get hget2.out)
          have HD : Hid (Small62 (det k (someT t rs cs))) := some_small HB.out hk4 HX1.out.1 HX2.out.1
          have hr3 : Hid _ := gcdRow_step hget2.out hr.out
          have hg3 : Hid _ := (gcdI_small hg.out HD.out).2
          have q1 := (hbl.cell (World.block_lt_of_cell? w1 _ Hc1.out)).trans Hc1.out
          have q2 := (hbl.cell (World.block_lt_of_cell? w1 _ Hc2.out)).trans Hc2.out
          have q3 : wr.drew.cell? ⟨b1, o1 + i, none⟩ = some (.slice a1 rs.length c1) := q1
          have q4 : wr.drew.cell? ⟨b1, o1 + j, none⟩ = some (.slice a2 cs.length c2) := q2
          have Hbl := Lib.hid hbl.drew
          have hrl1 : rs.length ≤ 4 := by have := HX1.out.1; omega
          have hrl2 : cs.length ≤ 4 := by have := HX2.out.1; omega
          clear hbl hc2 hrow2 hr
          go_wp2_with fail
          go_region_held3 (fun w' => w'.cell? ⟨b1, o1 + i, none⟩ = some (.slice a1 rs.length c1) ∧ w'.cell? ⟨b1, o1 + j, none⟩ = some (.slice a2 cs.length c2)) (first | go_keep | exact ⟨q1, q2⟩ | exact ⟨q5, q6⟩ | exact ⟨q7, q8⟩) (first
            | (go_at_call 87; refine (sSome_any _ _ _ t _ _ _ rs _ _ _ cs n _ (HM.out.keep Hbl.out) (Hrow1.out.keep Hbl.out) (Hrow2.out.keep Hbl.out) HR.out HX1.out.2 HX2.out.2 (by omega) (by omega)).mono ?_; rintro e w2 ⟨v2, rfl, ho2, hb2⟩; obtain ⟨ao2, cap2, rfl, hi2⟩ := ho2.form; have Hi2 := Lib.hid hi2; have Hb2 := Lib.hid (Hbl.out.trans (hb2.mono Hbl.out.size)); have q5 := (Hb2.out.cell (World.block_lt_of_cell? w1 _ Hc1.out)).trans Hc1.out; have q6 := (Hb2.out.cell (World.block_lt_of_cell? w1 _ Hc2.out)).trans Hc2.out; clear ho2 hb2 hi2)
            | (go_at_call 49; refine (sDet_any k _ _ _ (someT t rs cs) _ HX1.out.1 (by omega) Hi2.out (by have := someT_rowsLen t rs cs; rw [HX2.out.1] at this; exact this)).mono ?_; rintro e w3 ⟨rfl, hb3⟩; have Hb3 := Lib.hid (Hb2.out.trans (hb3.mono Hb2.out.size)); have q7 := (Hb3.out.cell (World.block_lt_of_cell? w1 _ Hc1.out)).trans Hc1.out; have q8 := (Hb3.out.cell (World.block_lt_of_cell? w1 _ Hc2.out)).trans Hc2.out; clear hb3)
            | (go_at_call 86; refine (sGcd_any _ _ _ hg.out HD.out).mono ?_; rintro e w' ⟨rfl, rfl⟩))
          go_wp2_with fail
          go_roundw
          case rel => exact ⟨j + 1, _, hjt, rfl, by go_num, Hb3.out, hg3, hr3⟩
          case measure => simp [intOf]; omega
        · have hr3 : Hid _ := gcdRow_end (by omega) hr.out
          have hr4 : Hid (gcdAll t k (sets n k) ((sets n k).drop (i + 1)) g' = minorsOf t k) := by show gcdAll t k (sets n k) ((sets n k).drop (i + 1)) g' = minorsOf t k; rw [hr3.out]; exact hr2.out
          have Hbl := Lib.hid hbl
          clear hr hbl hr2 hr3
          go_wp2_with fail
          go_roundw
          case rel => exact ⟨i + 1, g', hlt, rfl, by go_num, Hbl.out, hg, hr4⟩
          case measure => simp [intOf]; omega
    · have hr3 : Hid _ := gcdAll_end (by omega) hr.out
      clear hr
      go_wp2_with fail
      go_ret
      exact ⟨ret_int hr3.out, Hb1.out.trans (hbl.mono Hb1.out.size)⟩
end Go.Proofs.YtbjoblgklcilpaaGreatDoor

namespace Go.Proofs.YtbjoblgklcilpaaGreatDoor
open Go.RowKit
set_option linter.all false
set_option maxHeartbeats 1600000 in
theorem sDiagonalOf_any (p : Option Addr) (n c : Nat) (t : List (List Int)) (w : World) (h : Intss w p n t) :
    Calls Tryz.prog 46 #[.slice p n c] w fun e w' => ∃ v, e = .returned (.tuple #[v, .bool (smith t)]) ∧ OInts w' w.heap.size v (diagV t).length (diagV t) ∧ Below w.heap.size w w' := by
  have hm := h.2.1
  have HL : Hid (t.length = n) := h.1
  have H := Lib.hid h
  clear h
  cases hs : smith t
  · have hg : Hid (diagV t = []) := by show diagV t = _; simp [diagV, hs]
    have Hempty := Lib.hid (OInts.empty w w.heap.size (Nat.le_refl _))
    have Hbe : Hid (Below w.heap.size w (w.alloc (.cells #[] 3))) := (Below.refl _ _).alloc (Nat.le_refl _) _
    go_enter Tryz.func46, Tryz.ntmps46
    go_wp2_with (first | (go_at_call 68; refine (sFits_any _ _ _ t _ H.out).mono ?_; rintro e w' ⟨rfl, rfl⟩))
    go_ret2
    rw [hg.out]
    exact ⟨_, rfl, Hempty.out, Hbe.out⟩
  have hn4 : n ≤ 4 := by have := smith_len hs; have := HL.out; omega
  have HG : Hid (diagV t = diagN t) := by show diagV t = _; simp [diagV, hs]
  have HD : Hid (diagL t n 1 1 = (diagN t).drop 0) := by show _ = _; rw [← HL.out]; rfl
  have HV : Hid (∀ j : Nat, j < n → minorsOf t ((j : Int) + 1) = minorsI t (j + 1)) := fun j hj => minorsOf_in hs HL.out hj
  have HS : Hid (∀ j : Nat, j < n → 0 ≤ minorsI t (j + 1) ∧ Small62 (minorsI t (j + 1))) := fun j hj => minorsI_small (smith_bnd hs) (by omega)
  have HN : Hid ((diagN t).length = n) := (diagN_len t).trans HL.out
  go_enter Tryz.func46, Tryz.ntmps46
  go_wp2_with (first | (go_at_call 68; refine (sFits_any _ _ _ t _ H.out).mono ?_; rintro e w' ⟨rfl, rfl⟩))
  go_loopw [4, 5, 6] (fun v u x wr => ∃ (j : Nat) (b : Int), j ≤ n ∧ u = .int .i64 b ∧ x = .int .i64 ((j : Int) + 1) ∧ OInts wr w.heap.size v j ((diagN t).take j) ∧ Below w.heap.size w wr ∧ 0 < b ∧ b ≤ 4611686018427387904 ∧ Hid (diagL t (n - j) (j + 1) b = (diagN t).drop j)) (fun _ _ x _ => n + 1 - (intOf x).toNat)
  case atStart => exact ⟨0, 1, Nat.zero_le _, rfl, rfl, OInts.empty w _ (Nat.le_refl _), (Below.refl _ _).alloc (Nat.le_refl _) _, by omega, by omega, HD.out⟩
  case round =>
    obtain ⟨j, b, hj, rfl, rfl, hown, hbl, hb1, hb2, hd⟩ := hrel
    obtain ⟨ao5, cap5, e5, _⟩ := hown.form
    subst e5
    by_cases hlt : j < n
    · have Hown := Lib.hid hown
      have Hbl := Lib.hid hbl
      clear hown hbl
      have hd' : diagL t (n - (j + 1) + 1) (j + 1) b = (diagN t).drop j := by rw [show n - (j + 1) + 1 = n - j by omega]; exact hd.out
      have hV := HV.out j hlt
      have hS := HS.out j hlt
      by_cases hz : minorsI t (j + 1) = 0
      · have HE := Lib.hid (diag_zero hd' hz)
        rw [hz] at hV
        clear hd hd' hz hS
        go_wp2_with (first | (go_at_call 69; refine (sMinorsOf_any _ _ _ t _ _ (H.out.keep Hbl.out)).mono ?_; rintro e w1 ⟨rfl, hb1⟩; have Hb1 := Lib.hid hb1; rw [hV]; clear hb1) | (at_builtin; refine wpList_push_one _ _ rfl _ _ rfl w.heap.size _ _ _ rfl (Hown.out.keep (Hb1.out.mono (Nat.le_refl _))) (by omega) (Nat.le_trans Hbl.out.size Hb1.out.size) _ rfl rfl ?_; intro v1 w3 ho1 hb3; have Ho1 := Lib.hid ho1; have Hb3 := Lib.hid hb3; clear ho1 hb3))
        go_roundw
        case rel =>
          have ho1 := Ho1.out
          rw [push_take HE.out.1] at ho1
          exact ⟨j + 1, b, hlt, rfl, by go_num, ho1, (Hbl.out.trans (Hb1.out.mono Hbl.out.size)).trans Hb3.out, by omega, by omega, HE.out.2⟩
        case measure => simp [intOf]; omega
      · have HE := Lib.hid (diag_step hd' hz)
        generalize hgg : minorsI t (j + 1) = g at *
        have hg1 : 0 < g := by omega
        have hg2 : g ≤ 4611686018427387904 := hS.2.2
        have hne : (g == 0) = false := by simp; omega
        have hne2 : (b == 0) = false := by simp; omega
        clear hd hd' hz hS
        go_wp2_with (first | (go_at_call 69; refine (sMinorsOf_any _ _ _ t _ _ (H.out.keep Hbl.out)).mono ?_; rintro e w1 ⟨rfl, hb1⟩; have Hb1 := Lib.hid hb1; rw [hV]; clear hb1) | (at_builtin; refine wpList_push_one _ _ rfl _ _ rfl w.heap.size _ _ _ rfl (Hown.out.keep (Hb1.out.mono (Nat.le_refl _))) (by omega) (Nat.le_trans Hbl.out.size Hb1.out.size) _ rfl rfl ?_; intro v1 w3 ho1 hb3; have Ho1 := Lib.hid ho1; have Hb3 := Lib.hid hb3; clear ho1 hb3))
        go_roundw
        case rel =>
          have ho1 := Ho1.out
          rw [show g / b = g.tdiv b from (Int.tdiv_eq_ediv_of_nonneg (by omega)).symm, push_take HE.out.1] at ho1
          exact ⟨j + 1, g, hlt, rfl, by go_num, ho1, (Hbl.out.trans (Hb1.out.mono Hbl.out.size)).trans Hb3.out, by omega, by omega, HE.out.2⟩
        case measure => simp [intOf]; omega
    · have e : j = n := by omega
      subst e
      rw [List.take_of_length_le (by rw [HN.out]; omega)] at hown
      have hown' : OInts wr w.heap.size (.slice ao5 j cap5) (diagV t).length (diagV t) := by rw [HG.out, HN.out]; exact hown
      have Hown := Lib.hid hown'
      have Hbl := Lib.hid hbl
      clear hown hown' hbl
      go_wp2_with fail
      go_ret2
      exact ⟨_, rfl, Hown.out, Hbl.out⟩
end Go.Proofs.YtbjoblgklcilpaaGreatDoor

namespace Go.Proofs.YtbjoblgklcilpaaGreatDoor
open Go.RowKit
set_option linter.all false
set_option maxHeartbeats 1600000 in
theorem sGroupOf_any (ao : Option Addr) (n cap : Nat) (m : List (List Int)) (w : World) (h : Intss w ao n m) :
    Calls Tryz.prog 15 #[.slice ao n cap] w fun e w' => ∃ v, e = .returned v ∧ OInts w' w.heap.size v (groupV m).length (groupV m) ∧ Below w.heap.size w w' := by
  have HL : Hid (m.length = n) := h.1
  have Hempty := Lib.hid (OInts.empty w w.heap.size (Nat.le_refl _))
  have Hbe : Hid (Below w.heap.size w (w.alloc (.cells #[] 3))) := (Below.refl _ _).alloc (Nat.le_refl _) _
  have H := Lib.hid (h.keep Hbe.out)
  clear h
  cases hs : isSmallM m
  · have hg : Hid (groupV m = []) := by show groupV m = _; simp [groupV, hs]
    go_enter Tryz.func15, Tryz.ntmps15
    go_wp2_with (first | (go_at_call 26; refine (sIsSmall_any _ _ _ m _ H.out).mono ?_; rintro e w' ⟨rfl, rfl⟩))
    go_ret
    rw [hg.out]
    exact ⟨_, rfl, Hempty.out, Hbe.out⟩
  have hsm := isSmallM_mat hs
  have HR := Lib.hid (isMat_rowsLen hsm.1 HL.out)
  have hn4 : n ≤ 4 := by have := HL.out; omega
  have HTL : Hid ((tabT m).length = n) := by show (tabT m).length = n; rw [tabT_len, HL.out]
  have HV : Hid (diagV (tabT m) = diagN (lessT 1 1 m)) := by show _ = _; rw [tab_less hs, diagV_less hs]
  have HG : Hid (groupV m = (diagN (lessT 1 1 m)).filter ne1) := by show _ = _; simp [groupV, hs]
  have hDL : (diagN (lessT 1 1 m)).length = n := by rw [diagN_len, lessT_len, HL.out]
  clear hsm
  generalize diagN (lessT 1 1 m) = L at *
  have HDL := Lib.hid hDL
  clear hDL
  go_enter Tryz.func15, Tryz.ntmps15
  go_wp2_with (first
    | (go_at_call 26; refine (sIsSmall_any _ _ _ m _ H.out).mono ?_; rintro e w' ⟨rfl, rfl⟩)
    | (go_at_call 47; refine (sL23Table_any _ _ _ m _ H.out HR.out (by omega)).mono ?_; rintro e w1 ⟨v1, rfl, ho1, hb1⟩; obtain ⟨ao1, cap1, rfl, hi1⟩ := ho1.form; have Hi1 := Lib.hid hi1; have Hb1 := Lib.hid hb1; clear ho1 hb1 hi1)
    | (go_at_call 46; refine (sDiagonalOf_any _ _ _ (tabT m) _ Hi1.out).mono ?_; rintro e w2 ⟨v2, rfl, ho2, hb2⟩; rw [HV.out, HDL.out] at ho2; obtain ⟨ao2, cap2, rfl, hi2⟩ := ho2.form; have Ho2 := Lib.hid ho2; have Hb2 := Lib.hid hb2; clear ho2 hb2 hi2))
  go_loopw [3, 6] (fun v x wr => ∃ (k : Nat) (ys : List Int), k ≤ n ∧ x = .int .i64 k ∧ ys.length ≤ k ∧ OInts wr w.heap.size v ys.length ys ∧ OInts wr w.heap.size (.slice ao2 n cap2) n L ∧ Apart (.slice ao2 n cap2) v ∧ Hid (ys ++ (L.drop k).filter ne1 = L.filter ne1) ∧ Below w.heap.size w wr) (fun _ x _ => n - (intOf x).toNat)
  case atStart =>
    have hb12 := step2 Hb1.out Hb2.out
    refine ⟨0, [], Nat.zero_le _, rfl, Nat.le_refl _, Hempty.out.keep hb12, Ho2.out.mono (Nat.le_trans Hbe.out.size Hb1.out.size), ?_, rfl, step2 Hbe.out hb12⟩
    intro b hb e
    have h1 := (Ho2.out.ltAll b hb).1
    have h2 := (Hempty.out.ltAll b e).2
    have := Hb1.out.size
    omega
  case round =>
    obtain ⟨k, ys, hk, rfl, hyk, hown, hL, hap, hr, hbl⟩ := hrel
    obtain ⟨ao5, cap5, e5, _⟩ := hown.form
    subst e5
    have Hown := Lib.hid hown
    have HLo := Lib.hid hL
    have Hap := Lib.hid hap
    have Hbl := Lib.hid hbl
    clear hown hL hap hbl
    by_cases hlt : k < n
    · obtain ⟨b, o, x, rfl, hcell, hget⟩ := (OInts.read HLo.out).at_ (k := k) hlt
      have Hst := Lib.hid (filter_push hget.out hr.out)
      clear hget hr
      by_cases he : x = 1
      · have he1 : (x != 1) = false := by simp [he]
        have HS := Lib.hid (Hst.out.1 he)
        clear he Hst
        go_wp2_with fail
        go_roundw
        case rel => exact ⟨k + 1, ys, hlt, by go_num, by omega, Hown.out, HLo.out, Hap.out, HS.out, Hbl.out⟩
        case measure => simp [intOf]; omega
      · have he1 : (x != 1) = true := by simp [he]
        have HS := Lib.hid (Hst.out.2 he)
        clear he Hst
        go_wp2_with (first | (at_builtin; refine wpList_push_at _ _ rfl _ _ rfl w.heap.size _ _ _ rfl Hown.out (by omega) Hbl.out.size _ rfl rfl ?_; intro v1 w3 ho1 hg3 hn3; have Ho1 := Lib.hid ho1; have Hg3 := Lib.hid hg3; have Hn3 := Lib.hid hn3; clear ho1 hg3 hn3))
        go_roundw
        case rel =>
          refine ⟨k + 1, ys ++ [x], hlt, by go_num, by simp; omega, by simpa using Ho1.out, HLo.out.far Hg3.out Hap.out, Hn3.out.apart Hap.out (fun b hb => (HLo.out.ltAll b hb).2), HS.out, Hbl.out.grown Hg3.out Hbl.out.size (fun b hb => (Hown.out.ltAll b hb).1)⟩
        case measure => simp [intOf]; omega
    · have e : k = n := by omega
      have HE : Hid (ys = groupV m) := by
        show ys = _
        have := hr.out
        rw [drop_all L k (by rw [HDL.out]; omega)] at this
        rw [HG.out, ← this]; simp
      clear hr
      go_wp2_with fail
      go_ret
      rw [← HE.out]
      exact ⟨_, rfl, Hown.out, Hbl.out⟩
end Go.Proofs.YtbjoblgklcilpaaGreatDoor

namespace Go.Proofs.YtbjoblgklcilpaaGreatDoor
open Go.RowKit
set_option linter.all false
set_option maxRecDepth 20000 in
set_option maxHeartbeats 3200000 in
theorem iPicked_any (p : Option Addr) (n c : Nat) (t : List (List Int)) (p1 : Option Addr) (n1 c1 : Nat) (rs : List Int) (m : Nat) (w : World)
    (h : Intss w p n t) (h1 : Ints w p1 n1 rs) (hr : RowsLen t m) (hi1 : Idx n rs) (hi2 : Idx m rs) (hn1 : n1 ≤ 1048576) :
    Calls Tryz.prog 99 #[.slice p n c, .slice p1 n1 c1] w fun e w' => ∃ v, e = .returned v ∧ OIntss w' w.heap.size v n1 (someT t rs rs) ∧ Below w.heap.size w w' := by
  have H := Lib.hid h
  have H1 := Lib.hid h1
  have HR := Lib.hid hr
  have HI1 := Lib.hid hi1
  have HI2 := Lib.hid hi2
  have HL1 : Hid (rs.length = n1) := h1.1
  clear h h1 hr hi1 hi2
  go_enter Tryz.func99, Tryz.ntmps99
  go_wp2_with fail
  go_loopw [5, 14] (fun v i wr => ∃ k : Nat, k ≤ n1 ∧ i = .int .i64 k ∧ OIntss wr w.heap.size v k ((someT t rs rs).take k) ∧ Below w.heap.size w wr) (fun _ i _ => n1 - (intOf i).toNat)
  case atStart => exact ⟨0, Nat.zero_le _, rfl, OIntss.empty w _ (Nat.le_refl _), (Below.refl _ _).alloc (Nat.le_refl _) _⟩
  case round =>
    obtain ⟨i, hi, rfl, hown, hbl⟩ := hrel
    obtain ⟨wo, rfl⟩ : ∃ wo : World, wo = wr := ⟨_, rfl⟩
    by_cases hlt : i < n1
    · obtain ⟨b1, o1, x, rfl, hcx, hgx⟩ := H1.out.at_ (k := i) (by have := HL1.out; omega)
      obtain ⟨a, rfl, ha⟩ := HI1.out.get hgx.out
      obtain ⟨b0, o0, a0, c0, r, rfl, hcr, hrow, hgr⟩ := H.out.at_ ha
      have HRL : Hid (r.length = m) := HR.out _ _ hgr.out
      have HG := Lib.hid (someT_get (cs := rs) hgx.out hgr.out)
      have q0 := (hbl.cell (World.block_lt_of_cell? w _ hcx)).trans hcx
      have Hcr := Lib.hid hcr
      have Hrow := Lib.hid hrow
      have Hown := Lib.hid hown
      have Hbl := Lib.hid hbl
      clear hown hbl hcx hcr hrow
      go_wp2_with fail
      clear q0
      go_loopw [8, 21] (fun v' x wx => ∃ j : Nat, j ≤ n1 ∧ x = .int .i64 j ∧ OInts wx wo.heap.size v' j ((pickRow r rs).take j) ∧ Below wo.heap.size wo wx) (fun _ x _ => n1 - (intOf x).toNat)
      case atStart => exact ⟨0, Nat.zero_le _, rfl, OInts.empty wo _ (Nat.le_refl _), (Below.refl _ _).alloc (Nat.le_refl _) _⟩
      case round =>
        obtain ⟨j, hj, rfl, hline, hbx⟩ := hrel
        have hbw := Hbl.out.trans (hbx.mono Hbl.out.size)
        by_cases hjn : j < n1
        · obtain ⟨b3, o3, y, eb, hcy, hgy⟩ := H1.out.at_ (k := j) (by have := HL1.out; omega)
          injection eb with eb
          injection eb with eb1 eb2
          subst eb1
          subst eb2
          obtain ⟨e, rfl, he⟩ := HI2.out.get hgy.out
          obtain ⟨b4, o4, z, rfl, hcz, hgz⟩ := Hrow.out.at_ (k := e) (by have := HRL.out; omega)
          have HE := Lib.hid (pickRow_get hgy.out hgz.out)
          have er : e < r.length := by have := HRL.out; omega
          have q2 := (hbw.cell (World.block_lt_of_cell? w _ Hcr.out)).trans Hcr.out
          have q3 := (hbw.cell (World.block_lt_of_cell? w _ hcy)).trans hcy
          have q4 := (hbw.cell (World.block_lt_of_cell? w _ hcz)).trans hcz
          obtain ⟨ao5, cap5, e5, _⟩ := hline.form
          subst e5
          have Hline := Lib.hid hline
          have Hbx := Lib.hid hbx
          clear hline hbx hbw hcy hcz
          go_wp2_with (first | (at_builtin; refine wpList_push_one _ _ rfl _ _ rfl wo.heap.size _ _ _ rfl Hline.out (by omega) Hbx.out.size _ rfl rfl ?_; intro v1 w3 ho1 hb1; have Ho1 := Lib.hid ho1; have Hb3 := Lib.hid hb1; clear ho1 hb1))
          go_roundw
          case rel => exact ⟨j + 1, hjn, by go_num, by have ho1 := Ho1.out; rw [push_take HE.out] at ho1; exact ho1, Hbx.out.trans Hb3.out⟩
          case measure => (simp [intOf] <;> omega)
        · have hjn' : j = n1 := by omega
          subst hjn'
          rw [List.take_of_length_le (by rw [pickRow_len]; have := HL1.out; omega)] at hline
          obtain ⟨ao6, cap6, e6, _⟩ := hline.form
          subst e6
          have Hline := Lib.hid hline
          have Hbx := Lib.hid hbx
          clear hline hbx hbw
          go_wp2_with (first | (at_builtin; refine wpList_push_fresh _ _ wo rfl _ _ rfl w.heap.size _ i _ rfl Hown.out (by omega) Hbl.out.size Hbx.out _ _ Hline.out _ (by rfl) rfl ?_; intro v3 w3 ho3 hb3 _))
          go_roundw
          case rel =>
            rw [push_take HG.out] at ho3
            exact ⟨i + 1, hlt, by go_num, ho3, Hbl.out.trans hb3⟩
          case measure => (simp [intOf] <;> omega)
    · have e : i = n1 := by omega
      subst e
      rw [List.take_of_length_le (by rw [someT_len]; have := HL1.out; omega)] at hown
      have Hown := Lib.hid hown
      clear hown
      go_wp2_with fail
      go_ret
      exact ⟨_, rfl, Hown.out, hbl⟩
end Go.Proofs.YtbjoblgklcilpaaGreatDoor

namespace Go.Proofs.YtbjoblgklcilpaaGreatDoor
open Go.RowKit
set_option linter.all false
set_option maxRecDepth 20000 in
set_option maxHeartbeats 6400000 in
theorem sMin7_any (p : Option Addr) (n c : Nat) (t : List (List Int)) (k : Nat) (w : World) (h : Intss w p n t) (hr : RowsLen t n) (hn : n ≤ 4) (hk : k ≤ 4) :
    Calls Tryz.prog 91 #[.slice p n c, .int .i64 k] w fun e w' => e = .returned (.int .i64 (minTo t n k (2 ^ n))) ∧ Below w.heap.size w w' := by
  have h2n : 2 ^ n ≤ 16 := Nat.pow_le_pow_right (n := 2) (by omega) hn
  have H := Lib.hid h
  have HR := Lib.hid hr
  clear h hr
  go_enter Tryz.func91, Tryz.ntmps91
  go_wp2_with fail
  go_loopw [5, 6] (fun u x wr => ∃ (m : Nat) (s : Int), m ≤ 2 ^ n ∧ x = .int .i64 m ∧ u = .int .i64 s ∧ Hid (minTo t n k m = s) ∧ Below w.heap.size w wr) (fun _ x _ => 2 ^ n - (intOf x).toNat)
  case atStart => exact ⟨0, 0, Nat.zero_le _, rfl, rfl, rfl, Below.refl _ _⟩
  case round =>
    obtain ⟨m, s, hm, rfl, rfl, hs, hbl⟩ := hrel
    obtain ⟨wo, rfl⟩ : ∃ wo : World, wo = wr := ⟨_, rfl⟩
    have hp : wrap64 ((2 : Int) ^ n) = ((2 ^ n : Nat) : Int) := by
      have e : ((2 ^ n : Nat) : Int) = (2 : Int) ^ n := by simp
      rw [← e]; unfold wrap64; omega
    have Hbl := Lib.hid hbl
    clear hbl
    by_cases hlt : m < 2 ^ n
    · have hd : decide ((m : Int) < wrap64 (2 ^ n)) = true := by rw [hp]; simp only [decide_eq_true_eq]; omega
      clear hp
      go_wp2_with fail
      go_loopw [7, 8] (fun v' x wx => ∃ i : Nat, i ≤ n ∧ x = .int .i64 i ∧ OInts wx wo.heap.size v' (setTo m i).length (setTo m i) ∧ Below wo.heap.size wo wx) (fun _ x _ => n - (intOf x).toNat)
      case atStart => exact ⟨0, Nat.zero_le _, rfl, OInts.empty wo _ (Nat.le_refl _), (Below.refl _ _).alloc (Nat.le_refl _) _⟩
      case round =>
        obtain ⟨i, hi, rfl, hrow, hbx⟩ := hrel
        by_cases hin : i < n
        · have hil := setTo_len m i
          have hbb := bits_bit (m := m) (i := i) (by omega) (by omega)
          have Hrow := Lib.hid hrow
          have Hbx := Lib.hid hbx
          cases hb : bitOf m i
          · rw [hb] at hbb
            have E : Hid (setTo m (i + 1) = setTo m i) := setTo_no hb
            clear hrow hbx hb
            go_wp2_with fail
            go_roundw
            case rel => exact ⟨i + 1, hin, by go_num, by rw [E.out]; exact Hrow.out, Hbx.out⟩
            case measure => simp [intOf]; omega
          · rw [hb] at hbb
            have E : Hid (setTo m (i + 1) = setTo m i ++ [(i : Int)]) := setTo_yes hb
            clear hrow hbx hb
            go_wp2_with (first | (at_builtin; refine wpList_push_one _ _ rfl _ _ rfl wo.heap.size _ _ _ rfl Hrow.out (by omega) Hbx.out.size _ rfl rfl ?_; intro v1 w1 ho1 hb1))
            go_roundw
            case rel => exact ⟨i + 1, hin, by go_num, by rw [E.out, List.length_append]; exact ho1, Hbx.out.trans hb1⟩
            case measure => simp [intOf]; omega
        · have e : i = n := by omega
          subst e
          have hrl := setTo_len m i
          obtain ⟨ao, cap, e, hi2⟩ := hrow.form
          subst e
          have HI := Lib.hid hi2
          have Hbx := Lib.hid hbx
          clear hrow hbx hi2
          by_cases hlk : (setTo m i).length = k
          · have hk1 : (((setTo m i).length : Int) == (k : Int)) = true := by simp [hlk]
            have E := Lib.hid (minTo_yes (t := t) hlk)
            have HLK := Lib.hid hlk
            obtain ⟨z, hz⟩ : ∃ z, det k (someT t (setTo m i) (setTo m i)) = z := ⟨_, rfl⟩
            have HZ := Lib.hid hz
            rw [hz, hs.out] at E
            clear hlk hz
            go_wp2_with (first
              | (go_at_call 100; refine (sPart_any _ _ _ t _ _ _ (setTo m i) i _ (H.out.keep ((Hbl.out.mono (Nat.le_refl _)).trans (Hbx.out.mono Hbl.out.size))) HI.out HR.out (set_idx m i) (set_idx m i) (by omega)).mono ?_; rintro e w4 ⟨v4, rfl, ho4, hb4⟩; obtain ⟨ao4, cap4, rfl, hi4⟩ := ho4.form; have Hi4 := Lib.hid hi4; have Hb4 := Lib.hid (Hbx.out.trans (hb4.mono Hbx.out.size)); clear ho4 hb4 hi4)
              | (go_at_call 49; refine (sDet_any k _ _ _ (someT t (setTo m i) (setTo m i)) _ HLK.out (by omega) Hi4.out (by have h := someT_rowsLen t (setTo m i) (setTo m i); rw [HLK.out] at h; exact h)).mono ?_; rw [HZ.out]; rintro e w5 ⟨rfl, hb5⟩; have Hb5 := Lib.hid (Hb4.out.trans (hb5.mono Hb4.out.size)); clear hb5))
            go_roundw
            case rel => exact ⟨m + 1, _, hlt, by go_num, rfl, E.out, Hbl.out.trans (Hb5.out.mono Hbl.out.size)⟩
            case measure => simp [intOf]; omega
          · have hk1 : (((setTo m i).length : Int) == (k : Int)) = false := by simp; omega
            have E := Lib.hid (minTo_no (t := t) hlk)
            rw [hs.out] at E
            clear hlk
            go_wp2_with fail
            go_roundw
            case rel => exact ⟨m + 1, _, hlt, by go_num, rfl, E.out, Hbl.out.trans (Hbx.out.mono Hbl.out.size)⟩
            case measure => simp [intOf]; omega
    · have hd : decide ((m : Int) < wrap64 (2 ^ n)) = false := by rw [hp]; simp only [decide_eq_false_iff_not]; omega
      have e : m = 2 ^ n := by omega
      have HS : Hid (s = minTo t n k (2 ^ n)) := by show _ = _; rw [← e]; exact hs.out.symm
      clear hp e hs
      go_wp2_with fail
      go_ret
      exact ⟨ret_int HS.out, Hbl.out⟩
end Go.Proofs.YtbjoblgklcilpaaGreatDoor

namespace Go.Proofs.YtbjoblgklcilpaaGreatDoor
open Go.RowKit
set_option linter.all false
set_option maxRecDepth 20000 in
set_option maxHeartbeats 3200000 in
theorem sCut_any (p : Option Addr) (n c : Nat) (xs : List Int) (w : World) (h : Ints w p n xs) (hc : n ≤ c) (hn : n ≤ 1048576) :
    Calls Tryz.prog 92 #[.slice p n c] w fun e w' => ∃ v, e = .returned v ∧ OInts w' w.heap.size v (cutZ xs).length (cutZ xs) ∧ Below w.heap.size w w' := by
  have HL : Hid (xs.length = n) := h.1
  have H := Lib.hid h
  have Hem := Lib.hid (OInts.empty w w.heap.size (Nat.le_refl _))
  have Hb0 : Hid (Below w.heap.size w (w.alloc (.cells #[] 3))) := (Below.refl _ _).alloc (Nat.le_refl _) _
  clear h
  go_enter Tryz.func92, Tryz.ntmps92
  go_wp2_with fail
  go_loop [3] (fun x => ∃ k : Nat, k ≤ n ∧ x = .int .i64 k ∧ Hid (cutN xs k = cutN xs n)) (fun x => (intOf x).toNat)
  case atStart => exact ⟨n, Nat.le_refl _, rfl, rfl⟩
  case round =>
    obtain ⟨k, hk, rfl, hr⟩ := hrel
    have fin : ∀ j, j ≤ n → cutN xs n = j → cutZ xs = xs.take j := by intro j _ e; unfold cutZ; rw [HL.out, e]
    rcases k with _ | k
    · have HZ := Lib.hid (fin 0 (Nat.zero_le _) hr.out.symm)
      have hs := slice_to p n c 0 (by omega)
      have HT := Lib.hid (H.out.take (k := 0) (by omega))
      have hl0 : Hid ((cutZ xs).length = 0) := by show _ = _; rw [HZ.out]; simp
      clear hr fin
      go_wp2_with (first | (at_builtin; refine wpList_app_ints _ rfl _ _ rfl w.heap.size _ 0 [] rfl Hem.out p 0 _ (xs.take 0) rfl (HT.out.keep Hb0.out) (by omega) (by exact Hb0.out.size) ?_; intro v1 w1 ho1 hg1; have Ho1 := Lib.hid ho1; have Hb1 := Lib.hid (Hb0.out.grown hg1 Hb0.out.size (fun k hk => (Hem.out.ownlt k hk).1)); clear ho1 hg1))
      go_ret
      rw [hl0.out, HZ.out]
      exact ⟨_, rfl, by have h := Ho1.out; simpa using h, Hb1.out⟩
    · obtain ⟨b, o, x, rfl, hcx, hx⟩ := H.out.at_ (k := k) (by omega)
      have HST := Lib.hid (cutN_zero hx.out hr.out)
      have hcast : ((k + 1 : Nat) : Int) = (k : Int) + 1 := by omega
      clear hx hr
      by_cases h0 : x = 0
      · have HN := Lib.hid (HST.out.1 h0)
        have h1 : (x == 0) = true := by simp [h0]
        clear HST h0 fin
        rw [hcast]
        clear hcast
        go_wp2_with fail
        go_round
        case rel => exact ⟨k, by omega, by go_num, HN.out⟩
        case measure => (simp [intOf] <;> omega)
      · have HN := Lib.hid (HST.out.2 h0)
        have h1 : (x == 0) = false := by simp [h0]
        have HZ := Lib.hid (fin (k + 1) hk HN.out.symm)
        have hs := slice_to (some ⟨b, o, none⟩) n c (k + 1) (by omega)
        have HT := Lib.hid (H.out.take (k := k + 1) hk)
        have hl : (xs.take (k + 1)).length = k + 1 := by rw [List.length_take, HL.out]; omega
        have HLL : Hid ((cutZ xs).length = k + 1) := by show _ = _; rw [HZ.out, hl]
        clear HST h0 fin hl HN
        rw [hcast]
        rw [hcast] at hs
        clear hcast
        go_wp2_with (first | (at_builtin; refine wpList_app_ints _ rfl _ _ rfl w.heap.size _ 0 [] rfl Hem.out (some ⟨b, o, none⟩) (k + 1) _ (xs.take (k + 1)) rfl (HT.out.keep Hb0.out) (by omega) (by exact Hb0.out.size) ?_; intro v1 w1 ho1 hg1; have Ho1 := Lib.hid ho1; have Hb1 := Lib.hid (Hb0.out.grown hg1 Hb0.out.size (fun k hk => (Hem.out.ownlt k hk).1)); clear ho1 hg1))
        go_ret
        rw [HLL.out, HZ.out]
        exact ⟨_, rfl, by have h := Ho1.out; simpa using h, Hb1.out⟩
end Go.Proofs.YtbjoblgklcilpaaGreatDoor

namespace Go.Proofs.YtbjoblgklcilpaaGreatDoor
open Go.RowKit
set_option linter.all false
set_option maxRecDepth 20000 in
set_option maxHeartbeats 3200000 in
theorem sTurned_any (p : Option Addr) (n c : Nat) (m : List (List Int)) (w : World) (h : Intss w p n m) :
    Calls Tryz.prog 75 #[.slice p n c] w fun e w' => ∃ v, e = .returned v ∧ OInts w' w.heap.size v (turnedP m).length (turnedP m) ∧ Below w.heap.size w w' := by
  have HL : Hid (m.length = n) := h.1
  have Hem := Lib.hid (OInts.empty w w.heap.size (Nat.le_refl _))
  have Hb0 : Hid (Below w.heap.size w (w.alloc (.cells #[] 3))) := (Below.refl _ _).alloc (Nat.le_refl _) _
  have H := Lib.hid h
  clear h
  cases hs : isSmallM m
  · have hg : Hid (turnedP m = []) := by show _ = _; simp [turnedP, hs]
    rw [hg.out]
    go_enter Tryz.func75, Tryz.ntmps75
    go_wp2_with (first | (go_at_call 26; refine (sIsSmall_any _ _ _ m _ H.out).mono ?_; rintro e w' ⟨rfl, rfl⟩))
    go_ret
    exact ⟨_, rfl, Hem.out, Hb0.out⟩
  have hsm := isSmallM_mat hs
  have HR := Lib.hid (isMat_rowsLen hsm.1 HL.out)
  have hn4 : n ≤ 4 := by have := HL.out; omega
  have HG : Hid (turnedP m = cutZ (polyL m)) := by show _ = _; simp [turnedP, hs]
  have HPL : Hid ((polyL m).length = n + 1) := by show _ = _; rw [polyL_len, HL.out]
  have HS := Lib.hid hs
  rw [HG.out]
  clear hsm hs
  go_enter Tryz.func75, Tryz.ntmps75
  go_wp2_with (first | (go_at_call 26; refine (sIsSmall_any _ _ _ m _ H.out).mono ?_; rw [HS.out]; rintro e w' ⟨rfl, rfl⟩))
  go_loopw [3, 4, 5] (fun v s x wr => ∃ (k : Nat) (g : Int), k ≤ n + 1 ∧ x = .int .i64 k ∧ s = .int .i64 g ∧ -1 ≤ g ∧ g ≤ 1 ∧ Hid (sg k = g) ∧ OInts wr w.heap.size v k ((polyL m).take k) ∧ Below w.heap.size w wr) (fun _ _ x _ => n + 1 - (intOf x).toNat)
  case atStart => exact ⟨0, 1, Nat.zero_le _, rfl, rfl, by omega, by omega, rfl, by simpa using Hem.out, Hb0.out⟩
  case round =>
    obtain ⟨k, g, hk, rfl, rfl, hg1, hg2, hg, hown, hbl⟩ := hrel
    obtain ⟨ao5, cap5, rfl, hi5⟩ := hown.form
    have hcap := hown.capLe rfl
    have Hown := Lib.hid hown
    have Hbl := Lib.hid hbl
    clear hown hbl
    by_cases hlt : k < n + 1
    · have hle : k ≤ n := by omega
      have hd : decide ((k : Int) ≤ (n : Int)) = true := decide_eq_true (by omega)
      have hgx := polyL_get (t := m) (k := k) (by rw [HL.out]; exact hlt)
      have HP : Hid ((polyL m)[k]? = some (wrap64 (g * minTo m n k (2 ^ n)))) := by show _ = _; rw [hgx, HL.out]; unfold pE; rw [hg.out]
      have HSG : Hid (sg (k + 1) = -g) := by show _ = _; rw [sg_next, hg.out]
      obtain ⟨z, hz⟩ : ∃ z, minTo m n k (2 ^ n) = z := ⟨_, rfl⟩
      have HZ := Lib.hid hz
      rw [hz] at HP
      clear hgx hg hz hi5
      go_wp2_with (first
        | (go_at_call 91; refine (sMin7_any _ _ _ m k _ (H.out.keep (Hbl.out.mono (Nat.le_refl _))) HR.out hn4 (by omega)).mono ?_; rw [HZ.out]; rintro e w3 ⟨rfl, hb3⟩; have Hb3 := Lib.hid (Hbl.out.trans (hb3.mono Hbl.out.size)); have HO3 := Lib.hid (Hown.out.keep hb3); clear hb3)
        | (at_builtin; refine wpList_push_one _ _ rfl _ _ rfl w.heap.size _ _ _ rfl HO3.out (by omega) Hb3.out.size _ rfl rfl ?_; intro v1 w4 ho1 hb4; have Ho1 := Lib.hid ho1; have Hb4 := Lib.hid hb4; clear ho1 hb4))
      go_roundw
      case rel => exact ⟨k + 1, -g, hlt, by go_num, rfl, by omega, by omega, HSG.out, by have h := Ho1.out; rw [push_take HP.out] at h; exact h, Hb3.out.trans Hb4.out⟩
      case measure => simp [intOf]; omega
    · have e : k = n + 1 := by omega
      have hd : decide ((k : Int) ≤ (n : Int)) = false := decide_eq_false (by omega)
      subst e
      have HI : Hid (Ints wr ao5 (n + 1) (polyL m)) := by
        have h := hi5
        rw [List.take_of_length_le (by rw [HPL.out]; omega)] at h
        exact h
      clear hi5 Hown
      go_wp2_with (first
        | (go_at_call 92; refine (sCut_any _ _ _ (polyL m) _ HI.out hcap (by omega)).mono ?_; rintro e w5 ⟨v5, rfl, ho5, hb5⟩; have HO5 := Lib.hid ho5; have HB5 := Lib.hid (step2 Hbl.out hb5); clear ho5 hb5))
      go_ret
      exact ⟨_, rfl, HO5.out.mono Hbl.out.size, HB5.out⟩
end Go.Proofs.YtbjoblgklcilpaaGreatDoor

namespace Go.Proofs.YtbjoblgklcilpaaGreatDoor
open Go.RowKit
set_option linter.all false
set_option maxRecDepth 20000 in
set_option maxHeartbeats 1600000 in
theorem sSameZ_any (p : Option Addr) (n c : Nat) (a : List (List Int)) (p' : Option Addr) (n' c' : Nat) (b : List (List Int)) (w : World) (h : Intss w p n a) (h' : Intss w p' n' b) :
    Calls Tryz.prog 52 #[.slice p n c, .slice p' n' c'] w fun e w' => e = .returned (.bool (sameZ a b)) ∧ Below w.heap.size w w' := by
  have HA := Lib.hid h
  have HB := Lib.hid h'
  clear h h'
  cases h1 : isSmallM a
  · have hg : Hid (sameZ a b = false) := by show _ = _; simp [sameZ, h1]
    have H1 := Lib.hid h1
    clear h1
    go_enter Tryz.func52, Tryz.ntmps52
    go_wp2_with (go_at_call 26; refine (sIsSmall_any _ _ _ a _ HA.out).mono ?_; rw [H1.out]; rintro e w' ⟨rfl, rfl⟩)
    go_ret
    exact ⟨ret_bool hg.out.symm, Below.refl _ _⟩
  cases h2 : isSmallM b
  · have hg : Hid (sameZ a b = false) := by show _ = _; simp [sameZ, h2]
    have H1 := Lib.hid h1
    have H2 := Lib.hid h2
    clear h1 h2
    go_enter Tryz.func52, Tryz.ntmps52
    go_wp2_with fail
    refine (sIsSmall_any _ _ _ a _ HA.out).mono ?_
    rw [H1.out]
    rintro e w' ⟨rfl, rfl⟩
    go_wp2_with fail
    refine (sIsSmall_any _ _ _ b _ HB.out).mono ?_
    rw [H2.out]
    rintro e w' ⟨rfl, rfl⟩
    go_wp2_with fail
    go_ret
    exact ⟨ret_bool hg.out.symm, Below.refl _ _⟩
  have hg : Hid (sameZ a b = eqL (turnedP a) (turnedP b)) := by show _ = _; simp [sameZ, h1, h2]
  have H1 := Lib.hid h1
  have H2 := Lib.hid h2
  clear h1 h2
  go_enter Tryz.func52, Tryz.ntmps52
  go_wp2_with fail
  refine (sIsSmall_any _ _ _ a _ HA.out).mono ?_
  rw [H1.out]
  rintro e w' ⟨rfl, rfl⟩
  go_wp2_with fail
  refine (sIsSmall_any _ _ _ b _ HB.out).mono ?_
  rw [H2.out]
  rintro e w' ⟨rfl, rfl⟩
  go_wp2_with fail
  refine (sTurned_any _ _ _ a _ HA.out).mono ?_
  rintro e w1 ⟨v1, rfl, ho1, hb1⟩
  obtain ⟨a1, c1, rfl, hi1⟩ := ho1.form
  have hc1 := ho1.capLe rfl
  have HI1 := Lib.hid hi1
  have HB1 := Lib.hid hb1
  clear ho1 hi1 hb1
  go_wp2_with fail
  refine (sTurned_any _ _ _ b _ (HB.out.keep HB1.out)).mono ?_
  rintro e w2 ⟨v2, rfl, ho2, hb2⟩
  obtain ⟨a2, c2, rfl, hi2⟩ := ho2.form
  have HI2 := Lib.hid hi2
  have HB2 := Lib.hid hb2
  clear ho2 hi2 hb2
  go_wp2_with fail
  refine (l4SameRow_any _ _ _ (turnedP a) _ _ _ (turnedP b) _ (HI1.out.keep HB2.out) HI2.out).mono ?_
  rintro e w3 ⟨rfl, hd3⟩
  have HB3 := Lib.hid ((step2 HB1.out HB2.out).trans (hd3.below _))
  clear hd3
  go_wp2_with fail
  go_ret
  exact ⟨ret_bool hg.out.symm, HB3.out⟩
end Go.Proofs.YtbjoblgklcilpaaGreatDoor
