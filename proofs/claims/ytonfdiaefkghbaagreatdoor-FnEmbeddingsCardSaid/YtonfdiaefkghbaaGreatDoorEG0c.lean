/- Parts of the proof of a law, joined: OrbT Rooted FRmath FRlist EmbT PathT ArcLit SArcs5 SFillP SFill SFillS SL4One SSumOf SIsGraph SArcsOf STexts IMoeb ITrace ITimes IIsMatrix IMulM IZeros IUnit IPowM IClosed ILeastP IOrb IFG IFits2 SMoeb STrace IIsSmall IFirstN ILess. -/
import Derived.Test.YtonfdiaefkghbaaGreatDoorProg
import Derived.BigQuiet
import Derived.Test.YtonfdiaefkghbaaGreatDoorEG0b
import Derived.Test.YtonfdiaefkghbaaGreatDoorEG0a
namespace Go.Proofs.YtonfdiaefkghbaaGreatDoor
open Go.RowKit
set_option linter.all false
def mulM (a b : List (List Int)) : Option (List (List Int)) := if isMat a && (isMat b && (decide (a.length = b.length) && isMat (mulT a b b.length))) then some (mulT a b b.length) else none
theorem mulM_none1 {a b : List (List Int)} (h : isMat a = false) : mulM a b = none := by simp [mulM, h]
theorem mulM_none2 {a b : List (List Int)} (h : isMat b = false) : mulM a b = none := by simp [mulM, h]
theorem mulM_none3 {a b : List (List Int)} (h : a.length ≠ b.length) : mulM a b = none := by simp [mulM, h]
theorem mulM_none4 {a b : List (List Int)} (h : isMat (mulT a b b.length) = false) : mulM a b = none := by simp [mulM, h]
theorem mulM_some {a b : List (List Int)} (h1 : isMat a = true) (h2 : isMat b = true) (h3 : a.length = b.length) (h4 : isMat (mulT a b b.length) = true) : mulM a b = some (mulT a b b.length) := by
  unfold mulM; rw [h1, h2, h4]; simp [h3]
theorem mulM_mat {a b c : List (List Int)} (h : mulM a b = some c) : isMat c = true ∧ c.length = b.length := by
  unfold mulM at h
  split at h
  · rename_i h1
    injection h with h
    subst h
    simp only [Bool.and_eq_true, decide_eq_true_eq] at h1
    exact ⟨h1.2.2.2, by rw [mulT_len]; exact h1.2.2.1⟩
  · cases h
end Go.Proofs.YtonfdiaefkghbaaGreatDoor

namespace Go.Proofs.YtonfdiaefkghbaaGreatDoor
open Go.RowKit
set_option linter.all false
def iterM (m : List (List Int)) : Nat → List (List Int) → Option (List (List Int))
  | 0, acc => some acc
  | k + 1, acc => match mulM acc m with
    | none => none
    | some p => iterM m k p
def powM (m : List (List Int)) (n : Int) : Option (List (List Int)) := if isMat m && inR n 0 30 then iterM m n.toNat (oneT m.length) else none
theorem iterM_none {m acc : List (List Int)} {k : Nat} (h : mulM acc m = none) : iterM m (k + 1) acc = none := by simp [iterM, h]
theorem iterM_some {m acc p : List (List Int)} {k : Nat} (h : mulM acc m = some p) : iterM m (k + 1) acc = iterM m k p := by simp [iterM, h]
theorem powM_none1 {m : List (List Int)} {n : Int} (h : isMat m = false) : powM m n = none := by simp [powM, h]
theorem powM_none2 {m : List (List Int)} {n : Int} (h : inR n 0 30 = false) : powM m n = none := by simp [powM, h]
theorem powM_iter {m : List (List Int)} {n : Int} (h1 : isMat m = true) (h2 : inR n 0 30 = true) : powM m n = iterM m n.toNat (oneT m.length) := by simp [powM, h1, h2]
theorem oneT_mat {n : Nat} (h1 : 1 ≤ n) (h9 : n ≤ 9) : isMat (oneT n) = true := by
  have h : inR (oneT n).length 1 9 = true := inR_mk (by rw [oneT_len]; omega)
  unfold isMat
  rw [h, Bool.and_true, oneT_len]
  simp only [tabIn, oneT, List.all_map, List.all_eq_true, List.mem_range]
  intro i _
  simp only [Function.comp, oneRow_len, decide_true, Bool.true_and, allIn, List.all_eq_true]
  intro x hx
  rcases List.mem_or_eq_of_mem_set hx with hx | hx
  · have := List.eq_of_mem_replicate hx
    subst this
    decide
  · subst hx
    decide
theorem iterM_mat {m : List (List Int)} : ∀ (k : Nat) (acc p : List (List Int)), isMat acc = true → acc.length = m.length → iterM m k acc = some p → isMat p = true ∧ p.length = m.length
  | 0, acc, p, h1, h2, h => by
    injection h with h
    subst h
    exact ⟨h1, h2⟩
  | k + 1, acc, p, _, _, h => by
    cases hq : mulM acc m with
    | none => rw [iterM_none hq] at h; cases h
    | some q =>
      rw [iterM_some hq] at h
      have := mulM_mat hq
      exact iterM_mat k q p this.1 this.2 h
theorem powM_mat {m p : List (List Int)} {n : Int} (h : powM m n = some p) : isMat m = true ∧ isMat p = true ∧ p.length = m.length := by
  cases h1 : isMat m with
  | false => rw [powM_none1 h1] at h; cases h
  | true =>
    cases h2 : inR n 0 30 with
    | false => rw [powM_none2 h2] at h; cases h
    | true =>
      rw [powM_iter h1 h2] at h
      have hl := isMat_len h1
      have := iterM_mat _ _ _ (oneT_mat hl.1 hl.2) (oneT_len _) h
      exact ⟨rfl, this⟩
end Go.Proofs.YtonfdiaefkghbaaGreatDoor

namespace Go.Proofs.YtonfdiaefkghbaaGreatDoor
open Go.RowKit
set_option linter.all false
def trc : Nat → Int → List (List Int) → Int
  | _, a, [] => a
  | k, a, r :: rs => trc (k + 1) (wrap64 (a + r.getD k 0)) rs
def closed (m : List (List Int)) (n : Int) : Int :=
  if inR n 1 30 then (match powM m n with
    | none => -1
    | some p => trc 0 0 p) else -1
theorem closed_n {m : List (List Int)} {n : Int} (h : inR n 1 30 = false) : closed m n = -1 := by simp [closed, h]
theorem closed_none {m : List (List Int)} {n : Int} (h : powM m n = none) : closed m n = -1 := by simp [closed, h]
theorem closed_some {m p : List (List Int)} {n : Int} (h1 : inR n 1 30 = true) (h : powM m n = some p) : closed m n = trc 0 0 p := by simp [closed, h, h1]
theorem trc_step {p : List (List Int)} {k : Nat} {a R x : Int} {r : List Int} (hk : p[k]? = some r) (hx : r[k]? = some x) (h : trc k a (p.drop k) = R) : trc (k + 1) (wrap64 (a + x)) (p.drop (k + 1)) = R := by
  rw [drop_of_get hk] at h
  simpa [trc, List.getD, hx] using h
end Go.Proofs.YtonfdiaefkghbaaGreatDoor

namespace Go.Proofs.YtonfdiaefkghbaaGreatDoor
open Go.RowKit
set_option linter.all false
def mb : Nat → Nat → Nat → Int → Int
  | 0, _, _, o => o
  | f + 1, n, p, o => if p ≤ n then (if n % p = 0 then (if n / p % p = 0 then 0 else mb f (n / p) (p + 1) (-o)) else mb f n (p + 1) o) else o
def moeb (n : Int) : Int := if inR n 1 1000 then mb 999 n.toNat 2 1 else 0
theorem mb_stop {f n p : Nat} {o : Int} (h : n < p) : mb f n p o = o := by
  cases f with
  | zero => rfl
  | succ f => simp [mb, show ¬ p ≤ n by omega]
theorem mb_step {n p : Nat} {o M : Int} (hn : n ≤ 1000) (hp : p ≤ n) (h : Hid (mb (1001 - p) n p o = M)) :
    (n % p ≠ 0 → Hid (mb (1001 - (p + 1)) n (p + 1) o = M)) ∧ (n % p = 0 → n / p % p = 0 → M = 0) ∧ (n % p = 0 → n / p % p ≠ 0 → Hid (mb (1001 - (p + 1)) (n / p) (p + 1) (-o) = M)) := by
  have e : 1001 - p = (1001 - (p + 1)) + 1 := by omega
  have h := h.out
  rw [e] at h
  simp only [mb, if_pos hp] at h
  refine ⟨fun h1 => ?_, fun h1 h2 => ?_, fun h1 h2 => ?_⟩
  · rw [if_neg h1] at h; exact h
  · rw [if_pos h1, if_pos h2] at h; exact h.symm
  · rw [if_pos h1, if_neg h2] at h; exact h
theorem modI (n p : Nat) : (n : Int) % (p : Int) = ((n % p : Nat) : Int) := by simp
theorem divmodI (n p : Nat) : (n : Int) / (p : Int) % (p : Int) = ((n / p % p : Nat) : Int) := by simp
theorem natz (k : Nat) : (((k : Nat) : Int) == 0) = decide (k = 0) := by
  by_cases h : k = 0
  · subst h; rfl
  · simp [h]
theorem modI_z {n p : Nat} (h : n % p = 0) : ((n : Int) % (p : Int) != 0) = false := by rw [modI, bne, natz, h]; rfl
theorem modI_nz {n p : Nat} (h : n % p ≠ 0) : ((n : Int) % (p : Int) != 0) = true := by rw [modI, bne, natz, decide_eq_false h]; rfl
theorem modE_z {n p : Nat} (h : n % p = 0) : ((n : Int) % (p : Int) == 0) = true := by rw [modI, natz, h]; rfl
theorem modE_nz {n p : Nat} (h : n % p ≠ 0) : ((n : Int) % (p : Int) == 0) = false := by rw [modI, natz, decide_eq_false h]
theorem divmodI_z {n p : Nat} (h : n / p % p = 0) : ((n : Int) / (p : Int) % (p : Int) == 0) = true := by rw [divmodI, natz, h]; rfl
theorem divmodI_nz {n p : Nat} (h : n / p % p ≠ 0) : ((n : Int) / (p : Int) % (p : Int) == 0) = false := by rw [divmodI, natz, decide_eq_false h]
theorem divI (n p : Nat) : (n : Int) / (p : Int) = ((n / p : Nat) : Int) := by simp
theorem divI_bounds (n p : Nat) : 0 ≤ (n : Int) / (p : Int) ∧ (n : Int) / (p : Int) ≤ n := by
  rw [divI]
  exact ⟨Int.natCast_nonneg _, Int.ofNat_le.2 (Nat.div_le_self n p)⟩
end Go.Proofs.YtonfdiaefkghbaaGreatDoor

namespace Go.Proofs.YtonfdiaefkghbaaGreatDoor
open Go.RowKit
set_option linter.all false
def lpLoop (m : List (List Int)) (n : Nat) : Nat → Nat → Int → Int
  | 0, _, s => s
  | f + 1, d, s => lpLoop m n f (d + 1) (if n % d = 0 then wrap64 (s + wrap64 (moeb ((n : Int) / (d : Int)) * closed m d)) else s)
def lp (m : List (List Int)) (n : Int) : Int := if 12 < n then -1 else if closed m n < 0 then -1 else lpLoop m n.toNat n.toNat 1 0
theorem lp_step {m : List (List Int)} {n d : Nat} {s R : Int} (hd : d ≤ n) (h : Hid (lpLoop m n (n + 1 - d) d s = R)) :
    (n % d = 0 → Hid (lpLoop m n (n + 1 - (d + 1)) (d + 1) (wrap64 (s + wrap64 (moeb ((n : Int) / (d : Int)) * closed m d))) = R)) ∧ (n % d ≠ 0 → Hid (lpLoop m n (n + 1 - (d + 1)) (d + 1) s = R)) := by
  have h := h.out
  rw [show n + 1 - d = (n + 1 - (d + 1)) + 1 by omega] at h
  simp only [lpLoop] at h
  constructor
  · intro e; rw [if_pos e] at h; exact h
  · intro e; rw [if_neg e] at h; exact h
theorem closed_range {m : List (List Int)} {n : Int} (h : ¬ closed m n < 0) : 1 ≤ n ∧ n ≤ 30 := by
  cases h1 : inR n 1 30
  · rw [closed_n h1] at h; omega
  · exact inR_true h1
end Go.Proofs.YtonfdiaefkghbaaGreatDoor

namespace Go.Proofs.YtonfdiaefkghbaaGreatDoor
open Go.RowKit
set_option linter.all false
def orbL (m : List (List Int)) : Nat → Nat → List Int → List Int
  | 0, _, acc => acc
  | c + 1, k, acc => if lp m k < 0 then [] else orbL m c (k + 1) (acc ++ [lp m k])
def orbV (m : List (List Int)) (n : Int) : List Int := if inR n 1 10 then orbL m n.toNat 1 [] else []
theorem orbL_len (m : List (List Int)) : ∀ (c k : Nat) (acc : List Int), orbL m c k acc = [] ∨ (orbL m c k acc).length = acc.length + c
  | 0, _, acc => .inr rfl
  | c + 1, k, acc => by
    unfold orbL
    split
    · exact .inl rfl
    · rcases orbL_len m c (k + 1) (acc ++ [lp m k]) with h | h
      · exact .inl h
      · right; rw [h]; simp; omega
theorem orbV_len (m : List (List Int)) (n : Int) : orbV m n = [] ∨ (orbV m n).length = n.toNat := by
  unfold orbV
  split
  · have := orbL_len m n.toNat 1 []
    simpa using this
  · exact .inl rfl
theorem orb_step {m : List (List Int)} {n k : Nat} {ys R : List Int} (hk : k ≤ n) (h : Hid (orbL m (n + 1 - k) k ys = R)) : (lp m k < 0 → R = []) ∧ (¬ lp m k < 0 → Hid (orbL m (n + 1 - (k + 1)) (k + 1) (ys ++ [lp m k]) = R)) := by
  have h := h.out
  rw [show n + 1 - k = (n + 1 - (k + 1)) + 1 by omega] at h
  simp only [orbL] at h
  constructor
  · intro e; rw [if_pos e] at h; exact h.symm
  · intro e; rw [if_neg e] at h; exact h
def fitL : List Int → List Int → Bool
  | x :: xs, y :: ys => if y < x then false else fitL xs ys
  | _, _ => true
def fits (a b : List (List Int)) (n : Int) : Bool := fitL (orbV a n) (orbV b n) && (decide (0 < (orbV a n).length) && decide (0 < (orbV b n).length))
theorem fitL_step {xs ys : List Int} {k : Nat} {x y : Int} {R : Bool} (hx : xs[k]? = some x) (hy : ys[k]? = some y) (h : fitL (xs.drop k) (ys.drop k) = R) : (y < x → R = false) ∧ (¬ y < x → fitL (xs.drop (k + 1)) (ys.drop (k + 1)) = R) := by
  rw [drop_of_get hx, drop_of_get hy] at h
  simp only [fitL] at h
  constructor
  · intro e; rw [if_pos e] at h; exact h.symm
  · intro e; rw [if_neg e] at h; exact h
theorem fitL_end {xs ys : List Int} {k : Nat} {R : Bool} (hk : xs.length ≤ k ∨ ys.length ≤ k) (h : fitL (xs.drop k) (ys.drop k) = R) : R = true := by
  rcases hk with hk | hk
  · rw [drop_all xs k hk] at h; simpa [fitL] using h.symm
  · rw [drop_all ys k hk] at h
    cases hx : xs.drop k <;> rw [hx] at h <;> simpa [fitL] using h.symm
def fgI : Nat → List Int → List Int → Int
  | k, x :: xs, y :: ys => if y < x then (k : Int) else fgI (k + 1) xs ys
  | _, _, _ => -1
theorem fgI_neg : ∀ (xs ys : List Int) (k : Nat), decide (fgI k xs ys < 0) = fitL xs ys
  | [], ys, k => by cases ys <;> rfl
  | x :: xs, [], k => rfl
  | x :: xs, y :: ys, k => by
    unfold fgI fitL
    split
    · have : ¬ ((k : Int) < 0) := by omega
      simp [this]
    · exact fgI_neg xs ys (k + 1)
theorem fgI_step {xs ys : List Int} {k : Nat} {x y R : Int} (hx : xs[k]? = some x) (hy : ys[k]? = some y) (h : fgI k (xs.drop k) (ys.drop k) = R) : (y < x → R = (k : Int)) ∧ (¬ y < x → fgI (k + 1) (xs.drop (k + 1)) (ys.drop (k + 1)) = R) := by
  rw [drop_of_get hx, drop_of_get hy] at h
  simp only [fgI] at h
  constructor
  · intro e; rw [if_pos e] at h; exact h.symm
  · intro e; rw [if_neg e] at h; exact h
theorem fgI_end {xs ys : List Int} {k : Nat} {R : Int} (hk : xs.length ≤ k) (h : fgI k (xs.drop k) (ys.drop k) = R) : R = -1 := by
  rw [drop_all xs k hk] at h
  simpa [fgI] using h.symm
end Go.Proofs.YtonfdiaefkghbaaGreatDoor

namespace Go.Proofs.YtonfdiaefkghbaaGreatDoor
open Go.RowKit
set_option linter.all false
/-- The paths of a length from a vertex to itself. -/
def rooted (m : List (List Int)) (i n : Int) : Int :=
  if isMat m && (inR i 0 (m.length - 1) && inR n 1 30) then (match powM m n with
    | none => -1
    | some p => (p.getD i.toNat []).getD i.toNat 0) else -1
theorem rooted_mat {m : List (List Int)} {i n : Int} (h : isMat m = false) : rooted m i n = -1 := by simp [rooted, h]
theorem rooted_i {m : List (List Int)} {i n : Int} (h : inR i 0 (m.length - 1) = false) : rooted m i n = -1 := by simp [rooted, h]
theorem rooted_n {m : List (List Int)} {i n : Int} (h : inR n 1 30 = false) : rooted m i n = -1 := by simp [rooted, h]
theorem rooted_none {m : List (List Int)} {i n : Int} (h : powM m n = none) : rooted m i n = -1 := by simp [rooted, h]
theorem rooted_some {m p r : List (List Int)} {i : Nat} {n x : Int} {q : List Int} (h1 : isMat m = true) (h2 : inR (i : Int) 0 (m.length - 1) = true) (h3 : inR n 1 30 = true) (h : powM m n = some p) (hq : p[i]? = some q) (hx : q[i]? = some x) : rooted m i n = x := by
  simp [rooted, h1, h2, h3, h, List.getD, hq, hx]
end Go.Proofs.YtonfdiaefkghbaaGreatDoor

namespace Go.Proofs.YtonfdiaefkghbaaGreatDoor
open Go.RowKit
set_option linter.all false
def Sm : Nat → (Nat → Int) → Int
  | 0, _ => 0
  | n + 1, f => Sm n f + f n
theorem Sm_congr : ∀ (n : Nat) (f g : Nat → Int), (∀ j, j < n → f j = g j) → Sm n f = Sm n g
  | 0, _, _, _ => rfl
  | n + 1, f, g, h => by
    unfold Sm
    rw [Sm_congr n f g (fun j hj => h j (by omega)), h n (by omega)]
theorem Sm_add : ∀ (n : Nat) (f g : Nat → Int), Sm n (fun j => f j + g j) = Sm n f + Sm n g
  | 0, _, _ => rfl
  | n + 1, f, g => by
    unfold Sm
    rw [Sm_add n f g]
    dsimp only
    omega
theorem Sm_mul : ∀ (n : Nat) (c : Int) (f : Nat → Int), Sm n (fun j => c * f j) = c * Sm n f
  | 0, c, _ => by simp [Sm]
  | n + 1, c, f => by
    unfold Sm
    rw [Sm_mul n c f, Int.mul_add]
theorem Sm_zero : ∀ (n : Nat), Sm n (fun _ => 0) = 0
  | 0 => rfl
  | n + 1 => by unfold Sm; rw [Sm_zero n]; rfl
theorem Sm_comm : ∀ (n m : Nat) (f : Nat → Nat → Int), Sm n (fun j => Sm m (fun t => f j t)) = Sm m (fun t => Sm n (fun j => f j t))
  | 0, m, f => by simp only [Sm]; rw [Sm_zero]
  | n + 1, m, f => by
    show Sm n (fun j => Sm m (fun t => f j t)) + Sm m (fun t => f n t) = Sm m (fun t => Sm n (fun j => f j t) + f n t)
    rw [Sm_add, Sm_comm n m f]
theorem Sm_first : ∀ (n : Nat) (f : Nat → Int), Sm (n + 1) f = f 0 + Sm n (fun j => f (j + 1))
  | 0, f => by simp [Sm]
  | n + 1, f => by
    show Sm (n + 1) f + f (n + 1) = f 0 + (Sm n (fun j => f (j + 1)) + f (n + 1))
    rw [Sm_first n f]
    omega
theorem Sm_one : ∀ (n i : Nat) (g : Nat → Int), i < n → Sm n (fun j => (if j = i then 1 else 0) * g j) = g i
  | 0, i, g, h => by omega
  | n + 1, i, g, h => by
    unfold Sm
    by_cases e : n = i
    · subst e
      have : Sm n (fun j => (if j = n then 1 else 0) * g j) = Sm n (fun _ => 0) := Sm_congr n _ _ (fun j hj => by rw [if_neg (by omega)]; simp)
      rw [this, Sm_zero]
      dsimp only
      rw [if_pos rfl]
      omega
    · rw [Sm_one n i g (by omega)]
      dsimp only
      rw [if_neg e]
      omega
section
variable (N i : Nat) (A : Nat → Nat → Int)
/-- The row of i in the power k. -/
def TT : Nat → Nat → Int
  | 0, j => if j = i then 1 else 0
  | k + 1, l => Sm N (fun j => TT k j * A j l)
/-- Paths of k + 1 arcs from i that have not yet come back ahead of their end. -/
def RR : Nat → Nat → Int
  | 0, j => A i j
  | k + 1, l => Sm N (fun j => (if j = i then 0 else RR k j) * A j l)
def FF (k : Nat) : Int := RR N i A k i
theorem TT_one (hi : i < N) (l : Nat) : TT N i A 1 l = A i l := Sm_one N i (fun j => A j l) hi
theorem RR_split (hi : i < N) (k l : Nat) : Sm N (fun j => RR N i A k j * A j l) = RR N i A (k + 1) l + FF N i A k * A i l := by
  have h1 : Sm N (fun j => RR N i A k j * A j l) = Sm N (fun j => (if j = i then 0 else RR N i A k j) * A j l + (if j = i then 1 else 0) * (RR N i A k i * A j l)) := by
    refine Sm_congr N _ _ (fun j _ => ?_)
    by_cases e : j = i
    · subst e; simp
    · simp [e]
  rw [h1, Sm_add, Sm_one N i (fun j => RR N i A k i * A j l) hi]
  rfl
/-- All rooted paths are sums over the place of their first return. -/
theorem renew (hi : i < N) : ∀ (k l : Nat), TT N i A (k + 1) l = RR N i A k l + Sm k (fun t => FF N i A t * TT N i A (k - t) l)
  | 0, l => by
    rw [TT_one N i A hi l]
    simp [Sm, RR]
  | k + 1, l => by
    have ih := renew hi k
    show Sm N (fun j => TT N i A (k + 1) j * A j l) = _
    have h1 : Sm N (fun j => TT N i A (k + 1) j * A j l) = Sm N (fun j => RR N i A k j * A j l + Sm k (fun t => FF N i A t * (TT N i A (k - t) j * A j l))) := by
      refine Sm_congr N _ _ (fun j _ => ?_)
      rw [ih j, Int.add_mul]
      congr 1
      rw [Int.mul_comm, ← Sm_mul]
      refine Sm_congr k _ _ (fun t _ => ?_)
      rw [Int.mul_left_comm, Int.mul_comm (A j l)]
    rw [h1, Sm_add, RR_split N i A hi k l, Sm_comm]
    have h2 : Sm k (fun t => Sm N (fun j => FF N i A t * (TT N i A (k - t) j * A j l))) = Sm k (fun t => FF N i A t * TT N i A (k + 1 - t) l) := by
      refine Sm_congr k _ _ (fun t ht => ?_)
      rw [Sm_mul, show k + 1 - t = (k - t) + 1 by omega]
      rfl
    rw [h2]
    show _ = RR N i A (k + 1) l + (Sm k (fun t => FF N i A t * TT N i A (k + 1 - t) l) + FF N i A k * TT N i A (k + 1 - k) l)
    rw [show k + 1 - k = 1 by omega, TT_one N i A hi l]
    omega
end
/-- Two numbers that a machine word does not tell apart. -/
def Cg (x y : Int) : Prop := ∃ k : Int, x = y + k * 18446744073709551616
theorem Cg.refl (x : Int) : Cg x x := ⟨0, by omega⟩
theorem Cg.of_eq {x y : Int} (h : x = y) : Cg x y := h ▸ Cg.refl x
theorem Cg.symm {x y : Int} (h : Cg x y) : Cg y x := by obtain ⟨k, h⟩ := h; exact ⟨-k, by omega⟩
theorem Cg.trans {x y z : Int} (h : Cg x y) (g : Cg y z) : Cg x z := by
  obtain ⟨k, h⟩ := h
  obtain ⟨l, g⟩ := g
  exact ⟨k + l, by omega⟩
theorem Cg.add {x y a b : Int} (h : Cg x y) (g : Cg a b) : Cg (x + a) (y + b) := by
  obtain ⟨k, h⟩ := h
  obtain ⟨l, g⟩ := g
  exact ⟨k + l, by omega⟩
theorem Cg.sub {x y a b : Int} (h : Cg x y) (g : Cg a b) : Cg (x - a) (y - b) := by
  obtain ⟨k, h⟩ := h
  obtain ⟨l, g⟩ := g
  exact ⟨k - l, by omega⟩
theorem Cg.mul {x y a b : Int} (h : Cg x y) (g : Cg a b) : Cg (x * a) (y * b) := by
  obtain ⟨k, rfl⟩ := h
  obtain ⟨l, rfl⟩ := g
  refine ⟨k * b + y * l + k * l * 18446744073709551616, ?_⟩
  generalize 18446744073709551616 = M
  simp only [Int.mul_add, Int.add_mul, Int.mul_assoc, Int.mul_comm, Int.mul_left_comm]
  omega
theorem Cg.wrap (x : Int) : Cg (wrap64 x) x := by
  unfold wrap64
  refine ⟨-((x + 9223372036854775808) / 18446744073709551616), ?_⟩
  omega
theorem Cg.eq {x y : Int} (h : Cg x y) : wrap64 x = wrap64 y := by
  obtain ⟨k, rfl⟩ := h
  unfold wrap64
  omega
theorem Cg.same {x y : Int} (h : Cg x y) (hx : wrap64 x = x) (hy : wrap64 y = y) : x = y := by rw [← hx, ← hy]; exact h.eq
theorem Sm_Cg : ∀ (n : Nat) (f g : Nat → Int), (∀ j, j < n → Cg (f j) (g j)) → Cg (Sm n f) (Sm n g)
  | 0, _, _, _ => Cg.refl _
  | n + 1, f, g, h => (Sm_Cg n f g (fun j hj => h j (by omega))).add (h n (by omega))
theorem wdot_Cg : ∀ (r v : List Int) (a : Int), r.length = v.length → Cg (wdot a r v) (a + Sm r.length (fun j => r.getD j 0 * v.getD j 0))
  | [], [], a, _ => by simp [wdot, Sm]; exact Cg.refl _
  | x :: r, y :: v, a, h => by
    have ih := wdot_Cg r v (wrap64 (a + wrap64 (x * y))) (by simpa using h)
    show Cg (wdot (wrap64 (a + wrap64 (x * y))) r v) _
    refine ih.trans ?_
    rw [List.length_cons, Sm_first]
    have h1 : Cg (wrap64 (a + wrap64 (x * y))) (a + x * y) := (Cg.wrap _).trans ((Cg.refl a).add (Cg.wrap _))
    have h2 := h1.add (Cg.refl (Sm r.length (fun j => r.getD j 0 * v.getD j 0)))
    refine h2.trans (Cg.of_eq ?_)
    simp only [List.getD_cons_zero, List.getD_cons_succ]
    omega
end Go.Proofs.YtonfdiaefkghbaaGreatDoor

namespace Go.Proofs.YtonfdiaefkghbaaGreatDoor
open Go.RowKit
set_option linter.all false
def entA (m : List (List Int)) (j l : Nat) : Int := (m.getD j []).getD l 0
def frRow (m : List (List Int)) (i : Nat) : Nat → List Int
  | 0 => m.getD i []
  | k + 1 => mulRow m m.length ((frRow m i k).set i 0)
theorem wdot_canon : ∀ (r v : List Int) (a : Int), wrap64 a = a → wrap64 (wdot a r v) = wdot a r v
  | [], _, a, h => by simpa [wdot] using h
  | x :: r, [], a, h => by simpa [wdot] using h
  | x :: r, y :: v, a, _ => wdot_canon r v _ (Cg.wrap _).eq
theorem getD_get {α : Type} {xs : List α} {k : Nat} {x d : α} (h : xs[k]? = some x) : xs.getD k d = x := by simp [List.getD, h]
theorem get_lt {α : Type} (xs : List α) (k : Nat) (d : α) (h : k < xs.length) : xs[k]? = some (xs.getD k d) := by simp [List.getD, h]
theorem row_mul {m : List (List Int)} {r : List Int} {l : Nat} (hr : r.length = m.length) (hl : l < m.length) :
    Cg ((mulRow m m.length r).getD l 0) (Sm m.length (fun j => r.getD j 0 * entA m j l)) ∧ wrap64 ((mulRow m m.length r).getD l 0) = (mulRow m m.length r).getD l 0 := by
  rw [getD_get (mulRow_get hl)]
  refine ⟨?_, wdot_canon _ _ _ (wrap_id (by omega))⟩
  have h := wdot_Cg r (col m l) 0 (by simp [col, hr])
  rw [hr] at h
  refine h.trans (Cg.of_eq ?_)
  rw [Int.zero_add]
  refine Sm_congr _ _ _ (fun j hj => ?_)
  congr 1
  show (col m l).getD j 0 = (m.getD j []).getD l 0
  simp [col, List.getD, hj]
theorem entA_canon {m : List (List Int)} (hm : isMat m = true) {j l : Nat} (hj : j < m.length) (hl : l < m.length) : wrap64 (entA m j l) = entA m j l := by
  have h1 := get_lt m j [] hj
  have h2 := isMat_row hm h1
  have h3 := allIn_get h2.2 (get_lt (m.getD j []) l 0 (by rw [h2.1]; exact hl))
  exact wrap_id ⟨by unfold entA; omega, by unfold entA; omega⟩
theorem frRow_len {m : List (List Int)} (hm : isMat m = true) {i : Nat} (hi : i < m.length) : ∀ k, (frRow m i k).length = m.length
  | 0 => (isMat_row hm (get_lt m i [] hi)).1
  | k + 1 => mulRow_len _ _ _
theorem frRow_Cg {m : List (List Int)} (hm : isMat m = true) {i : Nat} (hi : i < m.length) : ∀ (k l : Nat), l < m.length →
    Cg ((frRow m i k).getD l 0) (RR m.length i (entA m) k l) ∧ wrap64 ((frRow m i k).getD l 0) = (frRow m i k).getD l 0
  | 0, l, hl => ⟨Cg.refl _, entA_canon hm hi hl⟩
  | k + 1, l, hl => by
    have h := row_mul (m := m) (r := (frRow m i k).set i 0) (l := l) (by rw [List.length_set, frRow_len hm hi]) hl
    refine ⟨h.1.trans ?_, h.2⟩
    refine Sm_Cg _ _ _ (fun j hj => ?_)
    refine Cg.mul ?_ (Cg.refl _)
    have hjl : j < (frRow m i k).length := by rw [frRow_len hm hi]; exact hj
    by_cases e : j = i
    · subst e
      simp [List.getD, List.getElem?_set, hjl]
      exact Cg.refl _
    · have h2 : ((frRow m i k).set i 0).getD j 0 = (frRow m i k).getD j 0 := by
        simp only [List.getD, List.getElem?_set]
        rw [if_neg (fun e2 => e e2.symm)]
      rw [h2]
      simp only [if_neg e]
      exact (frRow_Cg hm hi k j hj).1
theorem mulM_is {a b c : List (List Int)} (h : mulM a b = some c) : c = mulT a b b.length ∧ isMat a = true ∧ a.length = b.length := by
  unfold mulM at h
  split at h
  · rename_i h1
    injection h with h
    simp only [Bool.and_eq_true, decide_eq_true_eq] at h1
    exact ⟨h.symm, h1.1, h1.2.2.1⟩
  · cases h
theorem iterM_row {m : List (List Int)} {i : Nat} (hi : i < m.length) : ∀ (k t : Nat) (acc p : List (List Int)), acc.length = m.length → (acc.getD i []).length = m.length →
    (∀ l, l < m.length → Cg ((acc.getD i []).getD l 0) (TT m.length i (entA m) t l)) → iterM m k acc = some p → ∀ l, l < m.length → Cg ((p.getD i []).getD l 0) (TT m.length i (entA m) (t + k) l)
  | 0, t, acc, p, _, _, h, e => by
    injection e with e
    subst e
    exact h
  | k + 1, t, acc, p, h1, h2, h, e => by
    cases hq : mulM acc m with
    | none => rw [iterM_none hq] at e; cases e
    | some q =>
      rw [iterM_some hq] at e
      have hq2 := mulM_is hq
      have hrow : q.getD i [] = mulRow m m.length (acc.getD i []) := by
        rw [hq2.1]
        exact getD_get (mulT_get (get_lt acc i [] (by omega)))
      have := iterM_row hi k (t + 1) q p (by rw [hq2.1, mulT_len]; exact h1) (by rw [hrow, mulRow_len]) (by
        intro l hl
        rw [hrow]
        refine (row_mul h2 hl).1.trans ?_
        exact Sm_Cg _ _ _ (fun j hj => (h j hj).mul (Cg.refl _))) e
      intro l hl
      have h5 := this l hl
      rw [show t + 1 + k = t + (k + 1) by omega] at h5
      exact h5
theorem iterM_pre {m : List (List Int)} : ∀ (a b : Nat) (acc p : List (List Int)), iterM m (a + b) acc = some p → ∃ q, iterM m a acc = some q
  | 0, b, acc, p, _ => ⟨acc, rfl⟩
  | a + 1, b, acc, p, h => by
    rw [show a + 1 + b = (a + b) + 1 by omega] at h
    cases hq : mulM acc m with
    | none => rw [iterM_none hq] at h; cases h
    | some q =>
      rw [iterM_some hq] at h ⊢
      exact iterM_pre a b q p h
theorem rooted_facts {m : List (List Int)} {i n : Int} (h : ¬ rooted m i n < 0) : isMat m = true ∧ 0 ≤ i ∧ i.toNat < m.length ∧ 1 ≤ n ∧ n ≤ 30 ∧
    ∀ k : Nat, 1 ≤ k → (k : Int) ≤ n → Cg (rooted m i k) (TT m.length i.toNat (entA m) k i.toNat) ∧ wrap64 (rooted m i k) = rooted m i k := by
  cases h1 : isMat m
  · rw [rooted_mat h1] at h; omega
  cases h2 : inR i 0 (m.length - 1)
  · rw [rooted_i h2] at h; omega
  cases h3 : inR n 1 30
  · rw [rooted_n h3] at h; omega
  have b2 := inR_true h2
  have b3 := inR_true h3
  obtain ⟨i0, rfl⟩ := Int.eq_ofNat_of_zero_le b2.1
  have hi : i0 < m.length := by omega
  refine ⟨rfl, b2.1, hi, b3.1, b3.2, ?_⟩
  intro k hk1 hk2
  have h4 : inR n 0 30 = true := inR_mk ⟨by omega, by omega⟩
  have h5 : inR (k : Int) 0 30 = true := inR_mk ⟨by omega, by omega⟩
  cases hp : powM m n with
  | none => rw [rooted_none hp] at h; omega
  | some p =>
    rw [powM_iter h1 h4] at hp
    have e : n.toNat = k + (n.toNat - k) := by omega
    rw [e] at hp
    obtain ⟨q, hq⟩ := iterM_pre k (n.toNat - k) _ _ hp
    have hpk : powM m (k : Int) = some q := by rw [powM_iter h1 h5]; exact hq
    have hqm := powM_mat hpk
    have hr : rooted m (i0 : Int) (k : Int) = (q.getD i0 []).getD i0 0 := by
      have h6 : inR (k : Int) 1 30 = true := inR_mk ⟨by omega, by omega⟩
      simp [rooted, h1, h2, h6, hpk]
    have hrow := isMat_row hqm.2.1 (get_lt q i0 [] (by rw [hqm.2.2]; exact hi))
    rw [hr]
    constructor
    · have h7 := iterM_row hi k 0 (oneT m.length) q (oneT_len _) (by rw [getD_get (oneT_get hi)]; exact oneRow_len _ _) (by
        intro l hl
        rw [getD_get (oneT_get hi)]
        refine Cg.of_eq ?_
        show (oneRow m.length i0).getD l 0 = if l = i0 then 1 else 0
        unfold oneRow
        simp only [List.getD, List.getElem?_set, List.length_replicate]
        by_cases e : i0 = l
        · subst e; simp [hi]
        · rw [if_neg e, if_neg (fun e2 => e e2.symm)]
          simp [List.getElem?_replicate, hl]) hq i0 hi
      rw [Nat.zero_add] at h7
      exact h7
    · have h8 := allIn_get hrow.2 (get_lt (q.getD i0 []) i0 0 (by rw [hrow.1, hqm.2.2]; exact hi))
      exact wrap_id ⟨by omega, by omega⟩
/-- The sums that are taken off, one after the other. -/
def conv (fs rs : List Int) (k : Nat) : Nat → Nat → Int → Int
  | 0, _, f => f
  | c + 1, l, f => conv fs rs k c (l + 1) (wrap64 (f - wrap64 (fs.getD l 0 * rs.getD (k - l) 0)))
theorem conv_Cg (fs rs : List Int) (k : Nat) : ∀ (c l : Nat) (f : Int), wrap64 f = f → Cg (conv fs rs k c l f) (f - Sm c (fun t => fs.getD (l + t) 0 * rs.getD (k - (l + t)) 0)) ∧ wrap64 (conv fs rs k c l f) = conv fs rs k c l f
  | 0, l, f, hf => ⟨Cg.of_eq (by simp [conv, Sm]), hf⟩
  | c + 1, l, f, hf => by
    have ih := conv_Cg fs rs k c (l + 1) (wrap64 (f - wrap64 (fs.getD l 0 * rs.getD (k - l) 0))) (Cg.wrap _).eq
    refine ⟨ih.1.trans ?_, ih.2⟩
    rw [Sm_first]
    have h1 : Cg (wrap64 (f - wrap64 (fs.getD l 0 * rs.getD (k - l) 0))) (f - fs.getD l 0 * rs.getD (k - l) 0) := (Cg.wrap _).trans ((Cg.refl f).sub (Cg.wrap _))
    refine (h1.sub (Cg.refl _)).trans (Cg.of_eq ?_)
    have h2 : Sm c (fun t => fs.getD (l + 1 + t) 0 * rs.getD (k - (l + 1 + t)) 0) = Sm c (fun j => fs.getD (l + (j + 1)) 0 * rs.getD (k - (l + (j + 1))) 0) :=
      Sm_congr c _ _ (fun t _ => by rw [show l + 1 + t = l + (t + 1) by omega])
    rw [h2]
    simp only [Nat.add_zero]
    omega
def rsL (m : List (List Int)) (i : Int) (k : Nat) : List Int := 1 :: (List.range k).map (fun (t : Nat) => rooted m i ((t : Int) + 1))
def fsL (m : List (List Int)) (i : Int) : Nat → List Int
  | 0 => [0]
  | k + 1 => fsL m i k ++ [conv (fsL m i k) (rsL m i (k + 1)) (k + 1) k 1 ((rsL m i (k + 1)).getD (k + 1) 0)]
theorem rsL_len (m : List (List Int)) (i : Int) (k : Nat) : (rsL m i k).length = k + 1 := by simp [rsL]
theorem fsL_len (m : List (List Int)) (i : Int) : ∀ k, (fsL m i k).length = k + 1
  | 0 => rfl
  | k + 1 => by simp [fsL, fsL_len m i k]
theorem rsL_get {m : List (List Int)} {i : Int} {k t : Nat} (h1 : 1 ≤ t) (h2 : t ≤ k) : (rsL m i k).getD t 0 = rooted m i t := by
  obtain ⟨s, rfl⟩ : ∃ s, t = s + 1 := ⟨t - 1, by omega⟩
  have hs : s < k := by omega
  simp [rsL, List.getD, hs]
theorem rsL_push (m : List (List Int)) (i : Int) (k : Nat) : rsL m i k ++ [rooted m i ((k : Int) + 1)] = rsL m i (k + 1) := by
  simp [rsL, List.range_succ]
theorem fsL_Cg {m : List (List Int)} {i n : Int} (h : ¬ rooted m i n < 0) : ∀ (k : Nat), (k : Int) ≤ n → ∀ t, 1 ≤ t → t ≤ k →
    Cg ((fsL m i k).getD t 0) (FF m.length i.toNat (entA m) (t - 1)) ∧ wrap64 ((fsL m i k).getD t 0) = (fsL m i k).getD t 0
  | 0, _, t, h1, h2 => by omega
  | k + 1, hk, t, h1, h2 => by
    have ih := fsL_Cg h k (by omega)
    have hf := rooted_facts h
    by_cases ht : t ≤ k
    · have e : (fsL m i (k + 1)).getD t 0 = (fsL m i k).getD t 0 := by
        show (fsL m i k ++ [_]).getD t 0 = _
        simp only [List.getD]
        rw [List.getElem?_append_left (by rw [fsL_len]; omega)]
      rw [e]
      exact ih t h1 ht
    · have e : t = k + 1 := by omega
      subst e
      have e : (fsL m i (k + 1)).getD (k + 1) 0 = conv (fsL m i k) (rsL m i (k + 1)) (k + 1) k 1 ((rsL m i (k + 1)).getD (k + 1) 0) := by
        show (fsL m i k ++ [_]).getD (k + 1) 0 = _
        simp only [List.getD]
        rw [List.getElem?_append_right (by rw [fsL_len]; omega), fsL_len]
        simp
      rw [e, rsL_get (by omega) (Nat.le_refl _)]
      have hk1 := hf.2.2.2.2.2 (k + 1) (by omega) hk
      have hc := conv_Cg (fsL m i k) (rsL m i (k + 1)) (k + 1) k 1 (rooted m i ((k + 1 : Nat) : Int)) hk1.2
      refine ⟨hc.1.trans ?_, hc.2⟩
      have hren := renew m.length i.toNat (entA m) hf.2.2.1 k i.toNat
      have h3 : Cg (Sm k (fun t => (fsL m i k).getD (1 + t) 0 * (rsL m i (k + 1)).getD (k + 1 - (1 + t)) 0)) (Sm k (fun t => FF m.length i.toNat (entA m) t * TT m.length i.toNat (entA m) (k - t) i.toNat)) := by
        refine Sm_Cg _ _ _ (fun s hs => ?_)
        have a1 := (ih (1 + s) (by omega) (by omega)).1
        rw [show 1 + s - 1 = s by omega] at a1
        have a2 := (hf.2.2.2.2.2 (k - s) (by omega) (by omega)).1
        rw [← rsL_get (k := k + 1) (by omega) (by omega)] at a2
        rw [show k + 1 - (1 + s) = k - s by omega]
        exact a1.mul a2
      refine (hk1.1.sub h3).trans (Cg.of_eq ?_)
      rw [hren, show k + 1 - 1 = k by omega]
      unfold FF
      omega
def firstR (m : List (List Int)) (i n : Int) : Int := if 10 < n then -1 else if rooted m i n < 0 then -1 else (frRow m i.toNat (n.toNat - 1)).getD i.toNat 0
/-- Both roads come to one number. -/
theorem first_both {m : List (List Int)} {i n : Int} (h : ¬ rooted m i n < 0) : (fsL m i n.toNat).getD n.toNat 0 = (frRow m i.toNat (n.toNat - 1)).getD i.toNat 0 := by
  have hf := rooted_facts h
  have h1 := fsL_Cg h n.toNat (by omega) n.toNat (by omega) (Nat.le_refl _)
  have h2 := frRow_Cg hf.1 hf.2.2.1 (n.toNat - 1) i.toNat hf.2.2.1
  exact (h1.1.trans h2.1.symm).same h1.2 h2.2
end Go.Proofs.YtonfdiaefkghbaaGreatDoor

namespace Go.Proofs.YtonfdiaefkghbaaGreatDoor
open Go.RowKit
set_option linter.all false
theorem bis_range {f : Int → Bool} : ∀ {n : Nat} {lo hi : Int}, lo < hi → lo ≤ bis f n lo hi ∧ bis f n lo hi < hi
  | 0, lo, hi, h => ⟨Int.le_refl _, h⟩
  | n + 1, lo, hi, h => by
    unfold bis
    split
    · split
      · have := bis_range (f := f) (n := n) (lo := lo) (hi := (lo + hi) / 2) (by omega)
        omega
      · have := bis_range (f := f) (n := n) (lo := (lo + hi) / 2) (hi := hi) (by omega)
        omega
    · exact ⟨Int.le_refl _, h⟩
theorem floor_range {m : List (List Int)} (h : isSmallM m = true) : 0 ≤ floorG m 100 ∧ floorG m 100 ≤ 3600 := by
  unfold floorG
  rw [h, inR_mk (x := (100 : Int)) (lo := 1) (hi := 100) ⟨by omega, by omega⟩]
  have := bis_range (f := fun q => belowM m q 100) (n := 4000) (lo := 0) (hi := 36 * 100 + 1) (by omega)
  simp only [Bool.and_self, if_true]
  omega
def txtGrowth : ByteArray := ⟨#[103, 114, 111, 119, 116, 104]⟩
def txtOrbits : ByteArray := ⟨#[111, 114, 98, 105, 116, 115, 32]⟩
def txtDash : ByteArray := ⟨#[45]⟩
def cannotT (a b : List (List Int)) (n : Int) : ByteArray :=
  if isSmallM a = false then ⟨#[]⟩ else if isSmallM b = false then ⟨#[]⟩ else if (orbV a n).length = 0 then ⟨#[]⟩ else if (orbV b n).length = 0 then ⟨#[]⟩
  else if belowM b (floorG a 100) 100 = true then txtGrowth else if 0 ≤ fgI 0 (orbV a n) (orbV b n) then txtOrbits ++ decB ((fgI 0 (orbV a n) (orbV b n)).toNat + 1) else txtDash
theorem fgI_range : ∀ (xs ys : List Int) (k : Nat), fgI k xs ys = -1 ∨ ((k : Int) ≤ fgI k xs ys ∧ fgI k xs ys < k + xs.length)
  | [], ys, k => by left; cases ys <;> rfl
  | x :: xs, [], k => .inl rfl
  | x :: xs, y :: ys, k => by
    unfold fgI
    split
    · right; simp; omega
    · rcases fgI_range xs ys (k + 1) with h | h
      · exact .inl h
      · right; simp; omega
theorem orbV_pos {m : List (List Int)} {n : Int} (h : (orbV m n).length ≠ 0) : 1 ≤ n ∧ n ≤ 10 ∧ (orbV m n).length = n.toNat := by
  have h1 := orbV_len m n
  have h2 : inR n 1 10 = true := by
    cases hi : inR n 1 10
    · exact absurd (by simp [orbV, hi]) h
    · rfl
  have h3 := inR_true h2
  refine ⟨h3.1, h3.2, ?_⟩
  rcases h1 with h1 | h1
  · rw [h1] at h; exact absurd rfl h
  · exact h1
end Go.Proofs.YtonfdiaefkghbaaGreatDoor

namespace Go.Proofs.YtonfdiaefkghbaaGreatDoor
open Go.RowKit
set_option linter.all false
def arcsJ (i : Nat) : Nat → List Int → List (List Int)
  | _, [] => []
  | j, x :: r => List.replicate x.toNat [(i : Int), (j : Int)] ++ arcsJ i (j + 1) r
def arcsI : Nat → List (List Int) → List (List Int)
  | _, [] => []
  | i, r :: rs => arcsJ i 0 r ++ arcsI (i + 1) rs
def arcsL (m : List (List Int)) : List (List Int) := arcsI 0 m
theorem arcsI_step {m acc R : List (List Int)} {i : Nat} {r : List Int} (hr : m[i]? = some r) (h : acc ++ arcsI i (m.drop i) = R) : acc ++ (arcsJ i 0 (r.drop 0) ++ arcsI (i + 1) (m.drop (i + 1))) = R := by
  rw [drop_of_get hr, arcsI] at h
  simpa using h
theorem arcsI_end {m acc R : List (List Int)} {i : Nat} (hi : m.length ≤ i) (h : acc ++ arcsI i (m.drop i) = R) : acc = R := by
  rw [drop_all m i hi] at h
  simpa [arcsI] using h
theorem arcsJ_step {acc Z R : List (List Int)} {i j : Nat} {r : List Int} {x : Int} (hx : r[j]? = some x) (h : acc ++ (arcsJ i j (r.drop j) ++ Z) = R) : acc ++ (List.replicate (x.toNat - 0) [(i : Int), (j : Int)] ++ (arcsJ i (j + 1) (r.drop (j + 1)) ++ Z)) = R := by
  rw [drop_of_get hx, arcsJ] at h
  simpa using h
theorem arcsJ_end {acc Z R : List (List Int)} {i j : Nat} {r : List Int} (hj : r.length ≤ j) (h : acc ++ (arcsJ i j (r.drop j) ++ Z) = R) : acc ++ Z = R := by
  rw [drop_all r j hj] at h
  simpa [arcsJ] using h
theorem rep_step {acc Z R : List (List Int)} {a : List Int} {c k : Nat} (hk : k < c) (h : acc ++ (List.replicate (c - k) a ++ Z) = R) : (acc ++ [a]) ++ (List.replicate (c - (k + 1)) a ++ Z) = R := by
  rw [show c - k = (c - (k + 1)) + 1 by omega, List.replicate_succ] at h
  simpa using h
theorem rep_end {acc Z R : List (List Int)} {a : List Int} {c k : Nat} (hk : c ≤ k) (h : acc ++ (List.replicate (c - k) a ++ Z) = R) : acc ++ Z = R := by
  rw [show c - k = 0 by omega] at h
  simpa using h
theorem toCome_le {α : Type} {acc Z R : List α} (h : acc ++ Z = R) : acc.length ≤ R.length := by rw [← h]; simp
theorem arcsJ_len (i : Nat) : ∀ (r : List Int) (j : Nat), allIn 0 1000000 r = true → ((arcsJ i j r).length : Int) = r.sum
  | [], _, _ => rfl
  | x :: r, j, h => by
    simp only [allIn, List.all_cons, Bool.and_eq_true] at h
    have h1 := inR_true h.1
    have h2 := arcsJ_len i r (j + 1) h.2
    simp only [arcsJ, List.length_append, List.length_replicate, List.sum_cons, Int.natCast_add, h2]
    omega
theorem arcsI_len (n : Nat) : ∀ (m : List (List Int)) (i : Nat), tabIn n 0 1000000 m = true → ((arcsI i m).length : Int) = msum m
  | [], _, _ => rfl
  | r :: rs, i, h => by
    simp only [tabIn, List.all_cons, Bool.and_eq_true] at h
    have h2 := arcsI_len n rs (i + 1) h.2
    rw [arcsI, List.length_append, Int.natCast_add, arcsJ_len i r 0 h.1.2, h2, msum_cons]
theorem arcsL_len {m : List (List Int)} (h : isMat m = true) : ((arcsL m).length : Int) = sumOf m := by
  unfold sumOf
  rw [if_pos h]
  simp only [isMat, Bool.and_eq_true] at h
  exact arcsI_len _ m 0 h.1
theorem mem_arcsJ {i : Nat} : ∀ {r : List Int} {j : Nat} {a : List Int}, a ∈ arcsJ i j r → ∃ k : Nat, a = [(i : Int), (k : Int)]
  | [], _, _, h => by simp [arcsJ] at h
  | x :: r, j, a, h => by
    rw [arcsJ] at h
    rcases List.mem_append.1 h with h | h
    · exact ⟨j, List.eq_of_mem_replicate h⟩
    · exact mem_arcsJ h
theorem mem_arcsI : ∀ {m : List (List Int)} {i : Nat} {a : List Int}, a ∈ arcsI i m → ∃ p q : Nat, a = [(p : Int), (q : Int)]
  | [], _, _, h => by simp [arcsI] at h
  | r :: rs, i, a, h => by
    rw [arcsI] at h
    rcases List.mem_append.1 h with h | h
    · obtain ⟨k, e⟩ := mem_arcsJ h; exact ⟨i, k, e⟩
    · exact mem_arcsI h
theorem arc_get {m : List (List Int)} {k : Nat} {a : List Int} (h : (arcsL m)[k]? = some a) : ∃ p q : Nat, a = [(p : Int), (q : Int)] := mem_arcsI (List.mem_of_getElem? h)
/-- May arc a follow a path? -/
def toOf (A : List (List Int)) (x : Int) : Int := (A.getD x.toNat []).getD 1 0
def fromOf (A : List (List Int)) (a : Nat) : Int := (A.getD a []).getD 0 0
def okN (A : List (List Int)) (head : List Int) (a : Nat) : Bool := decide (head.length = 0) || decide (toOf A (head.getLastD 0) = fromOf A a)
def ext (A : List (List Int)) (head : List Int) (a : Nat) : List (List Int) := if okN A head a then [head ++ [(a : Int)]] else []
def ext1 (A : List (List Int)) (head : List Int) : List (List Int) := (List.range' 0 A.length).flatMap (ext A head)
def fillL (A : List (List Int)) : Nat → List Int → List (List Int)
  | 0, head => [head]
  | r + 1, head => (List.range' 0 A.length).flatMap fun a => if okN A head a then fillL A r (head ++ [(a : Int)]) else []
theorem fillL_ext (A : List (List Int)) (r : Nat) (head : List Int) : fillL A (r + 1) head = (ext1 A head).flatMap (fillL A r) := by
  unfold ext1
  rw [List.flatMap_assoc]
  unfold fillL
  congr 1
  funext a
  unfold ext
  split <;> simp
theorem range_step {α : Type} {g : Nat → List α} {acc R : List α} {a N : Nat} (ha : a < N) (h : acc ++ (List.range' a (N - a)).flatMap g = R) : (acc ++ g a) ++ (List.range' (a + 1) (N - (a + 1))).flatMap g = R := by
  rw [show N - a = (N - (a + 1)) + 1 by omega, List.range'_succ, List.flatMap_cons] at h
  simpa using h
theorem range_end {α : Type} {g : Nat → List α} {acc R : List α} {a N : Nat} (ha : N ≤ a) (h : acc ++ (List.range' a (N - a)).flatMap g = R) : acc = R := by
  rw [show N - a = 0 by omega] at h
  simpa using h
def cntP (m : List (List Int)) (n : Int) : Int := match powM m n with
  | none => -1
  | some p => sumOf p
def pathsOk (m : List (List Int)) (n : Int) : Bool := isGraph m && (inR n 1 6 && inR (cntP m n) 0 500)
def pathsV (m : List (List Int)) (n : Int) : List (List Int) := if pathsOk m n then fillL (arcsL m) n.toNat [] else []
def txtP (p : List Int) : ByteArray := p.foldl (fun t x => t ++ decB x.toNat) ⟨#[]⟩
def pathW (m : List (List Int)) (n : Int) : List ByteArray := if 10 < sumOf m then [] else (pathsV m n).map txtP
theorem fillL_mem {A : List (List Int)} : ∀ {r : Nat} {head p : List Int}, p ∈ fillL A r head → Idx A.length head → p.length = head.length + r ∧ Idx A.length p
  | 0, head, p, h, hi => by
    simp [fillL] at h
    subst h
    exact ⟨rfl, hi⟩
  | r + 1, head, p, h, hi => by
    rw [fillL, List.mem_flatMap] at h
    obtain ⟨a, ha, h⟩ := h
    have ha2 : a < A.length := by simpa [List.mem_range'_1] using ha
    split at h
    · have h2 := fillL_mem h (by
        intro x hx
        rcases List.mem_append.1 hx with hx | hx
        · exact hi x hx
        · simp at hx; subst hx; omega)
      refine ⟨?_, h2.2⟩
      have := h2.1
      simp at this
      omega
    · simp at h
theorem fillL_len {A : List (List Int)} (hA : A.length ≤ 60) : ∀ (r : Nat) (head : List Int), (fillL A r head).length ≤ 60 ^ r
  | 0, head => by simp [fillL]
  | r + 1, head => by
    rw [fillL, List.length_flatMap, Nat.pow_succ]
    have key : ∀ (l : List Nat), (l.map fun a => (if okN A head a then fillL A r (head ++ [(a : Int)]) else []).length).sum ≤ 60 ^ r * l.length := by
      intro l
      induction l with
      | nil => simp
      | cons a l ih =>
        simp only [List.map_cons, List.sum_cons, List.length_cons]
        rw [Nat.mul_succ]
        have h1 : (if okN A head a then fillL A r (head ++ [(a : Int)]) else []).length ≤ 60 ^ r := by
          split
          · exact fillL_len hA r _
          · simp
        omega
    have h2 := key (List.range' 0 A.length)
    rw [List.length_range'] at h2
    exact Nat.le_trans h2 (Nat.mul_le_mul_left _ hA)
end Go.Proofs.YtonfdiaefkghbaaGreatDoor

namespace Go.Proofs.YtonfdiaefkghbaaGreatDoor
open Go.RowKit
set_option linter.all false
theorem OInts.lit2 (w : World) (lo : Nat) (x y : Int) (hlo : lo ≤ w.heap.size) : OInts (w.alloc (.cells #[.int .i64 x, .int .i64 y] 3)) lo (.slice (some ⟨w.heap.size, 0, none⟩) 2 2) 2 [x, y] :=
  ⟨by omega, World.ownsRow_lit (base := lo) (e := 3) (size := 1) w #[.int .i64 x, .int .i64 y] 2 hlo (by unfold maxLen; omega) (by simp)⟩
theorem arcs_low {m : List (List Int)} (hm : isMat m = true) {i j : Nat} {r : List Int} {x : Int} (hr : m[i]? = some r) (hx : r[j]? = some x) : 0 ≤ x ∧ x ≤ 1000000 := allIn_get (isMat_row hm hr).2 hx
end Go.Proofs.YtonfdiaefkghbaaGreatDoor

namespace Go.Proofs.YtonfdiaefkghbaaGreatDoor
open Go.RowKit
set_option linter.all false
set_option maxRecDepth 20000 in
set_option maxHeartbeats 3200000 in
theorem sArcs5_any (p : Option Addr) (n c : Nat) (m : List (List Int)) (w : World) (h : Intss w p n m) (hmat : isMat m = true) (h60 : (arcsL m).length ≤ 60) :
    Calls Tryz.prog 108 #[.slice p n c] w fun e w' => ∃ v, e = .returned v ∧ OIntss w' w.heap.size v (arcsL m).length (arcsL m) ∧ Below w.heap.size w w' := by
  have HL : Hid (m.length = n) := h.1
  have H := Lib.hid h
  have HM := Lib.hid hmat
  have H60 := Lib.hid h60
  have HRL := Lib.hid (isMat_rowsLen hmat h.1)
  have hn9 : n ≤ 9 := by have := isMat_len hmat; have := HL.out; omega
  clear h hmat h60
  go_enter Tryz.func108, Tryz.ntmps108
  go_wp2_with fail
  go_loopw [3, 4] (fun v x wr => ∃ (i : Nat) (acc : List (List Int)), i ≤ n ∧ x = .int .i64 i ∧ OIntss wr w.heap.size v acc.length acc ∧ Hid (acc ++ arcsI i (m.drop i) = arcsL m) ∧ Below w.heap.size w wr) (fun _ x _ => n - (intOf x).toNat)
  case atStart => exact ⟨0, [], Nat.zero_le _, rfl, OIntss.empty w _ (Nat.le_refl _), rfl, (Below.refl _ _).alloc (Nat.le_refl _) _⟩
  case round =>
    obtain ⟨i, acc, hi, rfl, hown, heq, hbl⟩ := hrel
    by_cases hlt : i < n
    · obtain ⟨b1, o1, a1, c1, r, rfl, hca, hrow, hget⟩ := H.out.at_ hlt
      have HR := Lib.hid hget.out
      have HRn : Hid (r.length = n) := HRL.out _ _ hget.out
      have Hrow := Lib.hid hrow
      have Hca := Lib.hid hca
      have Hown := Lib.hid hown
      have Hbl := Lib.hid hbl
      have HEQ := Lib.hid (arcsI_step HR.out heq.out)
      clear hown hbl heq hca hrow hget
      go_wp2_with fail
      go_loopw [3, 5] (fun v x wr => ∃ (j : Nat) (acc : List (List Int)), j ≤ n ∧ x = .int .i64 j ∧ OIntss wr w.heap.size v acc.length acc ∧ Hid (acc ++ (arcsJ i j (r.drop j) ++ arcsI (i + 1) (m.drop (i + 1))) = arcsL m) ∧ Below w.heap.size w wr) (fun _ x _ => n - (intOf x).toNat)
      case atStart => exact ⟨0, _, Nat.zero_le _, rfl, Hown.out, HEQ, Hbl.out⟩
      case round =>
        obtain ⟨j, acc, hj, rfl, hown, heq, hbl⟩ := hrel
        clear Hown HEQ Hbl
        by_cases hjl : j < n
        · obtain ⟨b2, o2, x, rfl, hcx, hgx⟩ := Hrow.out.at_ (k := j) (by have := HRn.out; omega)
          have hxr := arcs_low HM.out HR.out hgx.out
          have HC := Lib.hid (arcsJ_step hgx.out heq.out)
          have Hcx := Lib.hid hcx
          obtain ⟨cx, rfl⟩ : ∃ cx : Nat, x = cx := ⟨x.toNat, by omega⟩
          rw [Int.toNat_natCast] at HC
          have Hown := Lib.hid hown
          have Hbl := Lib.hid hbl
          clear hown hbl heq hcx hgx
          go_wp2_with fail
          go_loopw [3, 6] (fun v x wr => ∃ (k : Nat) (acc : List (List Int)), k ≤ cx ∧ x = .int .i64 k ∧ OIntss wr w.heap.size v acc.length acc ∧ Hid (acc ++ (List.replicate (cx - k) [(i : Int), (j : Int)] ++ (arcsJ i (j + 1) (r.drop (j + 1)) ++ arcsI (i + 1) (m.drop (i + 1)))) = arcsL m) ∧ Below w.heap.size w wr) (fun _ x _ => cx - (intOf x).toNat)
          case atStart => exact ⟨0, _, Nat.zero_le _, rfl, Hown.out, HC, Hbl.out⟩
          case round =>
            obtain ⟨k, acc, hk, rfl, hown, heq, hbl⟩ := hrel
            clear Hown HC Hbl
            have q1 := (hbl.cell (World.block_lt_of_cell? w _ Hca.out)).trans Hca.out
            have q2 := (hbl.cell (World.block_lt_of_cell? w _ Hcx.out)).trans Hcx.out
            have hrn : r.length = n := HRn.out
            have hjr : j < r.length := by omega
            by_cases hkc : k < cx
            · have HQ := Lib.hid (rep_step hkc heq.out)
              have hl := toCome_le HQ.out
              have hl2 : acc.length + 1 ≤ 60 := by have := H60.out; simp at hl; omega
              have Hown := Lib.hid hown
              have Hbl := Lib.hid hbl
              have HO := Lib.hid (OInts.lit2 wr wr.heap.size (i : Int) (j : Int) (Nat.le_refl _))
              have HB := Lib.hid (belowA wr (.cells #[.int .i64 (i : Int), .int .i64 (j : Int)] 3))
              clear hown hbl heq hl
              go_wp2_with (first | (at_builtin; refine wpList_push_fresh _ _ wr rfl (.tmp 31) (.tmp 35) rfl w.heap.size _ acc.length acc rfl Hown.out (by omega) Hbl.out.size HB.out _ _ HO.out _ ?_ rfl ?_; (simp); intro v4 w4 ho4 hb4 _; have Ho4 := Lib.hid ho4; have Hb4 := Lib.hid hb4; clear ho4 hb4))
              go_roundw
              case rel => exact ⟨k + 1, _, hkc, by go_num, by simpa using Ho4.out, HQ, Hbl.out.trans Hb4.out⟩
              case measure => simp [intOf]; omega
            · have HQ := Lib.hid (rep_end (by omega) heq.out)
              have Hown := Lib.hid hown
              have Hbl := Lib.hid hbl
              clear hown hbl heq
              go_wp2_with fail
              go_roundw
              case rel => exact ⟨j + 1, acc, hjl, by go_num, Hown.out, HQ, Hbl.out⟩
              case measure => simp [intOf]; omega
        · have HQ := Lib.hid (arcsJ_end (by have := HRn.out; omega) heq.out)
          have Hown := Lib.hid hown
          have Hbl := Lib.hid hbl
          clear hown hbl heq
          go_wp2_with fail
          go_roundw
          case rel => exact ⟨i + 1, acc, hlt, by go_num, Hown.out, HQ, Hbl.out⟩
          case measure => simp [intOf]; omega
    · have HQ := Lib.hid (arcsI_end (by have := HL.out; omega) heq.out)
      have Hown := Lib.hid hown
      have Hbl := Lib.hid hbl
      clear hown hbl heq
      go_wp2_with fail
      go_ret
      have h9 := Hown.out
      rw [HQ.out] at h9
      exact ⟨_, rfl, h9, Hbl.out⟩
end Go.Proofs.YtonfdiaefkghbaaGreatDoor

namespace Go.Proofs.YtonfdiaefkghbaaGreatDoor
open Go.RowKit
set_option linter.all false
/- One more arc: paths are filled. -/
theorem wpList_push_rowAt {ops : Array Oper} {rest : List Oper} {o : Oper} {a : Act} {Q : Exit → Act → World → Prop} (W : World) (u : Value) (wr : World) (hgd : o.guard = none) (s x : Operand)
    (ho : o.op = .call { callee := .builtin .append, args := #[s, x], argTypes := #[24, 24] })
    (lo : Nat) (v : Value) (n : Nat) (xss : List (List Int)) (hs : a.eval s = v) (h : OIntss wr lo v n xss) (hn : n + 1 ≤ 1099511627776) (hlo : lo ≤ wr.heap.size) (hW : Below wr.heap.size wr W)
    (m : Nat) (r : List Int) (hu : OInts W wr.heap.size u m r) (tb : Nat) (htb : tb = W.heap.size) (hx : a.eval x = .slice (some ⟨tb, 0, none⟩) 1 1)
    (K : ∀ v' w', OIntss w' lo v' (n + 1) (xss ++ [r]) → W.grownBy w' v.ownBlock → NewOr W.heap.size v v' → wpList Tryz.prog ops Q rest (a.put o.dst v') w') : wpList Tryz.prog ops Q (o :: rest) a (W.alloc (.cells #[u] 34)) := by
  subst htb
  have hml := hu.len
  subst hml
  have hW2 : Below wr.heap.size wr (W.alloc (.cells #[u] 34)) := hW.alloc hW.size _
  obtain ⟨i0, hi, hz0, hz1, hz2⟩ := info_parts info_ints
  have hk := h.keep hW2
  have hu2 := (hu.alloc (.cells #[u] 34)).mono hlo
  have hfar := far_new h hW2 fun b hb => (hu.ownlt b hb).1
  obtain ⟨h1, h2, vs, hv, hr, hd⟩ := hk
  have hone : u.oneCell' = true := by
    rcases hu.2.2 with ⟨rfl, _⟩ | ⟨_, _, _, rfl, _⟩ <;> rfl
  refine wpList_plain hgd fun K' hK => ?_
  obtain ⟨v', w', hrun, q2, q3, _, q5⟩ := run_append_own_at (P := Tryz.prog) (W.alloc (.cells #[u] 34)) lo 24 o.type 34 i0 (.slice none 0 0) 1 24 Tryz.underlying24 hi hz0 hz1 hz2 rfl (by decide) v n vs hv ⟨W.heap.size, 0, none⟩ 1 1 [u] rfl
    (by
      intro j u' hj
      match j, hj with
      | 0, hj =>
        simp at hj
        subst hj
        exact World.cell?_alloc_new _ _ _ _)
    (by
      intro u' hu'
      simp at hu'
      subst hu'
      exact hone) (by unfold maxLen; omega) (by omega) (by simp; have := hW.size; omega)
  unfold Oper.wp execOp
  simp only [ho, resolve, invoke, builtin, Sem.run_bind, Sem.run_pure, Result.andThen_ok, List.map_toArray, List.map_cons, List.map_nil, hs, hx, hrun]
  refine hK _ _ (K v' w' ?_ ((grown_alloc W _ _).trans q3) ?_)
  · exact OIntss.pushed ⟨h1, h2, vs, hv, hr, hd⟩ hn hu2 hfar q3 fun vs' hv' => by rw [own_unique hv' hv]; exact q2
  · rcases q5 with h5 | h5
    · exact .inl h5
    · exact .inr ⟨_, h5, by simp⟩
theorem NewOr.trans {s s' : Nat} {a b c : Value} (h : NewOr s a b) (k : NewOr s' b c) (hs : s ≤ s') : NewOr s a c := by
  rcases k with k | ⟨d, k, hd⟩
  · rcases h with h | ⟨d, h, hd⟩
    · exact .inl (k.trans h)
    · exact .inr ⟨d, k.trans h, hd⟩
  · exact .inr ⟨d, k, Nat.le_trans hs hd⟩
theorem grown_two {a b c : World} {u v : Value} (h : a.grownBy b u.ownBlock) (n : NewOr a.heap.size u v) (k : b.grownBy c v.ownBlock) : a.grownBy c u.ownBlock := by
  refine ⟨k.os.trans h.os, k.tape.trans h.tape, k.output.trans h.output, Nat.le_trans h.size k.size, fun i hi hne => ?_⟩
  refine (k.block i (Nat.lt_of_lt_of_le hi h.size) ?_).trans (h.block i hi hne)
  rcases n with n | ⟨d, n, hd⟩
  · rw [n]; exact hne
  · rw [n]; intro e; injection e with e; omega
theorem grown_drewN2 (w : World) (k : Nat) (row : Option Nat) : w.grownBy (w.drewN k) row := ⟨rfl, rfl, rfl, Nat.le_refl _, fun _ _ _ => rfl⟩
theorem grown_below {w w' : World} (h : Below w.heap.size w w') (row : Option Nat) : w.grownBy w' row := ⟨h.os, h.tape, h.output, h.size, fun k hk _ => h.block k hk⟩
theorem OIntss.apartRow {w W : World} {lo n m : Nat} {v u : Value} {xss : List (List Int)} {r : List Int} (h : OIntss w lo v n xss) (hu : OInts W w.heap.size u m r) : Apart u v := by
  intro b hb e
  have := (h.ownlt b e).2
  have := (hu.ownlt b hb).1
  omega
theorem Idx.snoc {n a : Nat} {xs : List Int} (h : Idx n xs) (ha : a < n) : Idx n (xs ++ [(a : Int)]) := by
  intro x hx
  rcases List.mem_append.1 hx with hx | hx
  · exact h x hx
  · simp at hx
    subst hx
    omega
theorem getLast_get {xs : List Int} {q : Nat} {x : Int} (h : xs.length = q + 1) (hx : xs[q]? = some x) : xs.getLastD 0 = x := by
  rw [List.getLastD_eq_getLast?, List.getLast?_eq_getElem?, h]
  simp [hx]
theorem ok_zero {A : List (List Int)} {hd : List Int} {a : Nat} (h : hd.length = 0) : okN A hd a = true := by simp [okN, h]
theorem ok_of {A : List (List Int)} {hd : List Int} {a b q : Nat} {x y x' y' : Int} (h : hd.length = q + 1) (hq : hd[q]? = some (b : Int)) (hb : A[b]? = some [x, y]) (ha : A[a]? = some [x', y']) : okN A hd a = decide (y = x') := by
  have e1 : toOf A (hd.getLastD 0) = y := by rw [getLast_get h hq, toOf, Int.toNat_natCast]; simp [List.getD, hb]
  have e2 : fromOf A a = x' := by simp [fromOf, List.getD, ha]
  unfold okN
  rw [e1, e2]
  simp [h]
theorem fill_yes {A : List (List Int)} {r a : Nat} {hd : List Int} {acc R : List (List Int)} (ha : a < A.length) (ho : okN A hd a = true) (h : acc ++ (List.range' a (A.length - a)).flatMap (fun a => if okN A hd a then fillL A r (hd ++ [(a : Int)]) else []) = R) : (acc ++ fillL A r (hd ++ [(a : Int)])) ++ (List.range' (a + 1) (A.length - (a + 1))).flatMap (fun a => if okN A hd a then fillL A r (hd ++ [(a : Int)]) else []) = R := by
  have := range_step ha h
  rw [if_pos ho] at this
  exact this
theorem fill_no {A : List (List Int)} {r a : Nat} {hd : List Int} {acc R : List (List Int)} (ha : a < A.length) (ho : okN A hd a = false) (h : acc ++ (List.range' a (A.length - a)).flatMap (fun a => if okN A hd a then fillL A r (hd ++ [(a : Int)]) else []) = R) : acc ++ (List.range' (a + 1) (A.length - (a + 1))).flatMap (fun a => if okN A hd a then fillL A r (hd ++ [(a : Int)]) else []) = R := by
  have := range_step ha h
  rw [if_neg (by simp [ho])] at this
  simpa using this
def fillPost (W : World) (lo : Nat) (ov : Value) (R : List (List Int)) (e : Ending) (w' : World) : Prop := ∃ v', e = .returned v' ∧ OIntss w' lo v' R.length R ∧ W.grownBy w' ov.ownBlock ∧ NewOr W.heap.size ov v'
end Go.Proofs.YtonfdiaefkghbaaGreatDoor

namespace Go.Proofs.YtonfdiaefkghbaaGreatDoor
open Go.RowKit
set_option linter.all false
set_option maxRecDepth 20000 in
set_option maxHeartbeats 3200000 in
theorem sFill_zero (p : Option Addr) (N c t lo : Nat) (A : List (List Int)) (W wr : World) (hv ov : Value) (hd : List Int) (out : List (List Int)) (hlen : hd.length = t) (ho : OIntss wr lo ov out.length out) (hlo : lo ≤ wr.heap.size)
    (hW : Below wr.heap.size wr W) (hh : OInts W wr.heap.size hv hd.length hd) (hM : (out ++ fillL A 0 hd).length ≤ 1099511627776) :
    Calls Tryz.prog 110 #[.slice p N c, .int .i64 t, hv, ov] W (fillPost W lo ov (out ++ fillL A 0 hd)) := by
  have HO := Lib.hid ho
  have HW := Lib.hid hW
  have HH := Lib.hid hh
  obtain ⟨ah, ch, rfl, _⟩ := hh.form
  have hm : out.length + 1 ≤ 1099511627776 := by simpa [fillL] using hM
  have HR : Hid (out ++ fillL A 0 hd = out ++ [hd]) := rfl
  subst hlen
  clear ho hW hh hM
  go_enter Tryz.func110, Tryz.ntmps110
  go_wp2_with (first | (at_builtin; refine wpList_push_rowAt _ _ wr rfl (.tmp 14) (.tmp 16) rfl lo _ out.length out rfl HO.out (by omega) hlo HW.out _ hd HH.out _ ?_ rfl ?_; (first | rfl | simp); intro v4 w4 ho4 hg4 hn4; have Ho4 := Lib.hid ho4; have Hg4 := Lib.hid hg4; have Hn4 := Lib.hid hn4; clear ho4 hg4 hn4))
  go_ret
  rw [HR.out]
  exact ⟨_, rfl, by simpa using Ho4.out, Hg4.out, Hn4.out⟩
end Go.Proofs.YtonfdiaefkghbaaGreatDoor

namespace Go.Proofs.YtonfdiaefkghbaaGreatDoor
open Go.RowKit
set_option linter.all false
set_option maxRecDepth 20000 in
set_option maxHeartbeats 6400000 in
theorem sFill_step0 (p : Option Addr) (N c t r lo : Nat) (A : List (List Int)) (hA2 : ∀ (k : Nat) (a : List Int), A[k]? = some a → ∃ x y : Int, a = [x, y]) (ht : t ≤ 6) (hN : N ≤ 60) (hAN : A.length = N)
    (IH : ∀ (W wr : World) (hv ov : Value) (hd : List Int) (out : List (List Int)), hd.length + r = t → Idx N hd → OIntss wr lo ov out.length out → lo ≤ wr.heap.size → (∀ W', Below lo wr W' → Intss W' p N A) → Below wr.heap.size wr W → OInts W wr.heap.size hv hd.length hd → (out ++ fillL A r hd).length ≤ 1099511627776 →
      Calls Tryz.prog 110 #[.slice p N c, .int .i64 t, hv, ov] W (fillPost W lo ov (out ++ fillL A r hd)))
    (W : World) (hp : Option Addr) (hn hc : Nat) (hd : List Int) (ov : Value) (out : List (List Int)) (hlen : hd.length + (r + 1) = t) (hi : Idx N hd) (ho : OIntss W lo ov out.length out) (hlo : lo ≤ W.heap.size)
    (hk : ∀ W', W.grownBy W' ov.ownBlock → Ints W' hp hn hd) (ha : ∀ W', Below lo W W' → Intss W' p N A) (hz0 : hn = 0) (hM : (out ++ fillL A (r + 1) hd).length ≤ 1099511627776) :
    Calls Tryz.prog 110 #[.slice p N c, .int .i64 t, .slice hp hn hc, ov] W (fillPost W lo ov (out ++ fillL A (r + 1) hd)) := by
  subst hz0
  have HHL : Hid (hd.length = 0) := (hk W (World.grownBy.refl W _)).1
  have hnt : 0 + (r + 1) = t := by rw [← HHL.out]; exact hlen
  have HA2 := Lib.hid hA2
  have HAN := Lib.hid hAN
  have HI := Lib.hid hi
  have HO := Lib.hid ho
  have HK := Lib.hid hk
  have HA := Lib.hid ha
  have HIH := Lib.hid IH
  have hR : out ++ (List.range' 0 (A.length - 0)).flatMap (fun a => if okN A hd a then fillL A r (hd ++ [(a : Int)]) else []) = out ++ fillL A (r + 1) hd := by rw [fillL, Nat.sub_zero]
  generalize out ++ fillL A (r + 1) hd = R at hR hM ⊢
  have HR := Lib.hid hR
  have HM := Lib.hid hM
  have hne : ((0 : Int) == (t : Int)) = false := by simp; omega
  clear hA2 hAN hi ho hk ha IH hR hM hlen
  go_enter Tryz.func110, Tryz.ntmps110
  go_wp2_with fail
  clear hne
  go_loopw [3, 9] (fun v x wx => ∃ (k : Nat) (acc : List (List Int)), k ≤ N ∧ x = .int .i64 k ∧ OIntss wx lo v acc.length acc ∧ Hid (acc ++ (List.range' k (A.length - k)).flatMap (fun a => if okN A hd a then fillL A r (hd ++ [(a : Int)]) else []) = R) ∧ W.grownBy wx ov.ownBlock ∧ NewOr W.heap.size ov v) (fun _ x _ => N - (intOf x).toNat)
  case atStart => exact ⟨0, out, Nat.zero_le _, rfl, HO.out, HR, World.grownBy.refl W _, NewOr.refl _ _⟩
  case round =>
    obtain ⟨k, acc, hk, rfl, hown, heq, hg, hno⟩ := hrel
    obtain ⟨wx, rfl⟩ : ∃ wx : World, wx = wr := ⟨_, rfl⟩
    have Hown := Lib.hid hown
    have Hg := Lib.hid hg
    have Hno := Lib.hid hno
    have Hsz : Hid (lo ≤ wx.heap.size) := Nat.le_trans hlo hg.size
    have HB : Hid (Below lo W wx) := (Below.refl lo W).grown hg hlo fun b hb => (HO.out.ownlt b hb).1
    have HKx := Lib.hid (HK.out wx hg)
    have HAx := Lib.hid (HA.out wx HB.out)
    clear hown hg hno HO HR
    by_cases hlt : k < N
    · have HkA : Hid (k < A.length) := by show k < A.length; rw [HAN.out]; exact hlt
      have HIk := Lib.hid (HI.out.snoc hlt)
      obtain ⟨b1, o1, a1, c1, ak, e1, q1, hrow1, hget1⟩ := HAx.out.at_ hlt
      subst e1
      obtain ⟨x', y', rfl⟩ := HA2.out _ _ hget1.out
      obtain ⟨b2, o2, u2, rfl, q2, hgx⟩ := hrow1.at_ (k := 0) (by simp)
      simp at hgx
      obtain rfl := hgx.out
      have HG1 := Lib.hid hget1.out
      clear hget1 hgx hrow1
      simp only [List.length_cons, List.length_nil] at q1
      rw [Nat.add_zero] at q2
      have HOK : Hid (okN A hd k = true) := ok_zero HHL.out
      have HQ := Lib.hid (fill_yes HkA.out HOK.out heq.out)
      have hMx : (acc ++ fillL A r (hd ++ [(k : Int)])).length ≤ 1099511627776 := Nat.le_trans (toCome_le HQ.out) HM.out
      have HMx := Lib.hid hMx
      clear heq hMx
      go_wp2_with fail
      go_quiet (fail)
      skip
      go_wp2_with (first
        | (go_at_call 110; refine (HIH.out _ wx _ _ (hd ++ [(k : Int)]) acc (by simp; have := HHL.out; omega) HIk.out Hown.out Hsz.out (fun W' hW' => HA.out W' (HB.out.trans hW')) Hb2.out (by simpa [HHL.out] using Ho2.out) HMx.out).mono ?_; rintro e w5 ⟨v5, rfl, ho5, hg5, hn5⟩; have Ho5 := Lib.hid ho5; have Hg5 : Hid (W.grownBy w5 ov.ownBlock) := grown_two (Hg.out.trans (grown_below Hb2.out _)) Hno.out hg5; have Hn5 : Hid (NewOr W.heap.size ov v5) := Hno.out.trans hn5 (Nat.le_trans Hg.out.size Hb2.out.size); clear ho5 hg5 hn5)
        | (at_builtin; refine wpList_push_one w1 _ rfl (.tmp 51) (.tmp 53) rfl wx.heap.size v1 0 hd rfl Ho1.out (by omega) Hb1.out.size _ rfl rfl ?_; intro v2 w2 ho2 hb2; have Ho2 := Lib.hid ho2; have Hb2 := Lib.hid (Hb1.out.trans hb2); clear ho2 hb2)
        | (at_builtin; refine wpList_app_ints _ rfl (.tmp 49) (.tmp 50) rfl wx.heap.size _ 0 [] rfl (OInts.empty _ _ (Nat.le_refl _)) hp 0 hc hd rfl (HKx.out.keep ((below_drewN (Below.refl _ _) _).alloc (Nat.le_refl _) _)) (by omega) (by simp) ?_; intro v1 w1 ho1 hg1; rw [Nat.zero_add, List.nil_append] at ho1; have Ho1 := Lib.hid ho1; have Hb1 : Hid (Below wx.heap.size wx w1) := ((below_drewN (Below.refl _ _) _).alloc (Nat.le_refl _) _).grown hg1 (by simp) (fun b hb => ((OInts.empty _ _ (Nat.le_refl _)).ownlt b hb).1); clear ho1 hg1))
      go_roundw
      case rel => first | exact ⟨k + 1, _, hlt, by go_num, Ho5.out, HQ, Hg5.out, Hn5.out⟩ | ((repeat apply Exists.intro); exact ⟨⟨k + 1, _, hlt, by go_num, Ho5.out, HQ, Hg5.out, Hn5.out⟩, rfl⟩)
      case measure => simp [intOf]; omega
    · have HQ := Lib.hid (range_end (by have := HAN.out; omega) heq.out)
      clear heq
      go_wp2_with fail
      go_ret
      have h9 := Hown.out
      rw [HQ.out] at h9
      exact ⟨_, rfl, h9, Hg.out, Hno.out⟩
set_option maxRecDepth 20000 in
set_option maxHeartbeats 6400000 in
theorem sFill_stepS (p : Option Addr) (N c t r lo : Nat) (A : List (List Int)) (hA2 : ∀ (k : Nat) (a : List Int), A[k]? = some a → ∃ x y : Int, a = [x, y]) (ht : t ≤ 6) (hN : N ≤ 60) (hAN : A.length = N)
    (IH : ∀ (W wr : World) (hv ov : Value) (hd : List Int) (out : List (List Int)), hd.length + r = t → Idx N hd → OIntss wr lo ov out.length out → lo ≤ wr.heap.size → (∀ W', Below lo wr W' → Intss W' p N A) → Below wr.heap.size wr W → OInts W wr.heap.size hv hd.length hd → (out ++ fillL A r hd).length ≤ 1099511627776 →
      Calls Tryz.prog 110 #[.slice p N c, .int .i64 t, hv, ov] W (fillPost W lo ov (out ++ fillL A r hd)))
    (W : World) (hp : Option Addr) (hn hc : Nat) (hd : List Int) (ov : Value) (out : List (List Int)) (hlen : hd.length + (r + 1) = t) (hi : Idx N hd) (ho : OIntss W lo ov out.length out) (hlo : lo ≤ W.heap.size)
    (hk : ∀ W', W.grownBy W' ov.ownBlock → Ints W' hp hn hd) (ha : ∀ W', Below lo W W' → Intss W' p N A) (hnp : 0 < hn) (hM : (out ++ fillL A (r + 1) hd).length ≤ 1099511627776) :
    Calls Tryz.prog 110 #[.slice p N c, .int .i64 t, .slice hp hn hc, ov] W (fillPost W lo ov (out ++ fillL A (r + 1) hd)) := by
  have HHL : Hid (hd.length = hn) := (hk W (World.grownBy.refl W _)).1
  have hnt : hn + (r + 1) = t := by rw [← HHL.out]; exact hlen
  have HA2 := Lib.hid hA2
  have HAN := Lib.hid hAN
  have HI := Lib.hid hi
  have HO := Lib.hid ho
  have HK := Lib.hid hk
  have HA := Lib.hid ha
  have HIH := Lib.hid IH
  have hR : out ++ (List.range' 0 (A.length - 0)).flatMap (fun a => if okN A hd a then fillL A r (hd ++ [(a : Int)]) else []) = out ++ fillL A (r + 1) hd := by rw [fillL, Nat.sub_zero]
  generalize out ++ fillL A (r + 1) hd = R at hR hM ⊢
  have HR := Lib.hid hR
  have HM := Lib.hid hM
  have hne : ((hn : Int) == (t : Int)) = false := by simp; omega
  clear hA2 hAN hi ho hk ha IH hR hM hlen
  go_enter Tryz.func110, Tryz.ntmps110
  go_wp2_with fail
  clear hne
  go_loopw [3, 9] (fun v x wx => ∃ (k : Nat) (acc : List (List Int)), k ≤ N ∧ x = .int .i64 k ∧ OIntss wx lo v acc.length acc ∧ Hid (acc ++ (List.range' k (A.length - k)).flatMap (fun a => if okN A hd a then fillL A r (hd ++ [(a : Int)]) else []) = R) ∧ W.grownBy wx ov.ownBlock ∧ NewOr W.heap.size ov v) (fun _ x _ => N - (intOf x).toNat)
  case atStart => exact ⟨0, out, Nat.zero_le _, rfl, HO.out, HR, World.grownBy.refl W _, NewOr.refl _ _⟩
  case round =>
    obtain ⟨k, acc, hk, rfl, hown, heq, hg, hno⟩ := hrel
    obtain ⟨wx, rfl⟩ : ∃ wx : World, wx = wr := ⟨_, rfl⟩
    have Hown := Lib.hid hown
    have Hg := Lib.hid hg
    have Hno := Lib.hid hno
    have Hsz : Hid (lo ≤ wx.heap.size) := Nat.le_trans hlo hg.size
    have HB : Hid (Below lo W wx) := (Below.refl lo W).grown hg hlo fun b hb => (HO.out.ownlt b hb).1
    have HKx := Lib.hid (HK.out wx hg)
    have HAx := Lib.hid (HA.out wx HB.out)
    clear hown hg hno HO HR
    by_cases hlt : k < N
    · have HkA : Hid (k < A.length) := by show k < A.length; rw [HAN.out]; exact hlt
      have HIk := Lib.hid (HI.out.snoc hlt)
      obtain ⟨b1, o1, a1, c1, ak, e1, q1, hrow1, hget1⟩ := HAx.out.at_ hlt
      subst e1
      obtain ⟨x', y', rfl⟩ := HA2.out _ _ hget1.out
      obtain ⟨b2, o2, u2, rfl, q2, hgx⟩ := hrow1.at_ (k := 0) (by simp)
      simp at hgx
      obtain rfl := hgx.out
      have HG1 := Lib.hid hget1.out
      clear hget1 hgx hrow1
      simp only [List.length_cons, List.length_nil] at q1
      rw [Nat.add_zero] at q2
      obtain ⟨q, hq⟩ : ∃ q, hn = q + 1 := ⟨hn - 1, by omega⟩
      have hz : ((hn : Int) == 0) = false := by simp; omega
      have hw : IntKind.i64.wrap ((hn : Int) - 1) = (q : Int) := by rw [IntKind.wrap_i64]; omega
      have hqn : q < hn := by omega
      have HHQ : Hid (hd.length = q + 1) := by show _ = _; rw [HHL.out, hq]
      clear hq
      obtain ⟨b3, o3, xb, rfl, q3, hgb⟩ := HKx.out.at_ (k := q) hqn
      have hbr := HI.out _ (List.mem_of_getElem? hgb.out)
      obtain ⟨bb, rfl⟩ : ∃ bb : Nat, xb = bb := ⟨xb.toNat, by omega⟩
      have hbN : bb < N := by omega
      obtain ⟨b4, o4, a4, c4, ab, e4, q4, hrow4, hget4⟩ := HAx.out.at_ hbN
      injection e4 with e4
      injection e4 with e5 e6
      subst e5
      subst e6
      obtain ⟨x4, y4, rfl⟩ := HA2.out _ _ hget4.out
      obtain ⟨b5, o5, u5, rfl, q5, hgy⟩ := hrow4.at_ (k := 1) (by simp)
      simp at hgy
      obtain rfl := hgy.out
      have HG4 := Lib.hid hget4.out
      have HGB := Lib.hid hgb.out
      clear hget4 hgy hrow4 hgb hbr
      simp only [List.length_cons, List.length_nil] at q4
      have HOF := Lib.hid (ok_of HHQ.out HGB.out HG4.out HG1.out)
      by_cases hxy : y4 = x'
      · have hd5 : (y4 == x') = true := by simp [hxy]
        have HOK : Hid (okN A hd k = true) := by show _ = _; rw [HOF.out]; simp [hxy]
        clear hxy
        have HQ := Lib.hid (fill_yes HkA.out HOK.out heq.out)
        have hMx : (acc ++ fillL A r (hd ++ [(k : Int)])).length ≤ 1099511627776 := Nat.le_trans (toCome_le HQ.out) HM.out
        have HMx := Lib.hid hMx
        clear heq hMx
        go_wp2_with fail
        go_quiet (fail)
        clear hz hd5 hw hqn
        go_wp2_with (first
          | (go_at_call 110; refine (HIH.out _ wx _ _ (hd ++ [(k : Int)]) acc (by simp; have := HHL.out; omega) HIk.out Hown.out Hsz.out (fun W' hW' => HA.out W' (HB.out.trans hW')) Hb2.out (by simpa [HHL.out] using Ho2.out) HMx.out).mono ?_; rintro e w5 ⟨v5, rfl, ho5, hg5, hn5⟩; have Ho5 := Lib.hid ho5; have Hg5 : Hid (W.grownBy w5 ov.ownBlock) := grown_two (Hg.out.trans (grown_below Hb2.out _)) Hno.out hg5; have Hn5 : Hid (NewOr W.heap.size ov v5) := Hno.out.trans hn5 (Nat.le_trans Hg.out.size Hb2.out.size); clear ho5 hg5 hn5)
          | (at_builtin; refine wpList_push_one w1 _ rfl (.tmp 51) (.tmp 53) rfl wx.heap.size v1 hn hd rfl Ho1.out (by omega) Hb1.out.size _ rfl rfl ?_; intro v2 w2 ho2 hb2; have Ho2 := Lib.hid ho2; have Hb2 := Lib.hid (Hb1.out.trans hb2); clear ho2 hb2)
          | (at_builtin; refine wpList_app_ints _ rfl (.tmp 49) (.tmp 50) rfl wx.heap.size _ 0 [] rfl (OInts.empty _ _ (Nat.le_refl _)) (some ⟨b3, o3, none⟩) hn hc hd rfl (HKx.out.keep ((below_drewN (Below.refl _ _) _).alloc (Nat.le_refl _) _)) (by omega) (by simp) ?_; intro v1 w1 ho1 hg1; rw [Nat.zero_add, List.nil_append] at ho1; have Ho1 := Lib.hid ho1; have Hb1 : Hid (Below wx.heap.size wx w1) := ((below_drewN (Below.refl _ _) _).alloc (Nat.le_refl _) _).grown hg1 (by simp) (fun b hb => ((OInts.empty _ _ (Nat.le_refl _)).ownlt b hb).1); clear ho1 hg1))
        go_roundw
        case rel => first | exact ⟨k + 1, _, hlt, by go_num, Ho5.out, HQ, Hg5.out, Hn5.out⟩ | ((repeat apply Exists.intro); exact ⟨⟨k + 1, _, hlt, by go_num, Ho5.out, HQ, Hg5.out, Hn5.out⟩, rfl⟩)
        case measure => simp [intOf]; omega
      · have hd5 : (y4 == x') = false := by simp [hxy]
        have HOK : Hid (okN A hd k = false) := by show _ = _; rw [HOF.out]; simp [hxy]
        clear hxy
        have HQ := Lib.hid (fill_no HkA.out HOK.out heq.out)
        clear heq
        go_wp2_with fail
        go_quiet (fail)
        clear hz hd5 hw hqn
        go_wp2_with fail
        go_roundw
        case rel => first | exact ⟨k + 1, acc, hlt, by go_num, Hown.out.drewN _, HQ, Hg.out.trans (grown_drewN2 _ _ _), Hno.out⟩ | ((repeat apply Exists.intro); exact ⟨⟨k + 1, acc, hlt, by go_num, Hown.out.drewN _, HQ, Hg.out.trans (grown_drewN2 _ _ _), Hno.out⟩, rfl⟩)
        case measure => simp [intOf]; omega
    · have HQ := Lib.hid (range_end (by have := HAN.out; omega) heq.out)
      clear heq
      go_wp2_with fail
      go_ret
      have h9 := Hown.out
      rw [HQ.out] at h9
      exact ⟨_, rfl, h9, Hg.out, Hno.out⟩
end Go.Proofs.YtonfdiaefkghbaaGreatDoor

namespace Go.Proofs.YtonfdiaefkghbaaGreatDoor
open Go.RowKit
set_option linter.all false
set_option maxHeartbeats 1600000 in
theorem sL4One_any (n : Nat) (w : World) (hn : n ≤ 1048576) :
    Calls Tryz.prog 115 #[.int .i64 n] w fun e w' => ∃ v, e = .returned v ∧ OIntss w' w.heap.size v n (oneT n) ∧ Below w.heap.size w w' := by
  go_enter Tryz.func115, Tryz.ntmps115
  go_wp2_with fail
  refine (sL4Zero_any n n _ hn hn).mono ?_
  rintro e w1 ⟨v, rfl, hown, hb⟩
  go_wp2_with fail
  go_loopw [4] (fun i wr => ∃ k : Nat, k ≤ n ∧ i = .int .i64 k ∧ OIntss wr w.heap.size v n ((oneT n).take k ++ List.replicate (n - k) (List.replicate n 0)) ∧ Below w.heap.size w wr) (fun i _ => n - (intOf i).toNat)
  case atStart => exact ⟨0, Nat.zero_le _, rfl, by rw [fill_start]; exact hown, hb⟩
  case round =>
    obtain ⟨k, hk, rfl, hown, hb⟩ := hrel
    by_cases hlt : k < n
    · rw [fill_open hlt] at hown
      obtain ⟨g, cap, rfl⟩ := hown.head (by omega)
      have hAl : ((oneT n).take k).length = k := take_len (by rw [oneT_len]; omega)
      obtain ⟨gk, ck, hc, ho, hne, hlo⟩ := hown.rowAt (at_mid hAl) (by simp; omega)
      have hset := hown.setIn (at_mid hAl) hc ho k 1
      rw [set_mid hAl] at hset
      have hset' := (congrArg (OIntss _ w.heap.size _ n) (fill_shut (oneT_get hlt))) ▸ hset
      have hc0 := ho.cell k (by simp; omega)
      have hf0 := ho.frozen k
      have hb' := hb.setCell (p := ⟨gk, k, none⟩) hlo (.int .i64 1)
      simp only [List.length_replicate] at hc hc0
      clear hown ho hset hb hAl
      go_wp2_with fail
      go_roundw
      case rel => exact ⟨k + 1, hlt, by go_num, hset', hb'⟩
      case measure => simp [intOf]; omega
    · go_wp2_with fail
      go_ret
      have : k = n := by omega
      subst this
      rw [fill_end (oneT_len k)] at hown
      exact ⟨_, rfl, hown, hb⟩
end Go.Proofs.YtonfdiaefkghbaaGreatDoor

namespace Go.Proofs.YtonfdiaefkghbaaGreatDoor
open Go.RowKit
set_option linter.all false
set_option maxHeartbeats 800000 in
theorem sSumOf_any (ao : Option Addr) (n cap : Nat) (xss : List (List Int)) (w : World) (h : Intss w ao n xss) :
    Calls Tryz.prog 142 #[.slice ao n cap] w fun e w' => e = .returned (.int .i64 (sumOf xss)) ∧ w = w' := by
  have hm := h.2.1
  have HL := Lib.hid h.1
  have H := Lib.hid h
  clear h
  cases hmat : isMat xss
  · have hg : Hid (sumOf xss = -1) := by show sumOf xss = _; simp [sumOf, hmat]
    go_enter Tryz.func142, Tryz.ntmps142
    go_wp2_with (first | (go_at_call 69; refine (sIsMatrix_any _ _ _ xss _ H.out).mono ?_; rintro e w' ⟨rfl, rfl⟩))
    go_ret
    exact ⟨ret_int hg.out.symm, rfl⟩
  · have hg : Hid (sumOf xss = msum xss) := by show sumOf xss = _; simp [sumOf, hmat]
    have HM := Lib.hid hmat
    have hms := isMat_msum hmat
    go_enter Tryz.func142, Tryz.ntmps142
    go_wp2_with (first | (go_at_call 69; refine (sIsMatrix_any _ _ _ xss _ H.out).mono ?_; rintro e w' ⟨rfl, rfl⟩))
    go_loop [3, 4] (fun s i => ∃ (k : Nat) (t : Int), k ≤ n ∧ i = .int .i64 k ∧ s = .int .i64 t ∧ 0 ≤ t ∧ Hid (t + msum (xss.drop k) = msum xss)) (fun _ i => n - (intOf i).toNat)
    case atStart => exact ⟨0, 0, Nat.zero_le _, rfl, rfl, by omega, Int.zero_add _⟩
    case round =>
      obtain ⟨k, t, hk, rfl, rfl, ht, hr⟩ := hrel
      by_cases hlt : k < n
      · obtain ⟨b, o, ai, ci, r, rfl, hcell, hrow, hget⟩ := H.out.at_ hlt
        have Hrow := Lib.hid hrow
        clear hrow H
        have HR := Lib.hid (isMat_row HM.out hget.out)
        have hrl : r.length ≤ n := by have := HR.out.1; have := HL.out; omega
        have hrl' : n ≤ r.length := by have := HR.out.1; have := HL.out; omega
        have h2 := rest_nonneg HM.out (k + 1)
        have hd := hr.out
        rw [drop_of_get hget.out, msum_cons] at hd
        have hr0 : Hid (t + r.sum + msum (xss.drop (k + 1)) = msum xss) := by show t + r.sum + msum (xss.drop (k + 1)) = msum xss; omega
        have hq : t + r.sum ≤ 81000000 := by omega
        clear hr hd h2
        go_wp2
        go_loop [3, 5] (fun s i => ∃ (j : Nat) (u : Int), j ≤ n ∧ i = .int .i64 j ∧ s = .int .i64 u ∧ 0 ≤ u ∧ Hid (u + (r.drop j).sum = t + r.sum)) (fun _ i => n - (intOf i).toNat)
        case atStart => exact ⟨0, t, Nat.zero_le _, rfl, rfl, ht, rfl⟩
        case round =>
          obtain ⟨j, u, hj, rfl, rfl, hu, hrj⟩ := hrel
          by_cases hjn : j < n
          · obtain ⟨b', o', x, rfl, hcell', hget'⟩ := Hrow.out.at_ (k := j) (by omega)
            have hjr : j < r.length := by omega
            have hx := allIn_get HR.out.2 hget'.out
            have h4 := rest_row (by decide) HR.out.2 (j + 1)
            have hd := hrj.out
            rw [drop_of_get hget'.out, List.sum_cons] at hd
            have h5 : u + x ≤ 81000000 := by omega
            have hr1 : Hid (u + x + (r.drop (j + 1)).sum = t + r.sum) := by show u + x + (r.drop (j + 1)).sum = t + r.sum; omega
            clear hrj hd h4 Hrow
            go_wp2
            go_round
            case rel => exact ⟨j + 1, _, hjn, by go_num, rfl, by omega, hr1⟩
            case measure => simp [intOf]; omega
          · have hr1 : Hid (u + msum (xss.drop (k + 1)) = msum xss) := by
              have h6 := hrj.out
              rw [drop_all r j (by omega), List.sum_nil, Int.add_zero] at h6
              have h7 := hr0.out
              show u + msum (xss.drop (k + 1)) = msum xss
              omega
            clear hrj Hrow
            go_wp2
            go_round
            case rel => exact ⟨k + 1, _, hlt, by go_num, rfl, hu, hr1⟩
            case measure => simp [intOf]; omega
      · go_wp2
        go_ret
        rw [drop_all xss k (by have := HL.out; omega)] at hr
        exact ⟨ret_int (by rw [hg.out, ← hr.out]; simp [msum]), rfl⟩
end Go.Proofs.YtonfdiaefkghbaaGreatDoor

namespace Go.Proofs.YtonfdiaefkghbaaGreatDoor
open Go.RowKit
set_option linter.all false
set_option maxHeartbeats 800000 in
theorem sIsGraph_any (ao : Option Addr) (n cap : Nat) (xss : List (List Int)) (w : World) (h : Intss w ao n xss) :
    Calls Tryz.prog 107 #[.slice ao n cap] w fun e w' => e = .returned (.bool (isGraph xss)) ∧ w = w' := by
  have H := Lib.hid h
  clear h
  cases hmat : isMat xss
  · have hg : Hid (isGraph xss = false) := by show isGraph xss = _; simp [isGraph, hmat]
    go_enter Tryz.func107, Tryz.ntmps107
    go_wp2_with (first | (go_at_call 69; refine (sIsMatrix_any _ _ _ xss _ H.out).mono ?_; rintro e w' ⟨rfl, rfl⟩))
    go_ret
    exact ⟨ret_bool hg.out.symm, rfl⟩
  · have hg : Hid (isGraph xss = decide (sumOf xss ≤ 60)) := by show isGraph xss = _; simp [isGraph, hmat]
    go_enter Tryz.func107, Tryz.ntmps107
    go_wp2_with (first | (go_at_call 69; refine (sIsMatrix_any _ _ _ xss _ H.out).mono ?_; rintro e w' ⟨rfl, rfl⟩) | (go_at_call 142; refine (sSumOf_any _ _ _ xss _ H.out).mono ?_; rintro e w' ⟨rfl, rfl⟩))
    go_ret
    exact ⟨ret_bool hg.out.symm, rfl⟩
end Go.Proofs.YtonfdiaefkghbaaGreatDoor

namespace Go.Proofs.YtonfdiaefkghbaaGreatDoor
open Go.RowKit
set_option linter.all false
theorem graph_arcs {m : List (List Int)} (h : isGraph m = true) : isMat m = true ∧ sumOf m ≤ 60 ∧ ((arcsL m).length : Int) = sumOf m := by
  have hm : isMat m = true := by
    cases e : isMat m
    · simp [isGraph, e] at h
    · rfl
  simp [isGraph, hm] at h
  exact ⟨hm, h, arcsL_len hm⟩
def arcsV (m : List (List Int)) : List (List Int) := if isGraph m then arcsL m else []
set_option maxHeartbeats 800000 in
theorem sArcsOf_any (p : Option Addr) (n c : Nat) (m : List (List Int)) (w : World) (h : Intss w p n m) :
    Calls Tryz.prog 63 #[.slice p n c] w fun e w' => ∃ v, e = .returned v ∧ OIntss w' w.heap.size v (arcsV m).length (arcsV m) ∧ Below w.heap.size w w' := by
  have H := Lib.hid h
  clear h
  cases hg : isGraph m
  · have hv : Hid (arcsV m = []) := by show _ = _; simp [arcsV, hg]
    go_enter Tryz.func63, Tryz.ntmps63
    go_wp2_with (go_at_call 107; refine (sIsGraph_any _ _ _ m _ H.out).mono ?_; rw [hg]; rintro e w' ⟨rfl, rfl⟩)
    go_ret
    rw [hv.out]
    exact ⟨_, rfl, OIntss.empty _ _ (Nat.le_refl _), (Below.refl _ _).alloc (Nat.le_refl _) _⟩
  · have hv : Hid (arcsV m = arcsL m) := by show _ = _; simp [arcsV, hg]
    have HA := Lib.hid (graph_arcs hg)
    have HG := Lib.hid hg
    clear hg
    go_enter Tryz.func63, Tryz.ntmps63
    go_wp2_with fail
    refine (sIsGraph_any _ _ _ m _ H.out).mono ?_
    rw [HG.out]
    rintro e w' ⟨rfl, rfl⟩
    go_wp2_with fail
    refine (sArcs5_any _ _ _ m _ H.out HA.out.1 (by have := HA.out; omega)).mono ?_
    rintro e w1 ⟨v1, rfl, ho1, hb1⟩
    have Ho1 := Lib.hid ho1
    have Hb1 := Lib.hid hb1
    clear ho1 hb1
    go_wp2_with fail
    go_ret
    rw [hv.out]
    exact ⟨_, rfl, Ho1.out, Hb1.out⟩
end Go.Proofs.YtonfdiaefkghbaaGreatDoor

namespace Go.Proofs.YtonfdiaefkghbaaGreatDoor
open Go.RowKit
set_option linter.all false
set_option maxHeartbeats 800000 in
theorem sameTexts_same (ao : Option Addr) (n cap : Nat) (ao' : Option Addr) (n' cap' : Nat) (ss : List ByteArray) (w : World) (h : Strs w ao n ss) (h' : Strs w ao' n' ss) :
    Calls Tryz.prog 18 #[.slice ao n cap, .slice ao' n' cap'] w fun e w' => e = .returned (.bool true) ∧ Drew w w' := by
  have hn := h.1
  have hn' := h'.1
  have hm := h.2.1
  obtain rfl : n' = n := by omega
  have H := Lib.hid h
  have H' := Lib.hid h'
  have hl1 : ((n' : Int) != (n' : Int)) = false := by simp
  clear h h' hn hn'
  go_enter Tryz.func18, Tryz.ntmps18
  go_wp2_with fail
  go_loopw [5] (fun i wr => ∃ k : Nat, k ≤ n' ∧ i = .int .i64 k ∧ Drew w wr) (fun i _ => n' - (intOf i).toNat)
  case atStart => exact ⟨0, Nat.zero_le _, rfl, Drew.refl w⟩
  case round =>
    obtain ⟨k, hk, rfl, ⟨m, rfl⟩⟩ := hrel
    by_cases hlt : k < n'
    · obtain ⟨b, o, s, rfl, hc, hs⟩ := H.out.at_ hlt
      obtain ⟨b', o', s', rfl, hc', hs'⟩ := H'.out.at_ hlt
      obtain rfl : s' = s := Option.some.inj (hs'.out.symm.trans hs.out)
      clear hs hs'
      go_wp2_with fail
      go_quiet (fail)
      go_wp2_with fail
      go_roundw
      case rel => exact ⟨k + 1, hlt, by go_num, (by first | exact Drew.refl _ | exact Drew.mk _ _ | exact (Drew.mk _ _).drewN _)⟩
      case measure => simp [intOf]; omega
    · go_wp2_with fail
      go_ret
      exact ⟨rfl, (by first | exact Drew.refl _ | exact Drew.mk _ _ | exact (Drew.mk _ _).drewN _)⟩
end Go.Proofs.YtonfdiaefkghbaaGreatDoor

namespace Go.Proofs.YtonfdiaefkghbaaGreatDoor
open Go.RowKit
set_option linter.all false
set_option maxHeartbeats 1600000 in
theorem iMoeb_any (n : Int) (w : World) : Calls Tryz.prog 102 #[.int .i64 n] w fun e w' => e = .returned (.int .i64 (moeb n)) ∧ w = w' := by
  by_cases hl : n < 1
  · have hg : Hid (moeb n = 0) := by show _ = _; simp [moeb, inR_no (x := n) (lo := 1) (hi := 1000) (.inl hl)]
    go_enter Tryz.func102, Tryz.ntmps102
    go_wp2_with fail
    go_ret
    exact ⟨ret_int hg.out.symm, rfl⟩
  by_cases hh : 1000 < n
  · have hg : Hid (moeb n = 0) := by show _ = _; simp [moeb, inR_no (x := n) (lo := 1) (hi := 1000) (.inr hh)]
    have hd1 : decide (n < 1) = false := by simpa using hl
    go_enter Tryz.func102, Tryz.ntmps102
    go_wp2_with fail
    go_ret
    exact ⟨ret_int hg.out.symm, rfl⟩
  have h1 : inR n 1 1000 = true := inR_mk ⟨by omega, by omega⟩
  have hd1 : decide (n < 1) = false := by simpa using hl
  have hd2 : decide (1000 < n) = false := by simpa using hh
  have hb := inR_true h1
  obtain ⟨n0, rfl⟩ := Int.eq_ofNat_of_zero_le (show 0 ≤ n by omega)
  have HM : Hid (mb (1001 - 2) n0 2 1 = moeb (n0 : Int)) := by show _ = _; simp [moeb, h1]
  have hn0 : n0 ≤ 1000 := by omega
  clear hb
  go_enter Tryz.func102, Tryz.ntmps102
  go_wp2_with fail
  clear h1
  go_loop [0, 3, 4] (fun vn vo vp => ∃ (n p : Nat) (o : Int), vn = .int .i64 n ∧ vo = .int .i64 o ∧ vp = .int .i64 p ∧ n ≤ 1000 ∧ 2 ≤ p ∧ p ≤ 1001 ∧ -1 ≤ o ∧ o ≤ 1 ∧ Hid (mb (1001 - p) n p o = moeb (n0 : Int))) (fun _ _ vp => 1001 - (intOf vp).toNat)
  case atStart => exact ⟨n0, 2, 1, rfl, rfl, rfl, hn0, by omega, by omega, by omega, by omega, HM.out⟩
  case round =>
    clear hn0 HM
    obtain ⟨n, p, o, rfl, rfl, rfl, hn, hp2, hp1, ho1, ho2, hm⟩ := hrel
    by_cases hle : p ≤ n
    · have Hst := Lib.hid (mb_step hn hle hm)
      clear hm
      have hp0 : 0 < p := by omega
      have HD : n / p ≤ n := Nat.div_le_self n p
      have hq0 := (divI_bounds n p).1
      have hq1 : (n : Int) / (p : Int) ≤ 1000 := Int.le_trans (divI_bounds n p).2 (by omega)
      by_cases hz : n % p = 0
      · have hz1 := modI_z hz
        by_cases hz2 : n / p % p = 0
        · have hz3 := divmodI_z hz2
          have HR := Lib.hid (Hst.out.2.1 hz hz2)
          clear Hst hz hz2
          go_wp2_with fail
          go_ret
          exact ⟨ret_int HR.out.symm, rfl⟩
        · have hz3 := divmodI_nz hz2
          have HR := Hst.out.2.2 hz hz2
          clear Hst hz hz2
          go_wp2_with fail
          go_round
          case rel => exact ⟨n / p, p + 1, -o, by rw [divI], rfl, by go_num, by omega, by omega, by omega, by omega, by omega, HR⟩
          case measure => simp [intOf]; omega
      · have hz1 := modI_nz hz
        have HR := Hst.out.1 hz
        clear Hst hz
        go_wp2_with fail
        go_round
        case rel => exact ⟨n, p + 1, o, rfl, rfl, by go_num, by omega, by omega, by omega, by omega, by omega, HR⟩
        case measure => simp [intOf]; omega
    · have HR : Hid (o = moeb (n0 : Int)) := by have := hm.out; rw [mb_stop (by omega)] at this; exact this
      clear hm
      go_wp2_with fail
      go_ret
      exact ⟨ret_int HR.out, rfl⟩
end Go.Proofs.YtonfdiaefkghbaaGreatDoor

namespace Go.Proofs.YtonfdiaefkghbaaGreatDoor
open Go.RowKit
set_option linter.all false
set_option maxHeartbeats 1600000 in
theorem iTrace_any (ao : Option Addr) (n cap : Nat) (p : List (List Int)) (w : World) (h : Intss w ao n p) (hp : isMat p = true) :
    Calls Tryz.prog 138 #[.slice ao n cap] w fun e w' => e = .returned (.int .i64 (trc 0 0 p)) ∧ w = w' := by
  have hm := h.2.1
  have HL : Hid (p.length = n) := h.1
  have H := Lib.hid h
  have HP := Lib.hid hp
  clear h
  go_enter Tryz.func138, Tryz.ntmps138
  clear hp
  go_wp2_with fail
  go_loop [3, 8] (fun s x => ∃ (k : Nat) (t : Int), k ≤ n ∧ x = .int .i64 k ∧ s = .int .i64 t ∧ Hid (trc k t (p.drop k) = trc 0 0 p)) (fun _ x => n - (intOf x).toNat)
  case atStart => exact ⟨0, 0, Nat.zero_le _, rfl, rfl, rfl⟩
  case round =>
    obtain ⟨k, t, hk, rfl, rfl, hr⟩ := hrel
    by_cases hlt : k < n
    · obtain ⟨b, o, ai, ci, r, rfl, hcell, hrow, hget⟩ := H.out.at_ hlt
      have hrl : k < r.length := by have := (isMat_row HP.out hget.out).1; have := HL.out; omega
      obtain ⟨b', o', x, rfl, hcx, hgx⟩ := hrow.at_ hrl
      have HS := Lib.hid (trc_step hget.out hgx.out hr.out)
      clear hrow hget hgx hr
      go_wp2_with fail
      go_round
      case rel => exact ⟨k + 1, _, hlt, by go_num, rfl, HS.out⟩
      case measure => simp [intOf]; omega
    · have e : k = n := by omega
      have HE : Hid (t = trc 0 0 p) := by have := hr.out; rw [drop_all p k (by rw [HL.out]; omega)] at this; exact this
      clear hr
      go_wp2_with fail
      go_ret
      exact ⟨ret_int HE.out, rfl⟩
end Go.Proofs.YtonfdiaefkghbaaGreatDoor

namespace Go.Proofs.YtonfdiaefkghbaaGreatDoor
open Go.RowKit
set_option linter.all false
set_option maxHeartbeats 3200000 in
theorem iTimes_any (pa : Option Addr) (na ca : Nat) (a : List (List Int)) (pb : Option Addr) (nb cb : Nat) (b : List (List Int)) (c : Nat) (w : World) (ha : Intss w pa na a) (hb : Intss w pb nb b)
    (hra : RowsLen a nb) (hrb : RowsLen b c) (hna : na ≤ 1048576) (hc : c ≤ 1048576) (hnb : 0 < nb) :
    Calls Tryz.prog 145 #[.slice pa na ca, .slice pb nb cb] w fun e w' => ∃ v, e = .returned v ∧ OIntss w' w.heap.size v na (mulT a b c) ∧ Below w.heap.size w w' := by
  have hmb := hb.2.1
  have HA := Lib.hid ha
  have HB := Lib.hid hb
  have HRA := Lib.hid hra
  have HRB := Lib.hid hrb
  have HLA : Hid (a.length = na) := ha.1
  have HLB : Hid (b.length = nb) := hb.1
  obtain ⟨b0, o0, a0, c0, r0, rfl, hc0, hrow0, hget0⟩ := hb.at_ hnb
  have hr0 : r0.length = c := hrb _ _ hget0.out
  rw [hr0, Nat.add_zero] at hc0
  have HC0 := Lib.hid hc0
  clear ha hb hra hrb hrow0 hget0 hr0 hc0
  have hmk := make_ints c (by omega)
  go_enter Tryz.func145, Tryz.ntmps145
  go_wp2_with fail
  go_loopw [5, 16] (fun v i wr => ∃ k : Nat, k ≤ na ∧ i = .int .i64 k ∧ OIntss wr w.heap.size v k ((mulT a b c).take k) ∧ Below w.heap.size w wr) (fun _ i _ => na - (intOf i).toNat)
  case atStart => exact ⟨0, Nat.zero_le _, rfl, OIntss.empty w _ (Nat.le_refl _), (Below.refl _ _).alloc (Nat.le_refl _) _⟩
  case round =>
    obtain ⟨i, hi, rfl, hown, hbl⟩ := hrel
    obtain ⟨wo, rfl⟩ : ∃ wo : World, wo = wr := ⟨_, rfl⟩
    by_cases hlt : i < na
    · obtain ⟨b1, o1, a1, c1, ra, rfl, hca, hrow, hgeta⟩ := HA.out.at_ hlt
      have Hrow := Lib.hid hrow
      have HRL : Hid (ra.length = nb) := HRA.out _ _ hgeta.out
      have hrl1 : ra.length ≤ nb := by have := HRL.out; omega
      have h1 := (hbl.cell (World.block_lt_of_cell? w _ hca)).trans hca
      have h0 := (hbl.cell (World.block_lt_of_cell? w _ HC0.out)).trans HC0.out
      have Hown := Lib.hid hown
      have Hbl := Lib.hid hbl
      clear hrow hca hown hbl
      go_wp2_with fail
      clear h1 h0
      have hmade := OInts.made wo c (by omega)
      rw [← wline_zero b ra] at hmade
      go_loopw [27] (fun i' wx => ∃ k : Nat, k ≤ ra.length ∧ i' = .int .i64 k ∧ OInts wx wo.heap.size (.slice (some ⟨wo.heap.size, 0, none⟩) c c) c (wline b ra c k) ∧ Below wo.heap.size wo wx) (fun i _ => ra.length - (intOf i).toNat)
      case atStart => exact ⟨0, Nat.zero_le _, rfl, hmade, (Below.refl _ _).alloc (Nat.le_refl _) _⟩
      case round =>
        obtain ⟨k, hk, rfl, hline, hbx⟩ := hrel
        clear hmade
        have hbw := Hbl.out.trans (hbx.mono Hbl.out.size)
        by_cases hkr : k < ra.length
        · obtain ⟨b2, o2, a2, c2, rb, e, hcb, hrowb, hgetb⟩ := HB.out.at_ (k := k) (by omega)
          injection e with e
          injection e with e1 e2
          subst e1
          subst e2
          have hrbl : rb.length = c := HRB.out _ _ hgetb.out
          obtain ⟨b3, o3, x, rfl, hcx, hgetx⟩ := Hrow.out.at_ (k := k) hkr
          have h2 := (hbw.cell (World.block_lt_of_cell? w _ hcb)).trans hcb
          have h3 := (hbw.cell (World.block_lt_of_cell? w _ hcx)).trans hcx
          have hkb : k < nb := by omega
          have hlc1 : rb.length ≤ c := by omega
          have hlc2 : c ≤ rb.length := by omega
          have Hrowb := Lib.hid hrowb
          have Hline := Lib.hid hline
          have Hbx := Lib.hid hbx
          clear hrowb hrbl hcb hcx hline hbx hbw
          go_wp2_with fail
          clear h2 h3
          go_loopw [37] (fun i' wy => ∃ j : Nat, j ≤ rb.length ∧ i' = .int .i64 j ∧ OInts wy wo.heap.size (.slice (some ⟨wo.heap.size, 0, none⟩) c c) c ((wline b ra c (k + 1)).take j ++ (wline b ra c k).drop j) ∧ Below wo.heap.size wo wy) (fun i _ => c - (intOf i).toNat)
          case atStart => exact ⟨0, Nat.zero_le _, rfl, by simpa using Hline.out, Hbx.out⟩
          case round =>
            obtain ⟨j, hj, rfl, hline, hbx⟩ := hrel
            clear Hline Hbx
            have hbw := Hbl.out.trans (hbx.mono Hbl.out.size)
            by_cases hjc : j < rb.length
            · obtain ⟨b4, o4, y, rfl, hcy, hgety⟩ := Hrowb.out.at_ (k := j) hjc
              have HW : Hid (wd b ra (k + 1) j = wrap64 (wd b ra k j + wrap64 (x * y))) := wd_succ hgetx.out hgetb.out hgety.out
              have h4 := (hbw.cell (World.block_lt_of_cell? w _ hcy)).trans hcy
              have hjc' : j < c := by omega
              have h6 := hline.cell j hjc'
              rw [List.getD, mix_get (by rw [wline_len]; omega) (wline_get hjc'), Option.getD_some] at h6
              have h7 := hline.frozen j
              have hset := hline.set j (wd b ra (k + 1) j)
              rw [mix_set (wline_get hjc') (wline_get hjc')] at hset
              have hb' := hbx.setCell (p := ⟨wo.heap.size, j, none⟩) (Nat.le_refl _) (.int .i64 (wd b ra (k + 1) j))
              have Hset := Lib.hid hset
              have Hb' := Lib.hid hb'
              clear hset hb' hline hbx hbw hcy
              go_wp2_with fail
              go_roundw
              case rel => exact ⟨j + 1, hjc, by go_num, by rw [← HW.out]; first | exact Hset.out | exact Hset.out.drewN 1, by rw [← HW.out]; first | exact Hb'.out | exact Hb'.out.drew⟩
              case measure => simp [intOf]; omega
            · have hjc' : j = c := by omega
              subst hjc'
              rw [mix_end (wline_len b ra j (k + 1)) (wline_len b ra j k)] at hline
              have Hline := Lib.hid hline
              have Hbx := Lib.hid hbx
              clear hline hbx hbw
              go_wp2_with fail
              go_roundw
              case rel => exact ⟨k + 1, hkr, by go_num, Hline.out, Hbx.out⟩
              case measure => simp [intOf]; omega
        · rw [wline_end (by omega) (by have := HLB.out; have := HRL.out; omega)] at hline
          have Hline := Lib.hid hline
          have Hbx := Lib.hid hbx
          clear hline hbx hbw
          go_wp2_with (first | (at_builtin; refine wpList_push_fresh _ _ wo rfl _ _ rfl w.heap.size _ i _ rfl Hown.out (by omega) Hbl.out.size Hbx.out c _ Hline.out _ ?ctb rfl ?_))
          case ctb => rfl
          intro v' w' hown' hbel _
          rw [push_take (mulT_get hgeta.out)] at hown'
          have hb' := Hbl.out.trans hbel
          go_wp2_with fail
          go_roundw
          case rel => exact ⟨i + 1, hlt, by go_num, hown', hb'⟩
          case measure => simp [intOf]; omega
    · have Hown := Lib.hid hown
      have Hbl := Lib.hid hbl
      clear hown hbl
      go_wp2_with fail
      go_ret
      have : i = na := by omega
      subst this
      have h := Hown.out
      rw [List.take_of_length_le (by rw [mulT_len]; have := HLA.out; omega)] at h
      exact ⟨_, rfl, h, Hbl.out⟩
end Go.Proofs.YtonfdiaefkghbaaGreatDoor

namespace Go.Proofs.YtonfdiaefkghbaaGreatDoor
open Go.RowKit
set_option linter.all false
set_option maxHeartbeats 800000 in
theorem iIsMatrix_any (ao : Option Addr) (n cap : Nat) (xss : List (List Int)) (w : World) (h : Intss w ao n xss) :
    Calls Tryz.prog 67 #[.slice ao n cap] w fun e w' => e = .returned (.bool (isMat xss)) ∧ w = w' := by
  have hm := h.2.1
  have HL := Lib.hid h.1
  have H := Lib.hid h
  have hg0 : Hid (isMat xss = (tabIn n 0 1000000 xss && inR n 1 9)) := by show isMat xss = _; unfold isMat; rw [h.1]
  clear h
  by_cases h1 : n < 1
  · have hg : Hid (isMat xss = false) := by show isMat xss = _; rw [hg0.out, inR_no (.inl (by omega))]; simp
    have hd : decide ((n : Int) < 1) = true := by simp; omega
    clear H hg0
    go_enter Tryz.func67, Tryz.ntmps67
    go_wp2
    go_ret
    exact ⟨ret_bool hg.out.symm, rfl⟩
  · by_cases h9 : 9 < n
    · have hg : Hid (isMat xss = false) := by show isMat xss = _; rw [hg0.out, inR_no (.inr (by omega))]; simp
      have hd : decide ((n : Int) < 1) = false := by simp; omega
      clear H hg0
      go_enter Tryz.func67, Tryz.ntmps67
      go_wp2
      go_ret
      exact ⟨ret_bool hg.out.symm, rfl⟩
    · have hg : Hid (isMat xss = tabIn n 0 1000000 xss) := by show isMat xss = _; rw [hg0.out, inR_mk ⟨by omega, by omega⟩]; simp
      have hd : decide ((n : Int) < 1) = false := by simp; omega
      clear hg0
      go_enter Tryz.func67, Tryz.ntmps67
      go_wp2
      go_loop [17] (fun i => ∃ k : Nat, k ≤ n ∧ i = .int .i64 k ∧ Hid (tabIn n 0 1000000 (xss.drop k) = tabIn n 0 1000000 xss)) (fun i => n - (intOf i).toNat)
      case atStart => exact ⟨0, Nat.zero_le _, rfl, rfl⟩
      case round =>
        obtain ⟨k, hk, rfl, hr⟩ := hrel
        by_cases hlt : k < n
        · obtain ⟨b, o, ai, ci, r, rfl, hcell, hrow, hget⟩ := H.out.at_ hlt
          clear H
          have Hst := Lib.hid (tabIn_step hget.out hr.out)
          have Hrow := Lib.hid hrow
          clear hrow hr
          by_cases hrl : r.length = n
          · have hne : ((r.length : Int) != (n : Int)) = false := by simp [hrl]
            have hrl1 : r.length ≤ n := by omega
            have hrl2 : n ≤ r.length := by omega
            have HRL := Lib.hid hrl
            clear hrl
            go_wp2
            go_loop [28] (fun i => ∃ j : Nat, j ≤ r.length ∧ i = .int .i64 j ∧ Hid (allIn 0 1000000 (r.drop j) = allIn 0 1000000 r)) (fun i => n - (intOf i).toNat)
            case atStart => exact ⟨0, Nat.zero_le _, rfl, rfl⟩
            case round =>
              obtain ⟨j, hj, rfl, hrj⟩ := hrel
              by_cases hjr : j < r.length
              · obtain ⟨b', o', x, rfl, hcell', hget'⟩ := Hrow.out.at_ (k := j) hjr
                clear Hrow
                have Hsj := Lib.hid (allIn_step hget'.out hrj.out)
                clear hrj
                by_cases h0 : x < 0
                · have hr1 : Hid _ := Hst.out.2.1 (Hsj.out.2 (inR_no (.inl h0)))
                  clear Hst Hsj
                  have hx : decide (x < 0) = true := by simpa using h0
                  go_wp2
                  go_ret
                  exact ⟨ret_bool (by rw [hg.out, hr1.out]), rfl⟩
                · have hx : decide (x < 0) = false := by simpa using h0
                  by_cases h2 : 1000000 < x
                  · have hr1 : Hid _ := Hst.out.2.1 (Hsj.out.2 (inR_no (.inr h2)))
                    clear Hst Hsj
                    go_wp2
                    go_ret
                    exact ⟨ret_bool (by rw [hg.out, hr1.out]), rfl⟩
                  · have hr1 : Hid _ := Hsj.out.1 (inR_mk ⟨by omega, by omega⟩)
                    clear Hst Hsj
                    go_wp2
                    go_round
                    case rel => exact ⟨j + 1, hjr, by go_num, hr1⟩
                    case measure => simp [intOf]; omega
              · have hr1 : Hid _ := Hst.out.2.2 HRL.out (by have := hrj.out; rw [drop_all r j (by omega)] at this; exact this.symm)
                clear Hst hrj Hrow
                go_wp2
                go_round
                case rel => exact ⟨k + 1, hlt, by go_num, hr1⟩
                case measure => simp [intOf]; omega
          · have hne : ((r.length : Int) != (n : Int)) = true := by simp; omega
            have hr1 : Hid _ := Hst.out.1 hrl
            clear Hst hrl
            go_wp2
            go_ret
            exact ⟨ret_bool (by rw [hg.out, hr1.out]), rfl⟩
        · rw [drop_all xss k (by have := HL.out; omega)] at hr
          have hr1 : Hid _ := hr.out.symm
          clear hr H
          go_wp2
          go_ret
          exact ⟨ret_bool (by rw [hg.out, hr1.out]; rfl), rfl⟩
end Go.Proofs.YtonfdiaefkghbaaGreatDoor

namespace Go.Proofs.YtonfdiaefkghbaaGreatDoor
open Go.RowKit
set_option linter.all false
set_option maxHeartbeats 800000 in
theorem iChecked_any (p : Option Addr) (n c : Nat) (a : List (List Int)) (lo : Nat) (w : World) (h : OIntss w lo (.slice p n c) n a) :
    Calls Tryz.prog 144 #[.slice p n c] w fun e w' => ∃ v, e = .returned (.tuple #[v, .bool (isMat a)]) ∧ OIntss w' lo v (if isMat a then a else []).length (if isMat a then a else []) ∧ w = w' := by
  obtain ⟨ao, cap, e, hi⟩ := h.form
  injection e with e1 e2 e3
  subst e1
  subst e3
  have Hi := Lib.hid hi
  have H := Lib.hid h
  clear h hi
  cases h1 : isMat a
  · go_enter Tryz.func144, Tryz.ntmps144
    go_wp2_with (first | (go_at_call 67; refine (iIsMatrix_any _ _ _ a _ Hi.out).mono ?_; rintro e w' ⟨rfl, rfl⟩))
    go_ret2
    exact ⟨_, rfl, OIntss.none_ _ _, rfl⟩
  · go_enter Tryz.func144, Tryz.ntmps144
    go_wp2_with (first | (go_at_call 67; refine (iIsMatrix_any _ _ _ a _ Hi.out).mono ?_; rintro e w' ⟨rfl, rfl⟩))
    go_ret2
    refine ⟨_, rfl, ?_, rfl⟩
    show OIntss w lo _ a.length a
    rw [H.out.len]
    exact H.out

set_option maxHeartbeats 1600000 in
theorem iMulM_any (pa : Option Addr) (na ca : Nat) (a : List (List Int)) (pb : Option Addr) (nb cb : Nat) (b : List (List Int)) (w : World) (ha : Intss w pa na a) (hb : Intss w pb nb b) :
    Calls Tryz.prog 114 #[.slice pa na ca, .slice pb nb cb] w fun e w' => ∃ v, e = .returned (.tuple #[v, .bool (mulM a b).isSome]) ∧ OIntss w' w.heap.size v ((mulM a b).getD []).length ((mulM a b).getD []) ∧ Below w.heap.size w w' := by
  have hma := ha.2.1
  have hmb := hb.2.1
  have HA := Lib.hid ha
  have HB := Lib.hid hb
  have HLA : Hid (a.length = na) := ha.1
  have HLB : Hid (b.length = nb) := hb.1
  clear ha hb
  cases h1 : isMat a
  · have hg : Hid (mulM a b = none) := mulM_none1 h1
    go_enter Tryz.func114, Tryz.ntmps114
    go_wp2_with (first | (go_at_call 67; refine (iIsMatrix_any _ _ _ a _ HA.out).mono ?_; rintro e w' ⟨rfl, rfl⟩))
    go_ret2
    rw [hg.out]
    exact ⟨_, rfl, OIntss.none_ _ _, Below.refl _ _⟩
  cases h2 : isMat b
  · have hg : Hid (mulM a b = none) := mulM_none2 h2
    go_enter Tryz.func114, Tryz.ntmps114
    go_wp2_with fail
    refine (iIsMatrix_any _ _ _ a _ HA.out).mono ?_
    rintro e w' ⟨rfl, rfl⟩
    go_wp2_with fail
    refine (iIsMatrix_any _ _ _ b _ HB.out).mono ?_
    rintro e w' ⟨rfl, rfl⟩
    go_wp2_with fail
    go_ret2
    rw [hg.out]
    exact ⟨_, rfl, OIntss.none_ _ _, Below.refl _ _⟩
  by_cases hn : na = nb
  · subst hn
    have hne : ((na : Int) != (na : Int)) = false := by simp
    have hn9 : na ≤ 9 := by have := isMat_len h1; have := HLA.out; omega
    have hn0 : 0 < na := by have := isMat_len h1; have := HLA.out; omega
    have HRA := Lib.hid (isMat_rowsLen h1 HLA.out)
    have HRB := Lib.hid (isMat_rowsLen h2 HLB.out)
    have hg : Hid (mulM a b = if isMat (mulT a b na) then some (mulT a b na) else none) := by
      show mulM a b = _
      unfold mulM
      rw [h1, h2, HLA.out, HLB.out]
      simp
    go_enter Tryz.func114, Tryz.ntmps114
    go_wp2_with fail
    refine (iIsMatrix_any _ _ _ a _ HA.out).mono ?_
    rintro e w' ⟨rfl, rfl⟩
    go_wp2_with fail
    refine (iIsMatrix_any _ _ _ b _ HB.out).mono ?_
    rintro e w' ⟨rfl, rfl⟩
    go_wp2_with fail
    clear h1 h2
    refine (iTimes_any _ _ _ a _ _ _ b na _ HA.out HB.out HRA.out HRB.out (by omega) (by omega) hn0).mono ?_
    rintro e w1 ⟨v, rfl, hown, hbl⟩
    obtain ⟨ao, cap, rfl, hi⟩ := hown.form
    have Hown := Lib.hid hown
    have Hbl := Lib.hid hbl
    clear hown hbl hi
    go_wp2_with fail
    refine (iChecked_any _ _ _ (mulT a b na) _ _ Hown.out).mono ?_
    rintro e w' ⟨v, rfl, hv, rfl⟩
    have Hv := Lib.hid hv
    clear hv
    go_wp2_with fail
    go_ret2
    rw [hg.out]
    refine ⟨v, ?_, ?_, Hbl.out⟩
    · cases isMat (mulT a b na) <;> rfl
    · have := Hv.out
      revert this
      cases isMat (mulT a b na) <;> exact id
  · have hg : Hid (mulM a b = none) := mulM_none3 (by rw [HLA.out, HLB.out]; exact hn)
    have hne : ((na : Int) != (nb : Int)) = true := by simp; omega
    clear hn
    go_enter Tryz.func114, Tryz.ntmps114
    go_wp2_with fail
    refine (iIsMatrix_any _ _ _ a _ HA.out).mono ?_
    rintro e w' ⟨rfl, rfl⟩
    go_wp2_with fail
    refine (iIsMatrix_any _ _ _ b _ HB.out).mono ?_
    rintro e w' ⟨rfl, rfl⟩
    go_wp2_with fail
    go_ret2
    rw [hg.out]
    exact ⟨_, rfl, OIntss.none_ _ _, Below.refl _ _⟩
end Go.Proofs.YtonfdiaefkghbaaGreatDoor

namespace Go.Proofs.YtonfdiaefkghbaaGreatDoor
open Go.RowKit
set_option linter.all false
set_option maxHeartbeats 1600000 in
theorem iZeros_any (n : Nat) (w : World) (hn : n ≤ 1048576) :
    Calls Tryz.prog 120 #[.int .i64 n] w fun e w' => ∃ v, e = .returned v ∧ OIntss w' w.heap.size v n (List.replicate n (List.replicate n 0)) ∧ Below w.heap.size w w' := by
  have hmk := make_ints n (by omega)
  go_enter Tryz.func120, Tryz.ntmps120
  go_wp2
  go_loopw [3, 6] (fun v i wr => ∃ k : Nat, k ≤ n ∧ i = .int .i64 k ∧ OIntss wr w.heap.size v k (List.replicate k (List.replicate n 0)) ∧ Below w.heap.size w wr) (fun _ i _ => n - (intOf i).toNat)
  case atStart => exact ⟨0, Nat.zero_le _, rfl, OIntss.empty w _ (Nat.le_refl _), (Below.refl _ _).alloc (Nat.le_refl _) _⟩
  case round =>
    obtain ⟨k, hk, rfl, hown, hb⟩ := hrel
    by_cases hlt : k < n
    · have Hown := Lib.hid hown
      have Hb := Lib.hid hb
      clear hown hb
      go_wp2_with (first | (at_builtin; refine wpList_push_fresh _ _ wr rfl _ _ rfl w.heap.size _ k _ rfl Hown.out (by omega) Hb.out.size ((Below.refl _ _).alloc (Nat.le_refl _) _) n _ (OInts.made wr n (by omega)) _ ?ctb rfl ?_))
      case ctb => simp
      intro v' w' hown' hbel _
      rw [rep_push] at hown'
      have hb' := Hb.out.trans hbel
      go_wp2_with fail
      go_roundw
      case rel => exact ⟨k + 1, hlt, by go_num, hown', hb'⟩
      case measure => simp [intOf]; omega
    · go_wp2
      go_ret
      have : k = n := by omega
      subst this
      exact ⟨_, rfl, hown, hb⟩
end Go.Proofs.YtonfdiaefkghbaaGreatDoor

namespace Go.Proofs.YtonfdiaefkghbaaGreatDoor
open Go.RowKit
set_option linter.all false
set_option maxHeartbeats 1600000 in
theorem iUnit_any (n : Nat) (w : World) (hn : n ≤ 1048576) :
    Calls Tryz.prog 113 #[.int .i64 n] w fun e w' => ∃ v, e = .returned v ∧ OIntss w' w.heap.size v n (oneT n) ∧ Below w.heap.size w w' := by
  go_enter Tryz.func113, Tryz.ntmps113
  go_wp2_with fail
  refine (iZeros_any n _ hn).mono ?_
  rintro e w1 ⟨v, rfl, hown, hb⟩
  obtain ⟨ao, cap, rfl, _⟩ := hown.form
  go_wp2_with fail
  go_loopw [9] (fun i wr => ∃ k : Nat, k ≤ n ∧ i = .int .i64 k ∧ OIntss wr w.heap.size (.slice ao n cap) n ((oneT n).take k ++ List.replicate (n - k) (List.replicate n 0)) ∧ Below w.heap.size w wr) (fun i _ => n - (intOf i).toNat)
  case atStart => exact ⟨0, Nat.zero_le _, rfl, by rw [fill_start]; exact hown, hb⟩
  case round =>
    obtain ⟨k, hk, rfl, hown, hb⟩ := hrel
    by_cases hlt : k < n
    · rw [fill_open hlt] at hown
      obtain ⟨g, cap', e⟩ := hown.head (by omega)
      injection e with e1 e2 e3
      subst e1
      clear e2 e3 cap'
      have hAl : ((oneT n).take k).length = k := take_len (by rw [oneT_len]; omega)
      obtain ⟨gk, ck, hc, ho, hne, hlo⟩ := hown.rowAt (at_mid hAl) (by simp; omega)
      have hset := hown.setIn (at_mid hAl) hc ho k 1
      rw [set_mid hAl] at hset
      have hset' := (congrArg (OIntss _ w.heap.size _ n) (fill_shut (oneT_get hlt))) ▸ hset
      have hc0 := ho.cell k (by simp; omega)
      have hf0 := ho.frozen k
      have hb' := hb.setCell (p := ⟨gk, k, none⟩) hlo (.int .i64 1)
      simp only [List.length_replicate] at hc hc0
      clear hown ho hset hb hAl
      go_wp2_with fail
      go_roundw
      case rel => exact ⟨k + 1, hlt, by go_num, hset', hb'⟩
      case measure => simp [intOf]; omega
    · go_wp2_with fail
      go_ret
      have : k = n := by omega
      subst this
      rw [fill_end (oneT_len k)] at hown
      exact ⟨_, rfl, hown, hb⟩
end Go.Proofs.YtonfdiaefkghbaaGreatDoor

namespace Go.Proofs.YtonfdiaefkghbaaGreatDoor
open Go.RowKit
set_option linter.all false
set_option maxHeartbeats 1600000 in
theorem iPowM_any (pm : Option Addr) (nm cm : Nat) (m : List (List Int)) (n : Int) (w : World) (hm : Intss w pm nm m) :
    Calls Tryz.prog 68 #[.slice pm nm cm, .int .i64 n] w fun e w' => ∃ v, e = .returned (.tuple #[v, .bool (powM m n).isSome]) ∧ OIntss w' w.heap.size v ((powM m n).getD []).length ((powM m n).getD []) ∧ Below w.heap.size w w' := by
  have HM := Lib.hid hm
  have HLM : Hid (m.length = nm) := hm.1
  clear hm
  cases h1 : isMat m
  · have hg : Hid (powM m n = none) := powM_none1 h1
    go_enter Tryz.func68, Tryz.ntmps68
    go_wp2_with (first | (go_at_call 67; refine (iIsMatrix_any _ _ _ m _ HM.out).mono ?_; rintro e w' ⟨rfl, rfl⟩))
    go_ret2
    rw [hg.out]
    exact ⟨_, rfl, OIntss.none_ _ _, Below.refl _ _⟩
  by_cases h2 : n < 0
  · have hg : Hid (powM m n = none) := powM_none2 (inR_no (.inl h2))
    have hd : decide (n < 0) = true := by simpa using h2
    go_enter Tryz.func68, Tryz.ntmps68
    go_wp2_with (first | (go_at_call 67; refine (iIsMatrix_any _ _ _ m _ HM.out).mono ?_; rintro e w' ⟨rfl, rfl⟩))
    go_ret2
    rw [hg.out]
    exact ⟨_, rfl, OIntss.none_ _ _, Below.refl _ _⟩
  by_cases h3 : 30 < n
  · have hg : Hid (powM m n = none) := powM_none2 (inR_no (.inr h3))
    have hd : decide (n < 0) = false := by simpa using h2
    go_enter Tryz.func68, Tryz.ntmps68
    go_wp2_with (first | (go_at_call 67; refine (iIsMatrix_any _ _ _ m _ HM.out).mono ?_; rintro e w' ⟨rfl, rfl⟩))
    go_ret2
    rw [hg.out]
    exact ⟨_, rfl, OIntss.none_ _ _, Below.refl _ _⟩
  obtain ⟨q, rfl⟩ := Int.eq_ofNat_of_zero_le (show 0 ≤ n by omega)
  have hq : q ≤ 30 := by omega
  have hd : decide ((q : Int) < 0) = false := by simp
  have hg : Hid (powM m q = iterM m q (oneT nm)) := by have := powM_iter h1 (n := q) (inR_mk ⟨by omega, by omega⟩); rw [HLM.out] at this; exact this
  have hn9 : nm ≤ 9 := by have := isMat_len h1; have := HLM.out; omega
  clear h2 h3
  go_enter Tryz.func68, Tryz.ntmps68
  go_wp2_with (first | (go_at_call 67; refine (iIsMatrix_any _ _ _ m _ HM.out).mono ?_; rintro e w' ⟨rfl, rfl⟩))
  clear h1 hd
  refine (iUnit_any nm _ (by omega)).mono ?_
  rintro e w1 ⟨v, rfl, hown, hbl⟩
  have Hown := Lib.hid hown
  have Hbl := Lib.hid hbl
  clear hown hbl
  go_wp2_with fail
  go_loopw [6, 23] (fun v i wr => ∃ (k : Nat) (acc : List (List Int)), k ≤ q ∧ i = .int .i64 k ∧ OIntss wr w.heap.size v nm acc ∧ Hid (iterM m (q - k) acc = iterM m q (oneT nm)) ∧ Below w.heap.size w wr) (fun _ i _ => q - (intOf i).toNat)
  case atStart => exact ⟨0, _, Nat.zero_le _, rfl, Hown.out, rfl, Hbl.out⟩
  case round =>
    obtain ⟨k, acc, hk, rfl, hown, hit, hbl⟩ := hrel
    obtain ⟨wo, rfl⟩ : ∃ wo : World, wo = wr := ⟨_, rfl⟩
    clear Hown Hbl
    by_cases hlt : k < q
    · have Hstep : Hid (q - k = (q - (k + 1)) + 1) := by show q - k = _; omega
      obtain ⟨ao, cap, rfl, hi⟩ := hown.form
      have Hi := Lib.hid hi
      have Hbl := Lib.hid hbl
      clear hi hbl hown
      go_wp2_with fail
      refine (iMulM_any _ _ _ acc _ _ _ m _ Hi.out (HM.out.keep (Hbl.out.mono (Nat.le_refl _)))).mono ?_
      rintro e w2 ⟨v2, rfl, hown2, hb2⟩
      cases hp : mulM acc m with
      | none =>
        have hr1 : Hid (powM m q = none) := by
          have h5 := hit.out
          rw [Hstep.out, iterM_none hp] at h5
          show powM m q = none
          rw [hg.out, h5]
        have Hb2 := Lib.hid (Hbl.out.trans (hb2.mono Hbl.out.size))
        clear hown2 hb2 hit
        go_wp2_with fail
        go_ret2
        rw [hr1.out]
        exact ⟨_, rfl, OIntss.none_ _ _, Hb2.out⟩
      | some p =>
        have hit' : Hid (iterM m (q - (k + 1)) p = iterM m q (oneT nm)) := by
          have h5 := hit.out
          rw [Hstep.out, iterM_some hp] at h5
          exact h5
        have hpl : p.length = nm := by have := (mulM_mat hp).2; rw [this, HLM.out]
        rw [hp] at hown2
        have hown3 : OIntss w2 w.heap.size v2 nm p := by
          have h6 : OIntss w2 wo.heap.size v2 p.length p := hown2
          rw [hpl] at h6
          exact h6.mono Hbl.out.size
        have Hown3 := Lib.hid hown3
        have Hb2 := Lib.hid (Hbl.out.trans (hb2.mono Hbl.out.size))
        clear hown2 hb2 hit hown3 hpl
        go_wp2_with fail
        go_roundw
        case rel => exact ⟨k + 1, p, hlt, by go_num, Hown3.out, hit', Hb2.out⟩
        case measure => simp [intOf]; omega
    · have hr1 : Hid (powM m q = some acc) := by
        have h5 := hit.out
        rw [show q - k = 0 from by omega] at h5
        show powM m q = some acc
        rw [hg.out, ← h5]
        rfl
      have Hown := Lib.hid hown
      have Hbl := Lib.hid hbl
      clear hown hbl hit
      go_wp2_with fail
      go_ret2
      rw [hr1.out]
      refine ⟨_, rfl, ?_, Hbl.out⟩
      show OIntss wo w.heap.size _ acc.length acc
      rw [Hown.out.len]
      exact Hown.out
end Go.Proofs.YtonfdiaefkghbaaGreatDoor

namespace Go.Proofs.YtonfdiaefkghbaaGreatDoor
open Go.RowKit
set_option linter.all false
set_option maxHeartbeats 1600000 in
theorem iClosed_any (pm : Option Addr) (nm cm : Nat) (m : List (List Int)) (n : Int) (w : World) (h : Intss w pm nm m) :
    Calls Tryz.prog 101 #[.slice pm nm cm, .int .i64 n] w fun e w' => e = .returned (.int .i64 (closed m n)) ∧ Below w.heap.size w w' := by
  have H := Lib.hid h
  clear h
  by_cases hl : n < 1
  · have hg := Lib.hid (closed_n (m := m) (inR_no (x := n) (lo := 1) (hi := 30) (.inl hl)))
    go_enter Tryz.func101, Tryz.ntmps101
    go_wp2_with fail
    go_ret
    exact ⟨ret_int hg.out.symm, Below.refl _ _⟩
  cases ht : powM m n with
  | none =>
    have hg := Lib.hid (closed_none ht)
    have hs : (powM m n).isSome = false := by simp [ht]
    clear ht
    go_enter Tryz.func101, Tryz.ntmps101
    go_wp2_with (first
          | (go_at_call 68; refine (iPowM_any _ _ _ m _ _ H.out).mono ?_; rintro e w1 ⟨v, rfl, hown, hbl⟩; have Hbl := Lib.hid hbl; clear hown hbl))
    go_ret
    exact ⟨ret_int hg.out.symm, Hbl.out⟩
  | some p =>
    have hs : (powM m n).isSome = true := by simp [ht]
    have HPM := Lib.hid (powM_mat ht).2.1
    have HG : Hid ((powM m n).getD [] = p) := by show (powM m n).getD [] = p; simp [ht]
    have h1 : inR n 1 30 = true := by
      cases h6 : inR n 0 30 with
      | false => rw [powM_none2 h6] at ht; cases ht
      | true => exact inR_mk ⟨by omega, (inR_true h6).2⟩
    have hg := Lib.hid (closed_some h1 ht)
    clear ht
    go_enter Tryz.func101, Tryz.ntmps101
    go_wp2_with (first
          | (go_at_call 68; refine (iPowM_any _ _ _ m _ _ H.out).mono ?_; rintro e w1 ⟨v, rfl, hown, hbl⟩; obtain ⟨ao, cap, rfl, hin⟩ := hown.form; rw [HG.out] at hin; have Hin := Lib.hid hin; have Hbl := Lib.hid hbl; clear hown hbl hin; rw [HG.out])
          | (go_at_call 138; refine (iTrace_any _ _ _ p _ Hin.out HPM.out).mono ?_; rintro e w' ⟨rfl, rfl⟩))
    go_ret
    exact ⟨ret_int hg.out.symm, Hbl.out⟩
end Go.Proofs.YtonfdiaefkghbaaGreatDoor

namespace Go.Proofs.YtonfdiaefkghbaaGreatDoor
open Go.RowKit
set_option linter.all false
set_option maxHeartbeats 1600000 in
theorem iLp_any (pm : Option Addr) (nm cm : Nat) (m : List (List Int)) (n : Int) (w : World) (h : Intss w pm nm m) :
    Calls Tryz.prog 53 #[.slice pm nm cm, .int .i64 n] w fun e w' => e = .returned (.int .i64 (lp m n)) ∧ Below w.heap.size w w' := by
  have H := Lib.hid h
  clear h
  by_cases h12 : 12 < n
  · have hg : Hid (lp m n = -1) := by show _ = _; simp [lp, h12]
    go_enter Tryz.func53, Tryz.ntmps53
    go_wp2_with fail
    go_ret
    exact ⟨ret_int hg.out.symm, Below.refl _ _⟩
  have hd12 : decide (12 < n) = false := by simpa using h12
  by_cases hc : closed m n < 0
  · have hg : Hid (lp m n = -1) := by show _ = _; simp [lp, h12, hc]
    have hdc : decide (closed m n < 0) = true := by simpa using hc
    clear hc
    go_enter Tryz.func53, Tryz.ntmps53
    go_wp2_with (go_at_call 101; refine (iClosed_any _ _ _ m _ _ H.out).mono ?_; rintro e w1 ⟨rfl, hb1⟩; have Hb1 := Lib.hid hb1; clear hb1)
    go_ret
    exact ⟨ret_int hg.out.symm, Hb1.out⟩
  have hr := closed_range hc
  have hdc : decide (closed m n < 0) = false := by simpa using hc
  obtain ⟨n0, rfl⟩ := Int.eq_ofNat_of_zero_le (show 0 ≤ n by omega)
  have hn0 : n0 ≤ 12 := by omega
  have HG : Hid (lpLoop m n0 (n0 + 1 - 1) 1 0 = lp m (n0 : Int)) := by show _ = _; simp [lp, h12, hc]
  clear hr h12 hc
  go_enter Tryz.func53, Tryz.ntmps53
  go_wp2_with (go_at_call 101; refine (iClosed_any _ _ _ m _ _ H.out).mono ?_; rintro e w1 ⟨rfl, hb1⟩; have Hb1 := Lib.hid hb1; clear hb1)
  clear hdc hd12
  go_loopw [5, 6] (fun vs vd wr => ∃ (d : Nat) (s : Int), 1 ≤ d ∧ d ≤ n0 + 1 ∧ vs = .int .i64 s ∧ vd = .int .i64 d ∧ Hid (lpLoop m n0 (n0 + 1 - d) d s = lp m (n0 : Int)) ∧ Below w.heap.size w wr) (fun _ vd _ => n0 + 1 - (intOf vd).toNat)
  case atStart => exact ⟨1, 0, by omega, by omega, rfl, rfl, HG.out, Hb1.out⟩
  case round =>
    obtain ⟨d, s, hd1, hd2, rfl, rfl, hl, hb⟩ := hrel
    have HB := Lib.hid hb
    have HM := Lib.hid (H.out.keep hb)
    clear hb
    by_cases hle : d ≤ n0
    · have HS := Lib.hid (lp_step hle hl)
      have hq0 := (divI_bounds n0 d).1
      have hq1 : (n0 : Int) / (d : Int) ≤ 12 := Int.le_trans (divI_bounds n0 d).2 (by omega)
      clear hl
      by_cases hz : n0 % d = 0
      · have hz1 := modE_z hz
        have HR := HS.out.1 hz
        clear HS hz
        go_wp2_with (first
          | (go_at_call 102; refine (iMoeb_any _ _).mono ?_; rintro e w' ⟨rfl, rfl⟩)
          | (go_at_call 101; refine (iClosed_any _ _ _ m _ _ HM.out).mono ?_; rintro e w2 ⟨rfl, hb2⟩; have Hb2 := Lib.hid hb2; clear hb2))
        go_roundw
        case rel => exact ⟨d + 1, _, by omega, by omega, rfl, by go_num, HR, step2 HB.out Hb2.out⟩
        case measure => simp [intOf]; omega
      · have hz1 := modE_nz hz
        have HR := HS.out.2 hz
        clear HS hz
        go_wp2_with fail
        go_roundw
        case rel => exact ⟨d + 1, s, by omega, by omega, rfl, by go_num, HR, HB.out⟩
        case measure => simp [intOf]; omega
    · have HE : Hid (s = lp m (n0 : Int)) := by have := hl.out; rw [show n0 + 1 - d = 0 by omega] at this; exact this
      clear hl
      go_wp2_with fail
      go_ret
      exact ⟨ret_int HE.out, HB.out⟩
end Go.Proofs.YtonfdiaefkghbaaGreatDoor

namespace Go.Proofs.YtonfdiaefkghbaaGreatDoor
open Go.RowKit
set_option linter.all false
set_option maxHeartbeats 1600000 in
theorem iOrb_nil (pm : Option Addr) (nm cm : Nat) (m : List (List Int)) (n : Int) (w : World) (h : Intss w pm nm m) :
    Calls Tryz.prog 12 #[.slice pm nm cm, .int .i64 n] w fun e w' => ∃ v, e = .returned v ∧ OInts w' w.heap.size v (orbV m n).length (orbV m n) ∧ Below w.heap.size w w' ∧ (orbV m n = [] → v = .slice none 0 0) := by
  have H := Lib.hid h
  clear h
  by_cases hl : n < 1
  · have hg : Hid (orbV m n = []) := by show _ = _; simp [orbV, inR_no (x := n) (lo := 1) (hi := 10) (.inl hl)]
    go_enter Tryz.func12, Tryz.ntmps12
    go_wp2_with fail
    go_ret
    rw [hg.out]
    exact ⟨_, rfl, OInts.none_ _ _, Below.refl _ _, fun _ => rfl⟩
  by_cases hh : 10 < n
  · have hg : Hid (orbV m n = []) := by show _ = _; simp [orbV, inR_no (x := n) (lo := 1) (hi := 10) (.inr hh)]
    have hd1 : decide (n < 1) = false := by simpa using hl
    go_enter Tryz.func12, Tryz.ntmps12
    go_wp2_with fail
    go_ret
    rw [hg.out]
    exact ⟨_, rfl, OInts.none_ _ _, Below.refl _ _, fun _ => rfl⟩
  have h1 : inR n 1 10 = true := inR_mk ⟨by omega, by omega⟩
  have hd1 : decide (n < 1) = false := by simpa using hl
  have hd2 : decide (10 < n) = false := by simpa using hh
  have hr := inR_true h1
  obtain ⟨n0, rfl⟩ := Int.eq_ofNat_of_zero_le (show 0 ≤ n by omega)
  have hn0 : n0 ≤ 10 := by omega
  have hn1 : 1 ≤ n0 := by omega
  have HG : Hid (orbL m (n0 + 1 - 1) 1 [] = orbV m (n0 : Int)) := by show _ = _; simp [orbV, h1]
  clear hr
  go_enter Tryz.func12, Tryz.ntmps12
  go_wp2_with fail
  clear h1
  go_loopw [5, 6] (fun v x wr => ∃ (k : Nat) (ys : List Int), 1 ≤ k ∧ k ≤ n0 + 1 ∧ x = .int .i64 k ∧ ys.length + 1 = k ∧ OInts wr w.heap.size v ys.length ys ∧ Below w.heap.size w wr ∧ Hid (orbL m (n0 + 1 - k) k ys = orbV m (n0 : Int))) (fun _ x _ => n0 + 1 - (intOf x).toNat)
  case atStart => exact ⟨1, [], by omega, by omega, rfl, rfl, OInts.empty _ _ (Nat.le_refl _), (Below.refl _ _).alloc (Nat.le_refl _) _, HG.out⟩
  case round =>
    obtain ⟨k, ys, hk1, hk2, rfl, hyl, hown, hbl, hl⟩ := hrel
    obtain ⟨ao5, cap5, e5, _⟩ := hown.form
    subst e5
    have hyb : ys.length ≤ 10 := by omega
    have HYL := Lib.hid hyl
    have Hown := Lib.hid hown
    have Hbl := Lib.hid hbl
    have HM := Lib.hid (H.out.keep hbl)
    clear hown hbl hyl
    by_cases hle : k ≤ n0
    · have HS := Lib.hid (orb_step hle hl)
      clear hl
      by_cases hneg : lp m k < 0
      · have hdn : decide (lp m k < 0) = true := by simpa using hneg
        have HR := Lib.hid (HS.out.1 hneg)
        clear HS hneg
        go_wp2_with (go_at_call 53; refine (iLp_any _ _ _ m _ _ HM.out).mono ?_; rintro e w1 ⟨rfl, hb1⟩; have Hb1 := Lib.hid hb1; clear hb1)
        go_ret
        rw [HR.out]
        exact ⟨_, rfl, OInts.none_ _ _, step2 Hbl.out Hb1.out, fun _ => rfl⟩
      · have hdn : decide (lp m k < 0) = false := by simpa using hneg
        have HR := HS.out.2 hneg
        clear HS hneg
        go_wp2_with (first
          | (go_at_call 53; refine (iLp_any _ _ _ m _ _ HM.out).mono ?_; rintro e w1 ⟨rfl, hb1⟩; have Hb1 := Lib.hid hb1; clear hb1)
          | (at_builtin; refine wpList_push_one _ _ rfl _ _ rfl w.heap.size _ _ _ rfl (Hown.out.keep Hb1.out) (by omega) (Nat.le_trans Hbl.out.size Hb1.out.size) _ rfl rfl ?_; intro v1 w3 ho1 hb3; have Ho1 := Lib.hid ho1; have Hb3 := Lib.hid hb3; clear ho1 hb3))
        go_roundw
        case rel => exact ⟨k + 1, ys ++ [lp m k], by omega, by omega, by go_num, by have := HYL.out; simp; omega, by simpa using Ho1.out, (step2 Hbl.out Hb1.out).trans Hb3.out, HR⟩
        case measure => simp [intOf]; omega
    · have HE : Hid (ys = orbV m (n0 : Int)) := by have := hl.out; rw [show n0 + 1 - k = 0 by omega] at this; exact this
      have hne : ys.length + 1 = k := HYL.out
      have HNE : Hid (ys ≠ []) := fun e => by rw [e] at hne; simp at hne; omega
      clear hl hne
      go_wp2_with fail
      go_ret
      rw [← HE.out]
      exact ⟨_, rfl, Hown.out, Hbl.out, fun e => absurd e HNE.out⟩
theorem iOrb_any (pm : Option Addr) (nm cm : Nat) (m : List (List Int)) (n : Int) (w : World) (h : Intss w pm nm m) :
    Calls Tryz.prog 12 #[.slice pm nm cm, .int .i64 n] w fun e w' => ∃ v, e = .returned v ∧ OInts w' w.heap.size v (orbV m n).length (orbV m n) ∧ Below w.heap.size w w' :=
  (iOrb_nil pm nm cm m n w h).mono fun _ _ ⟨v, h1, h2, h3, _⟩ => ⟨v, h1, h2, h3⟩
end Go.Proofs.YtonfdiaefkghbaaGreatDoor

namespace Go.Proofs.YtonfdiaefkghbaaGreatDoor
open Go.RowKit
set_option linter.all false
set_option maxHeartbeats 1600000 in
theorem iFG_any (p : Option Addr) (n c : Nat) (xs : List Int) (p' : Option Addr) (n' c' : Nat) (ys : List Int) (w : World) (h : Ints w p n xs) (h' : Ints w p' n' ys) (hl : n ≤ n') :
    Calls Tryz.prog 54 #[.slice p n c, .slice p' n' c'] w fun e w' => e = .returned (.int .i64 (fgI 0 xs ys)) ∧ w = w' := by
  have hm := h.2.1
  have hm' := h'.2.1
  have HL : Hid (xs.length = n) := h.1
  have H := Lib.hid h
  have H' := Lib.hid h'
  clear h h'
  go_enter Tryz.func54, Tryz.ntmps54
  go_wp2_with fail
  go_loop [9] (fun v => ∃ k : Nat, k ≤ n ∧ v = .int .i64 k ∧ Hid (fgI k (xs.drop k) (ys.drop k) = fgI 0 xs ys)) (fun v => n - (intOf v).toNat)
  case atStart => exact ⟨0, Nat.zero_le _, rfl, rfl⟩
  case round =>
    obtain ⟨k, hk, rfl, hr⟩ := hrel
    by_cases hlt : k < n
    · have hlt' : k < n' := by omega
      obtain ⟨b1, o1, x, rfl, hcx, hgx⟩ := H.out.at_ hlt
      obtain ⟨b2, o2, y, rfl, hcy, hgy⟩ := H'.out.at_ hlt'
      have HS := Lib.hid (fgI_step hgx.out hgy.out hr.out)
      clear hgx hgy hr
      by_cases h1 : y < x
      · have hd : decide (y < x) = true := by simpa using h1
        have HR := Lib.hid (HS.out.1 h1)
        clear HS h1
        go_wp2_with fail
        go_ret
        exact ⟨ret_int HR.out.symm, rfl⟩
      · have hd : decide (y < x) = false := by simpa using h1
        have HR := Lib.hid (HS.out.2 h1)
        clear HS h1
        go_wp2_with fail
        go_round
        case rel => exact ⟨k + 1, hlt, by go_num, HR.out⟩
        case measure => simp [intOf]; omega
    · have HR := Lib.hid (fgI_end (by rw [HL.out]; omega) hr.out)
      clear hr
      go_wp2_with fail
      go_ret
      exact ⟨ret_int HR.out.symm, rfl⟩
end Go.Proofs.YtonfdiaefkghbaaGreatDoor

namespace Go.Proofs.YtonfdiaefkghbaaGreatDoor
open Go.RowKit
set_option linter.all false
set_option maxHeartbeats 1600000 in
theorem iFitsInto_any (pa : Option Addr) (na ca : Nat) (a : List (List Int)) (pb : Option Addr) (nb cb : Nat) (b : List (List Int)) (n : Int) (w : World) (ha : Intss w pa na a) (hb : Intss w pb nb b) :
    Calls Tryz.prog 13 #[.slice pa na ca, .slice pb nb cb, .int .i64 n] w fun e w' => e = .returned (.bool (fits a b n)) ∧ Below w.heap.size w w' := by
  have HA := Lib.hid ha
  have HB := Lib.hid hb
  clear ha hb
  have hlx := orbV_len a n
  have hly := orbV_len b n
  obtain ⟨X, hX⟩ : ∃ X, orbV a n = X := ⟨_, rfl⟩
  obtain ⟨Y, hY⟩ : ∃ Y, orbV b n = Y := ⟨_, rfl⟩
  have HG : Hid (fits a b n = (fitL X Y && (decide (0 < X.length) && decide (0 < Y.length)))) := by show _ = _; rw [← hX, ← hY]; rfl
  rw [hX] at hlx
  rw [hY] at hly
  have HX := Lib.hid hX
  have HY := Lib.hid hY
  have HLX := Lib.hid hlx
  have HLY := Lib.hid hly
  clear hX hY hlx hly
  have hnn := fun (wx : World) => run_neq_slice_nil_any (P := Tryz.prog) wx 34 3 none 0 0 0 0 Tryz.underlying34
  have hns := fun (wx : World) (q : Addr) (k c : Nat) => run_neq_slice_nil_any (P := Tryz.prog) wx 34 3 (some q) k c 0 0 Tryz.underlying34
  simp only [Option.isNone, Bool.not_true, Bool.not_false] at hnn hns
  go_enter Tryz.func13, Tryz.ntmps13
  go_wp2_with fail
  refine (iOrb_nil _ _ _ a _ _ HA.out).mono ?_
  rintro e w1 ⟨v1, rfl, ho1, hb1, hn1⟩
  rw [HX.out] at ho1 hn1
  have Ho1 := Lib.hid ho1
  have Hb1 := Lib.hid hb1
  have Hn1 := Lib.hid hn1
  clear ho1 hb1 hn1
  go_wp2_with fail
  refine (iOrb_nil _ _ _ b _ _ (HB.out.keep Hb1.out)).mono ?_
  rintro e w2 ⟨v2, rfl, ho2, hb2, hn2⟩
  rw [HY.out] at ho2 hn2
  have Ho2 := Lib.hid ho2
  have Hb2 := Lib.hid (step2 Hb1.out hb2)
  have Hn2 := Lib.hid hn2
  have Ho1' := Lib.hid (Ho1.out.keep hb2)
  clear ho2 hb2 hn2 Ho1
  by_cases hx : X = []
  · have e1 := Hn1.out hx
    subst e1
    have HR : Hid (fits a b n = false) := by show _ = _; rw [HG.out, hx]; simp
    clear hx
    go_wp2_with fail
    go_ret
    exact ⟨ret_bool HR.out.symm, Hb2.out⟩
  have hx0 : 0 < X.length := by cases X with
    | nil => exact absurd rfl hx
    | cons _ _ => simp
  obtain ⟨g1, c1, rfl⟩ := Ho1'.out.head hx0
  by_cases hy : Y = []
  · have e2 := Hn2.out hy
    subst e2
    have HR : Hid (fits a b n = false) := by show _ = _; rw [HG.out, hy]; simp
    clear hx hy
    go_wp2_with fail
    go_ret
    exact ⟨ret_bool HR.out.symm, Hb2.out⟩
  have hy0 : 0 < Y.length := by cases Y with
    | nil => exact absurd rfl hy
    | cons _ _ => simp
  obtain ⟨g2, c2, rfl⟩ := Ho2.out.head hy0
  have hll : X.length ≤ Y.length := by
    rcases HLX.out with h | h
    · exact absurd h hx
    · rcases HLY.out with h2 | h2
      · exact absurd h2 hy
      · omega
  have HR : Hid (fits a b n = decide (fgI 0 X Y < 0)) := by show _ = _; rw [HG.out, fgI_neg]; simp [hx0, hy0]
  clear hx hy
  go_wp2_with (go_at_call 54; refine (iFG_any _ _ _ X _ _ _ Y _ Ho1'.out.ints Ho2.out.ints hll).mono ?_; rintro e w' ⟨rfl, rfl⟩)
  go_ret
  exact ⟨ret_bool HR.out.symm, Hb2.out⟩
end Go.Proofs.YtonfdiaefkghbaaGreatDoor

namespace Go.Proofs.YtonfdiaefkghbaaGreatDoor
open Go.RowKit
set_option linter.all false
set_option maxHeartbeats 1600000 in
theorem sMoeb_any (n : Int) (w : World) : Calls Tryz.prog 112 #[.int .i64 n] w fun e w' => e = .returned (.int .i64 (moeb n)) ∧ w = w' := by
  cases h1 : inR n 1 1000
  · have hg : Hid (moeb n = 0) := by show _ = _; simp [moeb, h1]
    go_enter Tryz.func112, Tryz.ntmps112
    go_wp2_with (go_at_call 65; refine (l1In_any _ _ _ _).mono ?_; rintro e w' ⟨rfl, rfl⟩)
    go_ret
    exact ⟨ret_int hg.out.symm, rfl⟩
  have hb := inR_true h1
  obtain ⟨n0, rfl⟩ := Int.eq_ofNat_of_zero_le (show 0 ≤ n by omega)
  have HM : Hid (mb (1001 - 2) n0 2 1 = moeb (n0 : Int)) := by show _ = _; simp [moeb, h1]
  have hn0 : n0 ≤ 1000 := by omega
  clear hb
  go_enter Tryz.func112, Tryz.ntmps112
  go_wp2_with (go_at_call 65; refine (l1In_any _ _ _ _).mono ?_; rintro e w' ⟨rfl, rfl⟩)
  clear h1
  go_loop [0, 3, 4] (fun vn vo vp => ∃ (n p : Nat) (o : Int), vn = .int .i64 n ∧ vo = .int .i64 o ∧ vp = .int .i64 p ∧ n ≤ 1000 ∧ 2 ≤ p ∧ p ≤ 1001 ∧ -1 ≤ o ∧ o ≤ 1 ∧ Hid (mb (1001 - p) n p o = moeb (n0 : Int))) (fun _ _ vp => 1001 - (intOf vp).toNat)
  case atStart => exact ⟨n0, 2, 1, rfl, rfl, rfl, hn0, by omega, by omega, by omega, by omega, HM.out⟩
  case round =>
    clear hn0 HM
    obtain ⟨n, p, o, rfl, rfl, rfl, hn, hp2, hp1, ho1, ho2, hm⟩ := hrel
    by_cases hle : p ≤ n
    · have Hst := Lib.hid (mb_step hn hle hm)
      clear hm
      have hp0 : 0 < p := by omega
      have HD : n / p ≤ n := Nat.div_le_self n p
      have hq0 := (divI_bounds n p).1
      have hq1 : (n : Int) / (p : Int) ≤ 1000 := Int.le_trans (divI_bounds n p).2 (by omega)
      by_cases hz : n % p = 0
      · have hz1 := modI_z hz
        by_cases hz2 : n / p % p = 0
        · have hz3 := divmodI_z hz2
          have HR := Lib.hid (Hst.out.2.1 hz hz2)
          clear Hst hz hz2
          go_wp2_with fail
          go_ret
          exact ⟨ret_int HR.out.symm, rfl⟩
        · have hz3 := divmodI_nz hz2
          have HR := Hst.out.2.2 hz hz2
          clear Hst hz hz2
          go_wp2_with fail
          go_round
          case rel => exact ⟨n / p, p + 1, -o, by rw [divI], rfl, by go_num, by omega, by omega, by omega, by omega, by omega, HR⟩
          case measure => simp [intOf]; omega
      · have hz1 := modI_nz hz
        have HR := Hst.out.1 hz
        clear Hst hz
        go_wp2_with fail
        go_round
        case rel => exact ⟨n, p + 1, o, rfl, rfl, by go_num, by omega, by omega, by omega, by omega, by omega, HR⟩
        case measure => simp [intOf]; omega
    · have HR : Hid (o = moeb (n0 : Int)) := by have := hm.out; rw [mb_stop (by omega)] at this; exact this
      clear hm
      go_wp2_with fail
      go_ret
      exact ⟨ret_int HR.out, rfl⟩
end Go.Proofs.YtonfdiaefkghbaaGreatDoor

namespace Go.Proofs.YtonfdiaefkghbaaGreatDoor
open Go.RowKit
set_option linter.all false
set_option maxHeartbeats 1600000 in
theorem sTrace_any (ao : Option Addr) (n cap : Nat) (p : List (List Int)) (w : World) (h : Intss w ao n p) (hp : isMat p = true) :
    Calls Tryz.prog 143 #[.slice ao n cap] w fun e w' => e = .returned (.int .i64 (trc 0 0 p)) ∧ w = w' := by
  have hm := h.2.1
  have HL : Hid (p.length = n) := h.1
  have H := Lib.hid h
  have HP := Lib.hid hp
  clear h
  go_enter Tryz.func143, Tryz.ntmps143
  go_wp2_with (go_at_call 69; refine (sIsMatrix_any _ _ _ p _ H.out).mono ?_; rintro e w' ⟨rfl, rfl⟩)
  clear hp
  go_loop [3, 4] (fun s x => ∃ (k : Nat) (t : Int), k ≤ n ∧ x = .int .i64 k ∧ s = .int .i64 t ∧ Hid (trc k t (p.drop k) = trc 0 0 p)) (fun _ x => n - (intOf x).toNat)
  case atStart => exact ⟨0, 0, Nat.zero_le _, rfl, rfl, rfl⟩
  case round =>
    obtain ⟨k, t, hk, rfl, rfl, hr⟩ := hrel
    by_cases hlt : k < n
    · obtain ⟨b, o, ai, ci, r, rfl, hcell, hrow, hget⟩ := H.out.at_ hlt
      have hrl : k < r.length := by have := (isMat_row HP.out hget.out).1; have := HL.out; omega
      obtain ⟨b', o', x, rfl, hcx, hgx⟩ := hrow.at_ hrl
      have HS := Lib.hid (trc_step hget.out hgx.out hr.out)
      clear hrow hget hgx hr
      go_wp2_with fail
      go_round
      case rel => exact ⟨k + 1, _, hlt, by go_num, rfl, HS.out⟩
      case measure => simp [intOf]; omega
    · have e : k = n := by omega
      have HE : Hid (t = trc 0 0 p) := by have := hr.out; rw [drop_all p k (by rw [HL.out]; omega)] at this; exact this
      clear hr
      go_wp2_with fail
      go_ret
      exact ⟨ret_int HE.out, rfl⟩
end Go.Proofs.YtonfdiaefkghbaaGreatDoor

namespace Go.Proofs.YtonfdiaefkghbaaGreatDoor
open Go.RowKit
set_option linter.all false
set_option maxHeartbeats 1600000 in
theorem iIsSmall_any (ao : Option Addr) (n cap : Nat) (xss : List (List Int)) (w : World) (h : Intss w ao n xss) :
    Calls Tryz.prog 55 #[.slice ao n cap] w fun e w' => e = .returned (.bool (isSmallM xss)) ∧ w = w' := by
  have hm := h.2.1
  have HL := Lib.hid h.1
  have H := Lib.hid h
  have hg0 : Hid (isSmallM xss = (isMat xss && (!decide (4 < n) && le9T xss))) := by show isSmallM xss = _; unfold isSmallM; rw [h.1]
  clear h
  cases hmat : isMat xss
  · have hg : Hid (isSmallM xss = false) := by show isSmallM xss = _; rw [hg0.out, hmat]; rfl
    go_enter Tryz.func55, Tryz.ntmps55
    go_wp2_with (first | (go_at_call 67; refine (iIsMatrix_any _ _ _ xss _ H.out).mono ?_; rintro e w' ⟨rfl, rfl⟩))
    go_ret
    exact ⟨ret_bool hg.out.symm, rfl⟩
  by_cases h4 : 4 < n
  · have hg : Hid (isSmallM xss = false) := by show isSmallM xss = _; rw [hg0.out]; simp [h4]
    go_enter Tryz.func55, Tryz.ntmps55
    go_wp2_with (first | (go_at_call 67; refine (iIsMatrix_any _ _ _ xss _ H.out).mono ?_; rintro e w' ⟨rfl, rfl⟩))
    go_ret
    exact ⟨ret_bool hg.out.symm, rfl⟩
  · have hg : Hid (isSmallM xss = le9T xss) := by show isSmallM xss = _; rw [hg0.out, hmat]; simp [h4]
    go_enter Tryz.func55, Tryz.ntmps55
    go_wp2_with (first | (go_at_call 67; refine (iIsMatrix_any _ _ _ xss _ H.out).mono ?_; rintro e w' ⟨rfl, rfl⟩))
    clear hmat
    go_loop [17] (fun i => ∃ k : Nat, k ≤ n ∧ i = .int .i64 k ∧ Hid (le9T (xss.drop k) = le9T xss)) (fun i => n - (intOf i).toNat)
    case atStart => exact ⟨0, Nat.zero_le _, rfl, rfl⟩
    case round =>
      obtain ⟨k, hk, rfl, hr⟩ := hrel
      by_cases hlt : k < n
      · obtain ⟨b, o, ai, ci, r, rfl, hcell, hrow, hget⟩ := H.out.at_ hlt
        have hrb := hrow.2.1
        have Hst := Lib.hid (le9T_step hget.out hr.out)
        have Hrow := Lib.hid hrow
        clear hrow hr H
        go_wp2_with fail
        go_loop [23] (fun i => ∃ j : Nat, j ≤ r.length ∧ i = .int .i64 j ∧ Hid (le9 (r.drop j) = le9 r)) (fun i => r.length - (intOf i).toNat)
        case atStart => exact ⟨0, Nat.zero_le _, rfl, rfl⟩
        case round =>
          obtain ⟨j, hj, rfl, hrj⟩ := hrel
          by_cases hjn : j < r.length
          · obtain ⟨b', o', x, rfl, hcell', hget'⟩ := Hrow.out.at_ hjn
            have Hsj := Lib.hid (le9_step hget'.out hrj.out)
            clear hrj Hrow
            by_cases h9 : 9 < x
            · have hr1 : Hid _ := Hst.out.1 (Hsj.out.1 h9)
              clear Hst Hsj
              go_wp2_with fail
              go_ret
              exact ⟨ret_bool (by rw [hg.out, hr1.out]), rfl⟩
            · have hr1 : Hid _ := Hsj.out.2 h9
              clear Hst Hsj
              go_wp2_with fail
              go_round
              case rel => exact ⟨j + 1, hjn, by go_num, hr1⟩
              case measure => simp [intOf]; omega
          · have hr1 : Hid _ := Hst.out.2 (by have := hrj.out; rw [drop_all r j (by omega)] at this; exact this.symm)
            clear Hst hrj Hrow
            go_wp2_with fail
            go_round
            case rel => exact ⟨k + 1, hlt, by go_num, hr1⟩
            case measure => simp [intOf]; omega
      · rw [drop_all xss k (by have := HL.out; omega)] at hr
        have hr1 : Hid _ := hr.out.symm
        clear hr H
        go_wp2_with fail
        go_ret
        exact ⟨ret_bool (by rw [hg.out, hr1.out]; rfl), rfl⟩
end Go.Proofs.YtonfdiaefkghbaaGreatDoor

namespace Go.Proofs.YtonfdiaefkghbaaGreatDoor
open Go.RowKit
set_option linter.all false
set_option maxRecDepth 20000 in
set_option maxHeartbeats 1600000 in
theorem iFirstN_any (p : Option Addr) (n c : Nat) (t : List (List Int)) (k m : Nat) (w : World) (h : Intss w p n t) (hr : RowsLen t m) (hk : k ≤ n) (hkm : k ≤ m) (hc : n ≤ c) (hn : n ≤ 1048576) :
    Calls Tryz.prog 139 #[.slice p n c, .int .i64 k] w fun e w' => ∃ ao cap, e = .returned (.slice ao k cap) ∧ Intss w' ao k (partT t k) ∧ Below w.heap.size w w' := by
  have H := Lib.hid h
  have HR := Lib.hid hr
  have HL : Hid (t.length = n) := h.1
  have hs0 := slice_to2 p n c k (by omega)
  clear h hr
  go_enter Tryz.func139, Tryz.ntmps139
  go_wp2_with fail
  clear hs0
  go_loopw [5, 13] (fun v x wr => ∃ (i : Nat) (vs : List Value), i ≤ k ∧ x = .int .i64 i ∧ wr.ownsRow w.heap.size 34 1 v i vs ∧ Hid (RowsAt w vs ((partT t k).take i)) ∧ Below w.heap.size w wr) (fun _ x _ => k - (intOf x).toNat)
  case atStart => exact ⟨0, [], Nat.zero_le _, rfl, World.ownsRow_made (base := w.heap.size) (e := 34) (size := 1) w #[] 0 (Nat.le_refl _) (by unfold maxLen; omega) rfl, RowsAt.nil w, (Below.refl _ _).alloc (Nat.le_refl _) _⟩
  case round =>
    obtain ⟨i, vs, hi, rfl, hown, hrw, hbl⟩ := hrel
    by_cases hlt : i < k
    · obtain ⟨b1, o1, a1, c1, r, rfl, hca, hrow, hget, hcap⟩ := H.out.cap_ (k := i) (by omega)
      have h1 := (hbl.cell (World.block_lt_of_cell? w _ hca)).trans hca
      have hrl := HR.out _ _ hget.out
      have hlt2 : k ≤ c1 := by omega
      have hs1 := slice_to a1 r.length c1 k hlt2
      have HG := Lib.hid (partT_get (k := k) hlt hget.out (by omega))
      have htl : (r.take k).length = k := take_len (by omega)
      have hq := hrw.out.push (r := r.take k) (ai := a1) (ci := c1) (by rw [htl]; exact hrow.take (by omega)) (by rw [htl]; omega)
      rw [htl, push_take HG.out] at hq
      have HQ := Lib.hid hq
      have Hown := Lib.hid hown
      have Hbl := Lib.hid hbl
      clear hown hbl hca hrow hrl htl hq hrw hcap
      go_wp2_with (refine wpList_push_val wr _ rfl (.tmp 17) (.tmp 21) rfl w.heap.size _ i vs rfl Hown.out (by omega) Hbl.out.size rfl _ rfl rfl ?_; intro v1 w1 ho1 hb1; have HO1 := Lib.hid ho1; have HB1 := Lib.hid hb1; clear ho1 hb1)
      go_roundw
      case rel => exact ⟨i + 1, _, hlt, by go_num, HO1.out, HQ.out, Hbl.out.trans HB1.out⟩
      case measure => simp [intOf]; omega
    · have e : i = k := by omega
      subst e
      have hq := hrw.out
      rw [List.take_of_length_le (by rw [partT_len]; omega)] at hq
      obtain ⟨ao, cap, rfl, hi2⟩ := own_rows hown (by omega) hq hbl
      have HI := Lib.hid hi2
      have Hbl := Lib.hid hbl
      clear hown hq hrw hbl hi2
      go_wp2_with fail
      go_ret
      exact ⟨_, _, rfl, HI.out, Hbl.out⟩
end Go.Proofs.YtonfdiaefkghbaaGreatDoor

namespace Go.Proofs.YtonfdiaefkghbaaGreatDoor
open Go.RowKit
set_option linter.all false
set_option maxHeartbeats 3200000 in
theorem iLess_any (p : Option Addr) (n c : Nat) (t : List (List Int)) (q d : Int) (w : World) (h : Intss w p n t) (hr : RowsLen t n) (hn : n ≤ 1048576) (hq1 : -1000000 ≤ q) (hq2 : q ≤ 1000000) (hd1 : -1000000 ≤ d) (hd2 : d ≤ 1000000) :
    Calls Tryz.prog 75 #[.slice p n c, .int .i64 q, .int .i64 d] w fun e w' => ∃ v, e = .returned v ∧ OIntss w' w.heap.size v n (lessT q d t) ∧ Below w.heap.size w w' := by
  have H := Lib.hid h
  have HR := Lib.hid hr
  have HL : Hid (t.length = n) := h.1
  clear h hr
  go_enter Tryz.func75, Tryz.ntmps75
  go_wp2_with fail
  refine (iZeros_any n _ hn).mono ?_
  rintro e w1 ⟨v, rfl, hown, hbl⟩
  obtain ⟨ao, cap, rfl, _⟩ := hown.form
  go_wp2_with fail
  go_loopw [17] (fun i wr => ∃ k : Nat, k ≤ n ∧ i = .int .i64 k ∧ OIntss wr w.heap.size (.slice ao n cap) n ((lessT q d t).take k ++ List.replicate (n - k) (List.replicate n 0)) ∧ Below w.heap.size w wr) (fun i _ => n - (intOf i).toNat)
  case atStart => exact ⟨0, Nat.zero_le _, rfl, by rw [fill_start]; exact hown, hbl⟩
  case round =>
    obtain ⟨i, hi, rfl, hown, hbl⟩ := hrel
    obtain ⟨wo, rfl⟩ : ∃ wo : World, wo = wr := ⟨_, rfl⟩
    by_cases hlt : i < n
    · obtain ⟨b1, o1, a1, c1, r, rfl, hca, hrow, hget⟩ := H.out.at_ hlt
      have HRL : Hid (r.length = n) := HR.out _ _ hget.out
      have hrl1 : r.length ≤ n := by have := HRL.out; omega
      have hrl2 : n ≤ r.length := by have := HRL.out; omega
      have HMG := Lib.hid (lessT_get (q := q) (d := d) hget.out)
      rw [fill_open hlt] at hown
      have HAl : Hid (((lessT q d t).take i).length = i) := take_len (by rw [lessT_len]; have := HL.out; omega)
      obtain ⟨g, cap', e⟩ := hown.head (by omega)
      injection e with e1 e2 e3
      subst e1
      clear e2 e3 cap'
      have h1 := (hbl.cell (World.block_lt_of_cell? w _ hca)).trans hca
      have Hrow := Lib.hid hrow
      have Hown := Lib.hid hown
      have Hbl := Lib.hid hbl
      clear hown hbl hrow hca
      go_wp2_with fail
      clear h1
      go_loopw [24] (fun i' wx => ∃ j : Nat, j ≤ r.length ∧ i' = .int .i64 j ∧ OIntss wx w.heap.size (.slice (some ⟨g, 0, none⟩) n cap) n ((lessT q d t).take i ++ ((negRow d r).take j ++ List.replicate (n - j) 0) :: List.replicate (n - (i + 1)) (List.replicate n 0)) ∧ Below w.heap.size w wx) (fun i _ => r.length - (intOf i).toNat)
      case atStart => exact ⟨0, Nat.zero_le _, rfl, by rw [fill_start]; exact Hown.out, Hbl.out⟩
      case round =>
        obtain ⟨j, hj, rfl, hown, hbl⟩ := hrel
        clear Hown Hbl
        by_cases hjn : j < r.length
        · obtain ⟨b3, o3, x, rfl, hcx, hgetx⟩ := Hrow.out.at_ hjn
          have hjn' : j < n := by omega
          rw [fill_open hjn'] at hown
          have HBl : Hid (((negRow d r).take j).length = j) := take_len (by rw [negRow_len]; omega)
          have HG := Lib.hid (negRow_get (d := d) hgetx.out)
          have h3 := (hbl.cell (World.block_lt_of_cell? w _ hcx)).trans hcx
          obtain ⟨gk, ck, h5, ho, hne, hlo⟩ := hown.rowAt (at_mid HAl.out) (by simp; omega)
          have hset := hown.setIn (at_mid HAl.out) h5 ho j (wrap64 (-d * x))
          rw [set_mid HAl.out, set_mid HBl.out, fill_shut HG.out] at hset
          have hlen : ((negRow d r).take j ++ 0 :: List.replicate (n - (j + 1)) 0).length = n := by
            rw [List.length_append, HBl.out]; simp; omega
          rw [hlen] at h5 ho
          have h6 := ho.cell j hjn'
          have h7 := ho.frozen j
          have hb' := hbl.setCell (p := ⟨gk, j, none⟩) hlo (.int .i64 (wrap64 (-d * x)))
          have Hset := Lib.hid hset
          have Hb' := Lib.hid hb'
          clear hset hb' ho hown hbl hlen hcx
          go_wp2_with fail
          go_roundw
          case rel => exact ⟨j + 1, hjn, by go_num, Hset.out, Hb'.out⟩
          case measure => simp [intOf]; omega
        · have hjn' : j = n := by omega
          subst hjn'
          rw [fill_end (by rw [negRow_len]; exact HRL.out)] at hown
          have hxi : (negRow d r)[i]? = some ((negRow d r).getD i 0) := by
            have hl : i < (negRow d r).length := by rw [negRow_len]; omega
            simp [List.getD, hl]
          have HX := Lib.hid hxi
          obtain ⟨gk, ck, h5, ho, hne, hlo⟩ := hown.rowAt (at_mid HAl.out) (by rw [negRow_len]; omega)
          have hset := hown.setIn (at_mid HAl.out) h5 ho i (wrap64 ((negRow d r).getD i 0 + q))
          rw [set_mid HAl.out] at hset
          have hset' := (congrArg (OIntss _ w.heap.size _ j) (fill_shut HMG.out)) ▸ hset
          rw [negRow_len, HRL.out] at h5 ho
          have h6 := ho.cell i (by omega)
          have h7 := ho.frozen i
          have hb' := hbl.setCell (p := ⟨gk, i, none⟩) hlo (.int .i64 (wrap64 ((negRow d r).getD i 0 + q)))
          have Hset := Lib.hid hset'
          have Hb' := Lib.hid hb'
          clear hset hset' hb' ho hown hbl hxi
          generalize (negRow d r).getD i 0 = z at *
          go_wp2_with fail
          go_roundw
          case rel => exact ⟨i + 1, hlt, by go_num, Hset.out, Hb'.out⟩
          case measure => simp [intOf]; omega
    · go_wp2_with fail
      go_ret
      have : i = n := by omega
      subst this
      rw [fill_end (by rw [lessT_len]; exact HL.out)] at hown
      exact ⟨_, rfl, hown, hbl⟩
end Go.Proofs.YtonfdiaefkghbaaGreatDoor
