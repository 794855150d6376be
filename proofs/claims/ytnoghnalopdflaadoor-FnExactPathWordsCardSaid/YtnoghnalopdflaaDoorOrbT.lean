/- OrbT: parts of the proofs of this seat: MulM PowM Closed Moebius LeastP OrbitR. -/
import Derived.Test.YtnoghnalopdflaaDoorThA
import Derived.Test.YtnoghnalopdflaaDoorBase
namespace Go.Proofs.YtnoghnalopdflaaDoor
open Go.RowKit
set_option linter.all false
def mulM (a b : List (List Int)) : Option (List (List Int)) := if isMat a && (isMat b && (decide (a.length = b.length) && isMat (mulT a b b.length))) then some (mulT a b b.length) else none
theorem mulM_none1 {a b : List (List Int)} (h : isMat a = false) : mulM a b = none := by simp [mulM, h]
theorem mulM_none2 {a b : List (List Int)} (h : isMat b = false) : mulM a b = none := by simp [mulM, h]
theorem mulM_none3 {a b : List (List Int)} (h : a.length ≠ b.length) : mulM a b = none := by simp [mulM, h]
theorem mulM_none4 {a b : List (List Int)} (h : isMat (mulT a b b.length) = false) : mulM a b = none := by simp [mulM, h]
theorem mulM_some {a b : List (List Int)} (h1 : isMat a = true) (h2 : isMat b = true) (h3 : a.length = b.length) (h4 : isMat (mulT a b b.length) = true) : mulM a b = some (mulT a b b.length) := by
  unfold mulM; rw [h1, h2, h4]; simp [h3]
theorem mulM_mat {a b c : List (List Int)} (h : mulM a b = some c) : isMat c = true ∧ c.length = b.length := by
  unfold mulM at h
  split at h
  · rename_i h1
    injection h with h
    subst h
    simp only [Bool.and_eq_true, decide_eq_true_eq] at h1
    exact ⟨h1.2.2.2, by rw [mulT_len]; exact h1.2.2.1⟩
  · cases h
end Go.Proofs.YtnoghnalopdflaaDoor

namespace Go.Proofs.YtnoghnalopdflaaDoor
open Go.RowKit
set_option linter.all false
def iterM (m : List (List Int)) : Nat → List (List Int) → Option (List (List Int))
  | 0, acc => some acc
  | k + 1, acc => match mulM acc m with
    | none => none
    | some p => iterM m k p
def powM (m : List (List Int)) (n : Int) : Option (List (List Int)) := if isMat m && inR n 0 30 then iterM m n.toNat (oneT m.length) else none
theorem iterM_none {m acc : List (List Int)} {k : Nat} (h : mulM acc m = none) : iterM m (k + 1) acc = none := by simp [iterM, h]
theorem iterM_some {m acc p : List (List Int)} {k : Nat} (h : mulM acc m = some p) : iterM m (k + 1) acc = iterM m k p := by simp [iterM, h]
theorem powM_none1 {m : List (List Int)} {n : Int} (h : isMat m = false) : powM m n = none := by simp [powM, h]
theorem powM_none2 {m : List (List Int)} {n : Int} (h : inR n 0 30 = false) : powM m n = none := by simp [powM, h]
theorem powM_iter {m : List (List Int)} {n : Int} (h1 : isMat m = true) (h2 : inR n 0 30 = true) : powM m n = iterM m n.toNat (oneT m.length) := by simp [powM, h1, h2]
theorem oneT_mat {n : Nat} (h1 : 1 ≤ n) (h9 : n ≤ 9) : isMat (oneT n) = true := by
  have h : inR (oneT n).length 1 9 = true := inR_mk (by rw [oneT_len]; omega)
  unfold isMat
  rw [h, Bool.and_true, oneT_len]
  simp only [tabIn, oneT, List.all_map, List.all_eq_true, List.mem_range]
  intro i _
  simp only [Function.comp, oneRow_len, decide_true, Bool.true_and, allIn, List.all_eq_true]
  intro x hx
  rcases List.mem_or_eq_of_mem_set hx with hx | hx
  · have := List.eq_of_mem_replicate hx
    subst this
    decide
  · subst hx
    decide
theorem iterM_mat {m : List (List Int)} : ∀ (k : Nat) (acc p : List (List Int)), isMat acc = true → acc.length = m.length → iterM m k acc = some p → isMat p = true ∧ p.length = m.length
  | 0, acc, p, h1, h2, h => by
    injection h with h
    subst h
    exact ⟨h1, h2⟩
  | k + 1, acc, p, _, _, h => by
    cases hq : mulM acc m with
    | none => rw [iterM_none hq] at h; cases h
    | some q =>
      rw [iterM_some hq] at h
      have := mulM_mat hq
      exact iterM_mat k q p this.1 this.2 h
theorem powM_mat {m p : List (List Int)} {n : Int} (h : powM m n = some p) : isMat m = true ∧ isMat p = true ∧ p.length = m.length := by
  cases h1 : isMat m with
  | false => rw [powM_none1 h1] at h; cases h
  | true =>
    cases h2 : inR n 0 30 with
    | false => rw [powM_none2 h2] at h; cases h
    | true =>
      rw [powM_iter h1 h2] at h
      have hl := isMat_len h1
      have := iterM_mat _ _ _ (oneT_mat hl.1 hl.2) (oneT_len _) h
      exact ⟨rfl, this⟩
end Go.Proofs.YtnoghnalopdflaaDoor

namespace Go.Proofs.YtnoghnalopdflaaDoor
open Go.RowKit
set_option linter.all false
def trc : Nat → Int → List (List Int) → Int
  | _, a, [] => a
  | k, a, r :: rs => trc (k + 1) (wrap64 (a + r.getD k 0)) rs
def closed (m : List (List Int)) (n : Int) : Int :=
  if inR n 1 30 then (match powM m n with
    | none => -1
    | some p => trc 0 0 p) else -1
theorem closed_n {m : List (List Int)} {n : Int} (h : inR n 1 30 = false) : closed m n = -1 := by simp [closed, h]
theorem closed_none {m : List (List Int)} {n : Int} (h : powM m n = none) : closed m n = -1 := by simp [closed, h]
theorem closed_some {m p : List (List Int)} {n : Int} (h1 : inR n 1 30 = true) (h : powM m n = some p) : closed m n = trc 0 0 p := by simp [closed, h, h1]
theorem trc_step {p : List (List Int)} {k : Nat} {a R x : Int} {r : List Int} (hk : p[k]? = some r) (hx : r[k]? = some x) (h : trc k a (p.drop k) = R) : trc (k + 1) (wrap64 (a + x)) (p.drop (k + 1)) = R := by
  rw [drop_of_get hk] at h
  simpa [trc, List.getD, hx] using h
end Go.Proofs.YtnoghnalopdflaaDoor

namespace Go.Proofs.YtnoghnalopdflaaDoor
open Go.RowKit
set_option linter.all false
def mb : Nat → Nat → Nat → Int → Int
  | 0, _, _, o => o
  | f + 1, n, p, o => if p ≤ n then (if n % p = 0 then (if n / p % p = 0 then 0 else mb f (n / p) (p + 1) (-o)) else mb f n (p + 1) o) else o
def moeb (n : Int) : Int := if inR n 1 1000 then mb 999 n.toNat 2 1 else 0
theorem mb_stop {f n p : Nat} {o : Int} (h : n < p) : mb f n p o = o := by
  cases f with
  | zero => rfl
  | succ f => simp [mb, show ¬ p ≤ n by omega]
theorem mb_step {n p : Nat} {o M : Int} (hn : n ≤ 1000) (hp : p ≤ n) (h : Hid (mb (1001 - p) n p o = M)) :
    (n % p ≠ 0 → Hid (mb (1001 - (p + 1)) n (p + 1) o = M)) ∧ (n % p = 0 → n / p % p = 0 → M = 0) ∧ (n % p = 0 → n / p % p ≠ 0 → Hid (mb (1001 - (p + 1)) (n / p) (p + 1) (-o) = M)) := by
  have e : 1001 - p = (1001 - (p + 1)) + 1 := by omega
  have h := h.out
  rw [e] at h
  simp only [mb, if_pos hp] at h
  refine ⟨fun h1 => ?_, fun h1 h2 => ?_, fun h1 h2 => ?_⟩
  · rw [if_neg h1] at h; exact h
  · rw [if_pos h1, if_pos h2] at h; exact h.symm
  · rw [if_pos h1, if_neg h2] at h; exact h
theorem modI (n p : Nat) : (n : Int) % (p : Int) = ((n % p : Nat) : Int) := by simp
theorem divmodI (n p : Nat) : (n : Int) / (p : Int) % (p : Int) = ((n / p % p : Nat) : Int) := by simp
theorem natz (k : Nat) : (((k : Nat) : Int) == 0) = decide (k = 0) := by
  by_cases h : k = 0
  · subst h; rfl
  · simp [h]
theorem modI_z {n p : Nat} (h : n % p = 0) : ((n : Int) % (p : Int) != 0) = false := by rw [modI, bne, natz, h]; rfl
theorem modI_nz {n p : Nat} (h : n % p ≠ 0) : ((n : Int) % (p : Int) != 0) = true := by rw [modI, bne, natz, decide_eq_false h]; rfl
theorem modE_z {n p : Nat} (h : n % p = 0) : ((n : Int) % (p : Int) == 0) = true := by rw [modI, natz, h]; rfl
theorem modE_nz {n p : Nat} (h : n % p ≠ 0) : ((n : Int) % (p : Int) == 0) = false := by rw [modI, natz, decide_eq_false h]
theorem divmodI_z {n p : Nat} (h : n / p % p = 0) : ((n : Int) / (p : Int) % (p : Int) == 0) = true := by rw [divmodI, natz, h]; rfl
theorem divmodI_nz {n p : Nat} (h : n / p % p ≠ 0) : ((n : Int) / (p : Int) % (p : Int) == 0) = false := by rw [divmodI, natz, decide_eq_false h]
theorem divI (n p : Nat) : (n : Int) / (p : Int) = ((n / p : Nat) : Int) := by simp
theorem divI_bounds (n p : Nat) : 0 ≤ (n : Int) / (p : Int) ∧ (n : Int) / (p : Int) ≤ n := by
  rw [divI]
  exact ⟨Int.natCast_nonneg _, Int.ofNat_le.2 (Nat.div_le_self n p)⟩
end Go.Proofs.YtnoghnalopdflaaDoor

namespace Go.Proofs.YtnoghnalopdflaaDoor
open Go.RowKit
set_option linter.all false
def lpLoop (m : List (List Int)) (n : Nat) : Nat → Nat → Int → Int
  | 0, _, s => s
  | f + 1, d, s => lpLoop m n f (d + 1) (if n % d = 0 then wrap64 (s + wrap64 (moeb ((n : Int) / (d : Int)) * closed m d)) else s)
def lp (m : List (List Int)) (n : Int) : Int := if 12 < n then -1 else if closed m n < 0 then -1 else lpLoop m n.toNat n.toNat 1 0
theorem lp_step {m : List (List Int)} {n d : Nat} {s R : Int} (hd : d ≤ n) (h : Hid (lpLoop m n (n + 1 - d) d s = R)) :
    (n % d = 0 → Hid (lpLoop m n (n + 1 - (d + 1)) (d + 1) (wrap64 (s + wrap64 (moeb ((n : Int) / (d : Int)) * closed m d))) = R)) ∧ (n % d ≠ 0 → Hid (lpLoop m n (n + 1 - (d + 1)) (d + 1) s = R)) := by
  have h := h.out
  rw [show n + 1 - d = (n + 1 - (d + 1)) + 1 by omega] at h
  simp only [lpLoop] at h
  constructor
  · intro e; rw [if_pos e] at h; exact h
  · intro e; rw [if_neg e] at h; exact h
theorem closed_range {m : List (List Int)} {n : Int} (h : ¬ closed m n < 0) : 1 ≤ n ∧ n ≤ 30 := by
  cases h1 : inR n 1 30
  · rw [closed_n h1] at h; omega
  · exact inR_true h1
end Go.Proofs.YtnoghnalopdflaaDoor

namespace Go.Proofs.YtnoghnalopdflaaDoor
open Go.RowKit
set_option linter.all false
def orbL (m : List (List Int)) : Nat → Nat → List Int → List Int
  | 0, _, acc => acc
  | c + 1, k, acc => if lp m k < 0 then [] else orbL m c (k + 1) (acc ++ [lp m k])
def orbV (m : List (List Int)) (n : Int) : List Int := if inR n 1 10 then orbL m n.toNat 1 [] else []
theorem orbL_len (m : List (List Int)) : ∀ (c k : Nat) (acc : List Int), orbL m c k acc = [] ∨ (orbL m c k acc).length = acc.length + c
  | 0, _, acc => .inr rfl
  | c + 1, k, acc => by
    unfold orbL
    split
    · exact .inl rfl
    · rcases orbL_len m c (k + 1) (acc ++ [lp m k]) with h | h
      · exact .inl h
      · right; rw [h]; simp; omega
theorem orbV_len (m : List (List Int)) (n : Int) : orbV m n = [] ∨ (orbV m n).length = n.toNat := by
  unfold orbV
  split
  · have := orbL_len m n.toNat 1 []
    simpa using this
  · exact .inl rfl
theorem orb_step {m : List (List Int)} {n k : Nat} {ys R : List Int} (hk : k ≤ n) (h : Hid (orbL m (n + 1 - k) k ys = R)) : (lp m k < 0 → R = []) ∧ (¬ lp m k < 0 → Hid (orbL m (n + 1 - (k + 1)) (k + 1) (ys ++ [lp m k]) = R)) := by
  have h := h.out
  rw [show n + 1 - k = (n + 1 - (k + 1)) + 1 by omega] at h
  simp only [orbL] at h
  constructor
  · intro e; rw [if_pos e] at h; exact h.symm
  · intro e; rw [if_neg e] at h; exact h
def fitL : List Int → List Int → Bool
  | x :: xs, y :: ys => if y < x then false else fitL xs ys
  | _, _ => true
def fits (a b : List (List Int)) (n : Int) : Bool := fitL (orbV a n) (orbV b n) && (decide (0 < (orbV a n).length) && decide (0 < (orbV b n).length))
theorem fitL_step {xs ys : List Int} {k : Nat} {x y : Int} {R : Bool} (hx : xs[k]? = some x) (hy : ys[k]? = some y) (h : fitL (xs.drop k) (ys.drop k) = R) : (y < x → R = false) ∧ (¬ y < x → fitL (xs.drop (k + 1)) (ys.drop (k + 1)) = R) := by
  rw [drop_of_get hx, drop_of_get hy] at h
  simp only [fitL] at h
  constructor
  · intro e; rw [if_pos e] at h; exact h.symm
  · intro e; rw [if_neg e] at h; exact h
theorem fitL_end {xs ys : List Int} {k : Nat} {R : Bool} (hk : xs.length ≤ k ∨ ys.length ≤ k) (h : fitL (xs.drop k) (ys.drop k) = R) : R = true := by
  rcases hk with hk | hk
  · rw [drop_all xs k hk] at h; simpa [fitL] using h.symm
  · rw [drop_all ys k hk] at h
    cases hx : xs.drop k <;> rw [hx] at h <;> simpa [fitL] using h.symm
def fgI : Nat → List Int → List Int → Int
  | k, x :: xs, y :: ys => if y < x then (k : Int) else fgI (k + 1) xs ys
  | _, _, _ => -1
theorem fgI_neg : ∀ (xs ys : List Int) (k : Nat), decide (fgI k xs ys < 0) = fitL xs ys
  | [], ys, k => by cases ys <;> rfl
  | x :: xs, [], k => rfl
  | x :: xs, y :: ys, k => by
    unfold fgI fitL
    split
    · have : ¬ ((k : Int) < 0) := by omega
      simp [this]
    · exact fgI_neg xs ys (k + 1)
theorem fgI_step {xs ys : List Int} {k : Nat} {x y R : Int} (hx : xs[k]? = some x) (hy : ys[k]? = some y) (h : fgI k (xs.drop k) (ys.drop k) = R) : (y < x → R = (k : Int)) ∧ (¬ y < x → fgI (k + 1) (xs.drop (k + 1)) (ys.drop (k + 1)) = R) := by
  rw [drop_of_get hx, drop_of_get hy] at h
  simp only [fgI] at h
  constructor
  · intro e; rw [if_pos e] at h; exact h.symm
  · intro e; rw [if_neg e] at h; exact h
theorem fgI_end {xs ys : List Int} {k : Nat} {R : Int} (hk : xs.length ≤ k) (h : fgI k (xs.drop k) (ys.drop k) = R) : R = -1 := by
  rw [drop_all xs k hk] at h
  simpa [fgI] using h.symm
end Go.Proofs.YtnoghnalopdflaaDoor
