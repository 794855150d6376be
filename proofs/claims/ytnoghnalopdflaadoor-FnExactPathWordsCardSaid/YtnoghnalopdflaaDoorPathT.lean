/- The arcs of a graph; its paths; the digits of a path. -/
import Derived.Test.YtnoghnalopdflaaDoorThA
import Derived.Test.YtnoghnalopdflaaDoorOrbT
import Derived.Test.YtnoghnalopdflaaDoorTxtT
namespace Go.Proofs.YtnoghnalopdflaaDoor
open Go.RowKit
set_option linter.all false
def arcsJ (i : Nat) : Nat → List Int → List (List Int)
  | _, [] => []
  | j, x :: r => List.replicate x.toNat [(i : Int), (j : Int)] ++ arcsJ i (j + 1) r
def arcsI : Nat → List (List Int) → List (List Int)
  | _, [] => []
  | i, r :: rs => arcsJ i 0 r ++ arcsI (i + 1) rs
def arcsL (m : List (List Int)) : List (List Int) := arcsI 0 m
theorem arcsI_step {m acc R : List (List Int)} {i : Nat} {r : List Int} (hr : m[i]? = some r) (h : acc ++ arcsI i (m.drop i) = R) : acc ++ (arcsJ i 0 (r.drop 0) ++ arcsI (i + 1) (m.drop (i + 1))) = R := by
  rw [drop_of_get hr, arcsI] at h
  simpa using h
theorem arcsI_end {m acc R : List (List Int)} {i : Nat} (hi : m.length ≤ i) (h : acc ++ arcsI i (m.drop i) = R) : acc = R := by
  rw [drop_all m i hi] at h
  simpa [arcsI] using h
theorem arcsJ_step {acc Z R : List (List Int)} {i j : Nat} {r : List Int} {x : Int} (hx : r[j]? = some x) (h : acc ++ (arcsJ i j (r.drop j) ++ Z) = R) : acc ++ (List.replicate (x.toNat - 0) [(i : Int), (j : Int)] ++ (arcsJ i (j + 1) (r.drop (j + 1)) ++ Z)) = R := by
  rw [drop_of_get hx, arcsJ] at h
  simpa using h
theorem arcsJ_end {acc Z R : List (List Int)} {i j : Nat} {r : List Int} (hj : r.length ≤ j) (h : acc ++ (arcsJ i j (r.drop j) ++ Z) = R) : acc ++ Z = R := by
  rw [drop_all r j hj] at h
  simpa [arcsJ] using h
theorem rep_step {acc Z R : List (List Int)} {a : List Int} {c k : Nat} (hk : k < c) (h : acc ++ (List.replicate (c - k) a ++ Z) = R) : (acc ++ [a]) ++ (List.replicate (c - (k + 1)) a ++ Z) = R := by
  rw [show c - k = (c - (k + 1)) + 1 by omega, List.replicate_succ] at h
  simpa using h
theorem rep_end {acc Z R : List (List Int)} {a : List Int} {c k : Nat} (hk : c ≤ k) (h : acc ++ (List.replicate (c - k) a ++ Z) = R) : acc ++ Z = R := by
  rw [show c - k = 0 by omega] at h
  simpa using h
theorem toCome_le {α : Type} {acc Z R : List α} (h : acc ++ Z = R) : acc.length ≤ R.length := by rw [← h]; simp
theorem arcsJ_len (i : Nat) : ∀ (r : List Int) (j : Nat), allIn 0 1000000 r = true → ((arcsJ i j r).length : Int) = r.sum
  | [], _, _ => rfl
  | x :: r, j, h => by
    simp only [allIn, List.all_cons, Bool.and_eq_true] at h
    have h1 := inR_true h.1
    have h2 := arcsJ_len i r (j + 1) h.2
    simp only [arcsJ, List.length_append, List.length_replicate, List.sum_cons, Int.natCast_add, h2]
    omega
theorem arcsI_len (n : Nat) : ∀ (m : List (List Int)) (i : Nat), tabIn n 0 1000000 m = true → ((arcsI i m).length : Int) = msum m
  | [], _, _ => rfl
  | r :: rs, i, h => by
    simp only [tabIn, List.all_cons, Bool.and_eq_true] at h
    have h2 := arcsI_len n rs (i + 1) h.2
    rw [arcsI, List.length_append, Int.natCast_add, arcsJ_len i r 0 h.1.2, h2, msum_cons]
theorem arcsL_len {m : List (List Int)} (h : isMat m = true) : ((arcsL m).length : Int) = sumOf m := by
  unfold sumOf
  rw [if_pos h]
  simp only [isMat, Bool.and_eq_true] at h
  exact arcsI_len _ m 0 h.1
theorem mem_arcsJ {i : Nat} : ∀ {r : List Int} {j : Nat} {a : List Int}, a ∈ arcsJ i j r → ∃ k : Nat, a = [(i : Int), (k : Int)]
  | [], _, _, h => by simp [arcsJ] at h
  | x :: r, j, a, h => by
    rw [arcsJ] at h
    rcases List.mem_append.1 h with h | h
    · exact ⟨j, List.eq_of_mem_replicate h⟩
    · exact mem_arcsJ h
theorem mem_arcsI : ∀ {m : List (List Int)} {i : Nat} {a : List Int}, a ∈ arcsI i m → ∃ p q : Nat, a = [(p : Int), (q : Int)]
  | [], _, _, h => by simp [arcsI] at h
  | r :: rs, i, a, h => by
    rw [arcsI] at h
    rcases List.mem_append.1 h with h | h
    · obtain ⟨k, e⟩ := mem_arcsJ h; exact ⟨i, k, e⟩
    · exact mem_arcsI h
theorem arc_get {m : List (List Int)} {k : Nat} {a : List Int} (h : (arcsL m)[k]? = some a) : ∃ p q : Nat, a = [(p : Int), (q : Int)] := mem_arcsI (List.mem_of_getElem? h)
/-- May arc a follow a path? -/
def toOf (A : List (List Int)) (x : Int) : Int := (A.getD x.toNat []).getD 1 0
def fromOf (A : List (List Int)) (a : Nat) : Int := (A.getD a []).getD 0 0
def okN (A : List (List Int)) (head : List Int) (a : Nat) : Bool := decide (head.length = 0) || decide (toOf A (head.getLastD 0) = fromOf A a)
def ext (A : List (List Int)) (head : List Int) (a : Nat) : List (List Int) := if okN A head a then [head ++ [(a : Int)]] else []
def ext1 (A : List (List Int)) (head : List Int) : List (List Int) := (List.range' 0 A.length).flatMap (ext A head)
def fillL (A : List (List Int)) : Nat → List Int → List (List Int)
  | 0, head => [head]
  | r + 1, head => (List.range' 0 A.length).flatMap fun a => if okN A head a then fillL A r (head ++ [(a : Int)]) else []
theorem fillL_ext (A : List (List Int)) (r : Nat) (head : List Int) : fillL A (r + 1) head = (ext1 A head).flatMap (fillL A r) := by
  unfold ext1
  rw [List.flatMap_assoc]
  unfold fillL
  congr 1
  funext a
  unfold ext
  split <;> simp
theorem range_step {α : Type} {g : Nat → List α} {acc R : List α} {a N : Nat} (ha : a < N) (h : acc ++ (List.range' a (N - a)).flatMap g = R) : (acc ++ g a) ++ (List.range' (a + 1) (N - (a + 1))).flatMap g = R := by
  rw [show N - a = (N - (a + 1)) + 1 by omega, List.range'_succ, List.flatMap_cons] at h
  simpa using h
theorem range_end {α : Type} {g : Nat → List α} {acc R : List α} {a N : Nat} (ha : N ≤ a) (h : acc ++ (List.range' a (N - a)).flatMap g = R) : acc = R := by
  rw [show N - a = 0 by omega] at h
  simpa using h
def cntP (m : List (List Int)) (n : Int) : Int := match powM m n with
  | none => -1
  | some p => sumOf p
def pathsOk (m : List (List Int)) (n : Int) : Bool := isGraph m && (inR n 1 6 && inR (cntP m n) 0 500)
def pathsV (m : List (List Int)) (n : Int) : List (List Int) := if pathsOk m n then fillL (arcsL m) n.toNat [] else []
def txtP (p : List Int) : ByteArray := p.foldl (fun t x => t ++ decB x.toNat) ⟨#[]⟩
def pathW (m : List (List Int)) (n : Int) : List ByteArray := if 10 < sumOf m then [] else (pathsV m n).map txtP
theorem fillL_mem {A : List (List Int)} : ∀ {r : Nat} {head p : List Int}, p ∈ fillL A r head → Idx A.length head → p.length = head.length + r ∧ Idx A.length p
  | 0, head, p, h, hi => by
    simp [fillL] at h
    subst h
    exact ⟨rfl, hi⟩
  | r + 1, head, p, h, hi => by
    rw [fillL, List.mem_flatMap] at h
    obtain ⟨a, ha, h⟩ := h
    have ha2 : a < A.length := by simpa [List.mem_range'_1] using ha
    split at h
    · have h2 := fillL_mem h (by
        intro x hx
        rcases List.mem_append.1 hx with hx | hx
        · exact hi x hx
        · simp at hx; subst hx; omega)
      refine ⟨?_, h2.2⟩
      have := h2.1
      simp at this
      omega
    · simp at h
theorem fillL_len {A : List (List Int)} (hA : A.length ≤ 60) : ∀ (r : Nat) (head : List Int), (fillL A r head).length ≤ 60 ^ r
  | 0, head => by simp [fillL]
  | r + 1, head => by
    rw [fillL, List.length_flatMap, Nat.pow_succ]
    have key : ∀ (l : List Nat), (l.map fun a => (if okN A head a then fillL A r (head ++ [(a : Int)]) else []).length).sum ≤ 60 ^ r * l.length := by
      intro l
      induction l with
      | nil => simp
      | cons a l ih =>
        simp only [List.map_cons, List.sum_cons, List.length_cons]
        rw [Nat.mul_succ]
        have h1 : (if okN A head a then fillL A r (head ++ [(a : Int)]) else []).length ≤ 60 ^ r := by
          split
          · exact fillL_len hA r _
          · simp
        omega
    have h2 := key (List.range' 0 A.length)
    rw [List.length_range'] at h2
    exact Nat.le_trans h2 (Nat.mul_le_mul_left _ hA)
end Go.Proofs.YtnoghnalopdflaaDoor
