/- Words that keep bounds are counted by how many letters a there are behind the last b. -/
import Derived.Test.YtaomoahcdlkifaaBase
import Derived.Test.YtaomoahcdlkifaaSums
import Derived.Test.YtaomoahcdlkifaaRunFits
import Derived.Test.YtaomoahcdlkifaaFRmath
namespace Go.Proofs.Ytaomoahcdlkifaa
open Go.RowKit
set_option linter.all false
def accF (d : Nat) : List Int → List Int → Nat → Int → Int
  | s :: S, f :: F, p, a => accF d S F (p + 1) (wrap64 (a + (if d ≤ p then s else 0) + f))
  | _, _, _, a => a
def cntR (d k : Nat) : Nat → List Int → List Int → Int
  | 0, S, F => wrap64 (S.sum + F.sum)
  | n + 1, S, F => cntR d k n (accF d S F 0 0 :: S.take k) (0 :: F.take k)
def zerosL (k : Nat) : List Int := List.replicate (k + 1) 0
def oneL (k : Nat) : List Int := 1 :: List.replicate k 0
def countR (d k n : Int) : Int := if fitsR d k && inR n 0 20 then cntR d.toNat k.toNat n.toNat (zerosL k.toNat) (oneL k.toNat) else -1
def Wr (L : List Int) : Prop := ∀ x ∈ L, wrap64 x = x
def nextL (k : Nat) (A : List Int) (p : Nat) (a : Int) : List Int := a :: (A.take (min p k) ++ List.replicate (k - p) 0)
theorem wrap_wrap (z : Int) : wrap64 (wrap64 z) = wrap64 z := by unfold wrap64; omega
theorem accF_step {d p : Nat} {S F : List Int} {s f a R : Int} (hs : S[p]? = some s) (hf : F[p]? = some f) (h : accF d (S.drop p) (F.drop p) p a = R) :
    accF d (S.drop (p + 1)) (F.drop (p + 1)) (p + 1) (wrap64 (a + (if d ≤ p then s else 0) + f)) = R := by
  rw [drop_of_get hs, drop_of_get hf] at h
  exact h
theorem accF_end {d p : Nat} {S F : List Int} {a R : Int} (hp : S.length ≤ p) (h : accF d (S.drop p) (F.drop p) p a = R) : a = R := by
  rw [drop_all S p hp] at h
  exact h
theorem acc_yes {d p : Nat} {a s f : Int} (h : d ≤ p) : wrap64 (wrap64 (a + s) + f) = wrap64 (a + (if d ≤ p then s else 0) + f) ∧ wrap64 (wrap64 (a + f) + s) = wrap64 (a + (if d ≤ p then s else 0) + f) := by
  rw [if_pos h, wrap_add, wrap_add]
  exact ⟨rfl, by congr 1; omega⟩
theorem acc_no {d p : Nat} {a s f : Int} (h : ¬ d ≤ p) : wrap64 (a + f) = wrap64 (a + (if d ≤ p then s else 0) + f) := by
  rw [if_neg h]; congr 1; omega
theorem nl_len {k p : Nat} {A : List Int} {a : Int} (hA : A.length = k + 1) (hp : p ≤ k + 1) : (nextL k A p a).length = k + 1 := by
  simp [nextL, hA]; omega
theorem nl_setS {k p : Nat} {A : List Int} {a x : Int} (hA : A.length = k + 1) (hp : p < k) (hx : A[p]? = some x) : (nextL k A p a).set (p + 1) x = nextL k A (p + 1) a := by
  unfold nextL
  rw [List.set_cons_succ, show k - p = (k - (p + 1)) + 1 by omega, List.replicate_succ, Nat.min_eq_left (by omega), Nat.min_eq_left (by omega), set_mid (take_len (by omega)), fill_shut hx]
theorem nl_skip {k p : Nat} {A : List Int} {a : Int} (hp : ¬ p < k) : nextL k A (p + 1) a = nextL k A p a := by
  unfold nextL
  rw [Nat.min_eq_right (by omega), Nat.min_eq_right (by omega), show k - p = 0 by omega, show k - (p + 1) = 0 by omega]
theorem nl_get0 (k : Nat) (A : List Int) (p : Nat) (a : Int) : (nextL k A p a).getD 0 0 = a := rfl
theorem nl_set0 (k : Nat) (A : List Int) (p : Nat) (a b : Int) : (nextL k A p a).set 0 b = nextL k A p b := rfl
theorem nl_getS {k p : Nat} {A : List Int} {a : Int} (hA : A.length = k + 1) (hp : p < k) : (nextL k A p a).getD (p + 1) 0 = 0 := by
  have e : (A.take (min p k) ++ List.replicate (k - p) (0 : Int))[p]? = some 0 := by
    have hl := take_len (k := p) (M := A) (by omega)
    rw [Nat.min_eq_left (by omega), List.getElem?_append_right (by omega), hl, Nat.sub_self, List.getElem?_replicate, if_pos (by omega)]
  unfold nextL
  rw [List.getD_cons_succ, List.getD, e]
  rfl
theorem nl_end (k : Nat) (A : List Int) (a : Int) : nextL k A (k + 1) a = a :: A.take k := by
  unfold nextL
  rw [Nat.min_eq_right (by omega), show k - (k + 1) = 0 by omega]
  simp
theorem nl_start (k : Nat) (A : List Int) : nextL k A 0 0 = List.replicate (k + 1) 0 := by
  simp [nextL, List.replicate_succ]
theorem Wr.get {L : List Int} (h : Wr L) {p : Nat} {x : Int} (hx : L[p]? = some x) : wrap64 x = x := h x (List.mem_of_getElem? hx)
theorem Wr.cons {L : List Int} {k : Nat} {a : Int} (h : Wr L) (ha : wrap64 a = a) : Wr (a :: L.take k) := by
  intro x hx
  rcases List.mem_cons.1 hx with rfl | hx
  · exact ha
  · exact h x (List.mem_of_mem_take hx)
theorem wr0 : wrap64 0 = 0 := by unfold wrap64; omega
/-- Four rows of the call's own, in blocks of their own. -/
structure Quad (w : World) (lo m g1 g2 g3 g4 : Nat) (A B C D : List Int) : Prop where
  o1 : OInts w lo (.slice (some ⟨g1, 0, none⟩) m m) m A
  o2 : OInts w lo (.slice (some ⟨g2, 0, none⟩) m m) m B
  o3 : OInts w lo (.slice (some ⟨g3, 0, none⟩) m m) m C
  o4 : OInts w lo (.slice (some ⟨g4, 0, none⟩) m m) m D
  ne : g1 ≠ g3 ∧ g1 ≠ g4 ∧ g2 ≠ g3 ∧ g2 ≠ g4 ∧ g3 ≠ g4
theorem OInts.setFar {w : World} {lo g g' n c j : Nat} {xs : List Int} (h : OInts w lo (.slice (some ⟨g, 0, none⟩) n c) n xs) (hne : g ≠ g') (u : Value) : OInts (w.setCell ⟨g', j, none⟩ u) lo (.slice (some ⟨g, 0, none⟩) n c) n xs :=
  h.grown (only_setCell (World.grownBy.refl w (some g')) rfl u) (.inr (by simp [Value.ownBlock]; exact hne))
section
variable {w : World} {lo m g1 g2 g3 g4 : Nat} {A B C D : List Int}
theorem Quad.drewN (h : Quad w lo m g1 g2 g3 g4 A B C D) (n : Nat) : Quad (w.drewN n) lo m g1 g2 g3 g4 A B C D := ⟨h.o1, h.o2, h.o3, h.o4, h.ne⟩
theorem Quad.set3 (h : Quad w lo m g1 g2 g3 g4 A B C D) (j : Nat) (x : Int) : Quad (w.setCell ⟨g3, j, none⟩ (.int .i64 x)) lo m g1 g2 g3 g4 A B (C.set j x) D :=
  ⟨h.o1.setFar h.ne.1 _, h.o2.setFar h.ne.2.2.1 _, h.o3.set j x, h.o4.setFar (Ne.symm h.ne.2.2.2.2) _, h.ne⟩
theorem Quad.set4 (h : Quad w lo m g1 g2 g3 g4 A B C D) (j : Nat) (x : Int) : Quad (w.setCell ⟨g4, j, none⟩ (.int .i64 x)) lo m g1 g2 g3 g4 A B C (D.set j x) :=
  ⟨h.o1.setFar h.ne.2.1 _, h.o2.setFar h.ne.2.2.2.1 _, h.o3.setFar h.ne.2.2.2.2 _, h.o4.set j x, h.ne⟩
end
theorem zeros_wr (k : Nat) : Wr (zerosL k) := by
  intro x hx
  have := (List.mem_replicate.1 hx).2
  subst this
  exact wr0
theorem one_wr (k : Nat) : Wr (oneL k) := by
  intro x hx
  rcases List.mem_cons.1 hx with rfl | hx
  · unfold wrap64; omega
  · have := (List.mem_replicate.1 hx).2
    subst this
    exact wr0
theorem sums_step {A B : List Int} {p : Nat} {x1 x2 y : Int} (h1 : A[p]? = some x1) (h2 : B[p]? = some x2) (h : y = wrap64 ((A.take p).sum + (B.take p).sum)) :
    wrap64 (wrap64 (y + x1) + x2) = wrap64 ((A.take (p + 1)).sum + (B.take (p + 1)).sum) := by
  subst h
  rw [wrap_add, ← push_take h1, ← push_take h2, List.sum_append, List.sum_append]
  simp only [List.sum_cons, List.sum_nil]
  unfold wrap64
  omega
theorem wp_at {P : Program} {c : Code} {Q : Exit → Act → World → Prop} {a : Act} {W : World} (R : World → Prop) (hR : R W) (h : ∀ W, R W → c.wp P Q a W) : c.wp P Q a W := h W hR
end Go.Proofs.Ytaomoahcdlkifaa
