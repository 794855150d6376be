/- Which vertices are reached from which: the tables of both programs, number by number. -/
import Derived.Test.YtjkpndhfdlnpdaaBase
namespace Go.Proofs.Ytjkpndhfdlnpdaa
open Go.RowKit
set_option linter.all false
def en (T : List (List Int)) (i j : Nat) : Int := (T.getD i []).getD j 0
def st (T : List (List Int)) (i j : Nat) (x : Int) : List (List Int) := T.set i ((T.getD i []).set j x)
/-- A square table of zeros and ones. -/
def Sq (n : Nat) (T : List (List Int)) : Prop := T.length = n ∧ (∀ i, i < n → (T.getD i []).length = n) ∧ ∀ i j, i < n → j < n → en T i j = 0 ∨ en T i j = 1
theorem st_len (T : List (List Int)) (i j : Nat) (x : Int) : (st T i j x).length = T.length := by simp [st]
theorem st_row {T : List (List Int)} {n i j a : Nat} {x : Int} (h : Sq n T) (hi : i < n) : (st T i j x).getD a [] = if a = i then (T.getD i []).set j x else T.getD a [] := by
  unfold st
  simp only [List.getD, List.getElem?_set]
  by_cases e : i = a
  · subst e
    rw [if_pos rfl, if_pos (by rw [h.1]; exact hi), if_pos rfl]
    rfl
  · rw [if_neg e, if_neg (fun e2 => e e2.symm)]
theorem en_st {T : List (List Int)} {n i j a b : Nat} {x : Int} (h : Sq n T) (hi : i < n) (hj : j < n) : en (st T i j x) a b = if a = i ∧ b = j then x else en T a b := by
  show ((st T i j x).getD a []).getD b 0 = _
  rw [st_row h hi]
  by_cases e : a = i
  · subst e
    rw [if_pos rfl]
    have hl := h.2.1 a hi
    by_cases e2 : j = b
    · subst e2
      rw [if_pos (show a = a ∧ j = j from ⟨rfl, rfl⟩)]
      generalize T.getD a [] = r at *
      simp [List.getD, List.getElem?_set, hl, hj]
    · rw [if_neg (fun e3 => e2 e3.2.symm)]
      show ((T.getD a []).set j x).getD b 0 = (T.getD a []).getD b 0
      generalize T.getD a [] = r at *
      simp only [List.getD, List.getElem?_set]
      rw [if_neg e2]
  · rw [if_neg e, if_neg (fun e3 => e e3.1)]
    rfl
theorem Sq.st {T : List (List Int)} {n i j : Nat} {x : Int} (h : Sq n T) (hi : i < n) (hj : j < n) (hx : x = 0 ∨ x = 1) : Sq n (st T i j x) := by
  refine ⟨by rw [st_len]; exact h.1, fun a ha => ?_, fun a b ha hb => ?_⟩
  · rw [st_row h hi]
    split
    · rw [List.length_set]; exact h.2.1 i hi
    · exact h.2.1 a ha
  · rw [en_st h hi hj]
    split
    · exact hx
    · exact h.2.2 a b ha hb
def b01 (x : Int) : Int := if 0 < x then 1 else 0
def a01 (x y : Int) : Int := if x = 1 ∧ y = 1 then 1 else 0
def o01 (x y : Int) : Int := if x = 1 ∨ y = 1 then 1 else 0
theorem b01_or (x : Int) : b01 x = 0 ∨ b01 x = 1 := by unfold b01; split <;> simp
theorem o01_or (x y : Int) : o01 x y = 0 ∨ o01 x y = 1 := by unfold o01; split <;> simp
theorem o01_one {x y : Int} (h : o01 x y = 1) : x = 1 ∨ y = 1 := by
  unfold o01 at h
  split at h
  · assumption
  · omega
theorem a01_one {x y : Int} (h : a01 x y = 1) : x = 1 ∧ y = 1 := by
  unfold a01 at h
  split at h
  · assumption
  · omega
def up (k i j : Nat) (T : List (List Int)) : List (List Int) := st T i j (o01 (en T i j) (a01 (en T i k) (en T k j)))
def wj (k i : Nat) : Nat → Nat → List (List Int) → List (List Int)
  | 0, _, T => T
  | c + 1, j, T => wj k i c (j + 1) (up k i j T)
def wi (n k : Nat) : Nat → Nat → List (List Int) → List (List Int)
  | 0, _, T => T
  | c + 1, i, T => wi n k c (i + 1) (wj k i n 0 T)
def wk (n : Nat) : Nat → Nat → List (List Int) → List (List Int)
  | 0, _, T => T
  | c + 1, k, T => wk n c (k + 1) (wi n k n 0 T)
def nj (m : List (List Int)) (i : Nat) : Nat → Nat → List (List Int) → List (List Int)
  | 0, _, T => T
  | c + 1, j, T => nj m i c (j + 1) (st T i j (b01 (en m i j)))
def ni (m : List (List Int)) (n : Nat) : Nat → Nat → List (List Int) → List (List Int)
  | 0, _, T => T
  | c + 1, i, T => ni m n c (i + 1) (nj m i n 0 T)
def zeroT (n : Nat) : List (List Int) := List.replicate n (List.replicate n 0)
def startT (m : List (List Int)) (n : Nat) : List (List Int) := ni m n n 0 (zeroT n)
def reachT (m : List (List Int)) (n : Nat) : List (List Int) := wk n n 0 (startT m n)
theorem zeroT_sq (n : Nat) : Sq n (zeroT n) := by
  refine ⟨by simp [zeroT], fun i hi => by simp [zeroT, List.getD, hi], fun i j hi hj => .inl ?_⟩
  simp [en, zeroT, List.getD, hi, hj]
theorem nj_step {m : List (List Int)} {n i j : Nat} {T R : List (List Int)} (hj : j < n) (F : List (List Int) → List (List Int)) (h : F (nj m i (n - j) j T) = R) : F (nj m i (n - (j + 1)) (j + 1) (st T i j (b01 (en m i j)))) = R := by
  rw [show n - j = (n - (j + 1)) + 1 by omega] at h
  exact h
theorem wj_step {k n i j : Nat} {T R : List (List Int)} (hj : j < n) (F : List (List Int) → List (List Int)) (h : F (wj k i (n - j) j T) = R) : F (wj k i (n - (j + 1)) (j + 1) (up k i j T)) = R := by
  rw [show n - j = (n - (j + 1)) + 1 by omega] at h
  exact h
theorem ni_step {m : List (List Int)} {n i : Nat} {T R : List (List Int)} (hi : i < n) (h : ni m n (n - i) i T = R) : ni m n (n - (i + 1)) (i + 1) (nj m i (n - 0) 0 T) = R := by
  rw [show n - i = (n - (i + 1)) + 1 by omega] at h
  exact h
theorem wi_step {n k i : Nat} {T R : List (List Int)} (hi : i < n) (F : List (List Int) → List (List Int)) (h : F (wi n k (n - i) i T) = R) : F (wi n k (n - (i + 1)) (i + 1) (wj k i (n - 0) 0 T)) = R := by
  rw [show n - i = (n - (i + 1)) + 1 by omega] at h
  exact h
theorem wk_step {n k : Nat} {T R : List (List Int)} (hk : k < n) (h : wk n (n - k) k T = R) : wk n (n - (k + 1)) (k + 1) (wi n k (n - 0) 0 T) = R := by
  rw [show n - k = (n - (k + 1)) + 1 by omega] at h
  exact h
theorem wj_inv {P : List (List Int) → Prop} {k i n : Nat} (hP : ∀ T j, P T → j < n → P (up k i j T)) : ∀ (c j : Nat) (T : List (List Int)), j + c ≤ n → P T → P (wj k i c j T)
  | 0, _, T, _, h => h
  | c + 1, j, T, hc, h => wj_inv hP c (j + 1) _ (by omega) (hP T j h (by omega))
theorem wi_inv {P : List (List Int) → Prop} {k n : Nat} (hP : ∀ T i j, P T → i < n → j < n → P (up k i j T)) : ∀ (c i : Nat) (T : List (List Int)), i + c ≤ n → P T → P (wi n k c i T)
  | 0, _, T, _, h => h
  | c + 1, i, T, hc, h => wi_inv hP c (i + 1) _ (by omega) (wj_inv (fun T j h hj => hP T i j h (by omega) hj) n 0 T (by omega) h)
theorem wk_inv {P : List (List Int) → Prop} {n : Nat} (hP : ∀ T k i j, P T → k < n → i < n → j < n → P (up k i j T)) : ∀ (c k : Nat) (T : List (List Int)), k + c ≤ n → P T → P (wk n c k T)
  | 0, _, T, _, h => h
  | c + 1, k, T, hc, h => wk_inv hP c (k + 1) _ (by omega) (wi_inv (fun T i j h hi hj => hP T k i j h (by omega) hi hj) n 0 T (by omega) h)
theorem nj_inv {P : List (List Int) → Prop} {m : List (List Int)} {i n : Nat} (hP : ∀ T j, P T → j < n → P (st T i j (b01 (en m i j)))) : ∀ (c j : Nat) (T : List (List Int)), j + c ≤ n → P T → P (nj m i c j T)
  | 0, _, T, _, h => h
  | c + 1, j, T, hc, h => nj_inv hP c (j + 1) _ (by omega) (hP T j h (by omega))
theorem ni_inv {P : List (List Int) → Prop} {m : List (List Int)} {n : Nat} (hP : ∀ T i j, P T → i < n → j < n → P (st T i j (b01 (en m i j)))) : ∀ (c i : Nat) (T : List (List Int)), i + c ≤ n → P T → P (ni m n c i T)
  | 0, _, T, _, h => h
  | c + 1, i, T, hc, h => ni_inv hP c (i + 1) _ (by omega) (nj_inv (fun T j h hj => hP T i j h (by omega) hj) n 0 T (by omega) h)
theorem startT_sq (m : List (List Int)) (n : Nat) : Sq n (startT m n) := ni_inv (P := Sq n) (fun T i j h hi hj => h.st hi hj (b01_or _)) n 0 _ (by omega) (zeroT_sq n)
theorem reachT_sq (m : List (List Int)) (n : Nat) : Sq n (reachT m n) := wk_inv (P := Sq n) (fun T k i j h _ hi hj => h.st hi hj (o01_or _ _)) n 0 _ (by omega) (startT_sq m n)
/-- What is told to be reached from a closed set lies in it. -/
theorem reach_closed {m : List (List Int)} {n : Nat} {S : Nat → Prop} (hS : ∀ i j, i < n → j < n → 0 < en m i j → S i → S j) : ∀ i j, i < n → j < n → en (reachT m n) i j = 1 → S i → S j := by
  have h0 : Sq n (startT m n) ∧ ∀ i j, i < n → j < n → en (startT m n) i j = 1 → S i → S j := by
    refine ni_inv (P := fun T => Sq n T ∧ ∀ i j, i < n → j < n → en T i j = 1 → S i → S j) (fun T i j h hi hj => ⟨h.1.st hi hj (b01_or _), fun a b ha hb e hs => ?_⟩) n 0 _ (by omega) ⟨zeroT_sq n, fun i j hi hj e => ?_⟩
    · rw [en_st h.1 hi hj] at e
      split at e
      · rename_i e2
        obtain ⟨rfl, rfl⟩ := e2
        unfold b01 at e
        split at e
        · rename_i e3; exact hS a b ha hb e3 hs
        · omega
      · exact h.2 a b ha hb e hs
    · have : en (zeroT n) i j = 0 := by simp [en, zeroT, List.getD, hi, hj]
      omega
  have h1 := wk_inv (n := n) (P := fun T => Sq n T ∧ ∀ i j, i < n → j < n → en T i j = 1 → S i → S j) (fun T k i j h hk hi hj => ⟨h.1.st hi hj (o01_or _ _), fun a b ha hb e hs => by
    unfold up at e
    rw [en_st h.1 hi hj] at e
    split at e
    · rename_i e2
      obtain ⟨rfl, rfl⟩ := e2
      rcases o01_one e with e3 | e3
      · exact h.2 a b ha hb e3 hs
      · exact h.2 k b hk hb (a01_one e3).2 (h.2 a k ha hk (a01_one e3).1 hs)
    · exact h.2 a b ha hb e hs⟩) n 0 (startT m n) (by omega) h0
  exact h1.2
/-- No number is 0. -/
def fullR (r : List Int) : Bool := r.all (fun x => !decide (x = 0))
def fullT (T : List (List Int)) : Bool := T.all fullR
def irrT (m : List (List Int)) : Bool := fullT (reachT m m.length)
theorem fullR_step {r : List Int} {k : Nat} {x : Int} {b : Bool} (hk : r[k]? = some x) (h : fullR (r.drop k) = b) : (x = 0 → b = false) ∧ (x ≠ 0 → fullR (r.drop (k + 1)) = b) := by
  rw [drop_of_get hk] at h
  constructor
  · intro e; simpa [fullR, e] using h.symm
  · intro e; simpa [fullR, e] using h
theorem fullT_step {T : List (List Int)} {k : Nat} {r : List Int} {b : Bool} (hk : T[k]? = some r) (h : fullT (T.drop k) = b) : (fullR r = false → b = false) ∧ (fullR r = true → fullT (T.drop (k + 1)) = b) := by
  rw [drop_of_get hk] at h
  constructor
  · intro e; simpa [fullT, e] using h.symm
  · intro e; simpa [fullT, e] using h
theorem irr_closed {m : List (List Int)} (h : irrT m = true) {S : Nat → Prop} (hS : ∀ i j, i < m.length → j < m.length → 0 < en m i j → S i → S j) : ∀ i j, i < m.length → j < m.length → S i → S j := by
  intro i j hi hj
  refine reach_closed hS i j hi hj ?_
  have hq := reachT_sq m m.length
  rcases hq.2.2 i j hi hj with e | e
  · exfalso
    simp only [irrT, fullT, List.all_eq_true] at h
    have h1 : (reachT m m.length)[i]? = some ((reachT m m.length).getD i []) := by simp [List.getD, hq.1, hi]
    have h2 := h _ (List.mem_of_getElem? h1)
    simp only [fullR, List.all_eq_true] at h2
    have h3 : ((reachT m m.length).getD i [])[j]? = some (((reachT m m.length).getD i []).getD j 0) := by
      have := hq.2.1 i hi
      simp only [List.getD] at this ⊢
      simp [this, hj]
    have h4 := h2 _ (List.mem_of_getElem? h3)
    have : ((reachT m m.length).getD i []).getD j 0 = 0 := e
    rw [this] at h4
    simp at h4
  · exact e
/-- A table of the call's own, number by number. -/
theorem OIntss.ent {w : World} {lo g n cap : Nat} {T : List (List Int)} (h : OIntss w lo (.slice (some ⟨g, 0, none⟩) n cap) n T) (hq : Sq n T) {i : Nat} (hi : i < n) :
    ∃ gi ci, w.cell? ⟨g, i, none⟩ = some (.slice (some ⟨gi, 0, none⟩) n ci) ∧ lo ≤ gi ∧ (∀ j, j < n → w.cell? ⟨gi, j, none⟩ = some (.int .i64 (en T i j)) ∧ w.frozen? ⟨gi, j, none⟩ = false) ∧ ∀ j x, OIntss (w.setCell ⟨gi, j, none⟩ (.int .i64 x)) lo (.slice (some ⟨g, 0, none⟩) n cap) n (st T i j x) := by
  have hr : T[i]? = some (T.getD i []) := by simp [List.getD, hq.1, hi]
  have hl := hq.2.1 i hi
  obtain ⟨gi, ci, hc, ho, hne, hlo⟩ := h.rowAt hr (by omega)
  refine ⟨gi, ci, by rw [hl] at hc; exact hc, hlo, fun j hj => ⟨ho.cell j (by omega), ho.frozen j⟩, fun j x => h.setIn hr hc ho j x⟩
end Go.Proofs.Ytjkpndhfdlnpdaa
