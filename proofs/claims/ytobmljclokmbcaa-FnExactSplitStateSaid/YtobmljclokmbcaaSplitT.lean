/- A split state: the arcs anew. -/
import Derived.Test.YtobmljclokmbcaaInsT
import Derived.Test.YtobmljclokmbcaaLabArcs
namespace Go.Proofs.Ytobmljclokmbcaa
open Go.RowKit
set_option linter.all false
theorem okFrom_pair {s l : Int} : ∀ {xs : List Ar} {p : Option Ar}, okFrom s l p xs = true → xs.Pairwise (fun a b => ltA a b = true) ∧ ∀ q, p = some q → ∀ y ∈ xs, ltA q y = true
  | [], p, _ => ⟨List.Pairwise.nil, fun q _ y hy => by simp at hy⟩
  | x :: r, p, h => by
    simp only [okFrom, Bool.and_eq_true] at h
    have ih := okFrom_pair h.2
    refine ⟨List.pairwise_cons.2 ⟨fun y hy => ih.2 x rfl y hy, ih.1⟩, fun q hq y hy => ?_⟩
    have hb := h.1.2
    subst hq
    rcases List.mem_cons.1 hy with rfl | hy
    · exact hb
    · exact ltA_trans hb (ih.2 x rfl y hy)
theorem isLab_pair {L S : Int} {xs : List Ar} (h : isLab L S xs = true) : xs.Pairwise (fun a b => ltA a b = true) := (okFrom_pair (isLab_get h).2.2).1
theorem fromL_sub (p : Int) : ∀ xs : List Ar, (fromL p xs).Sublist xs
  | [] => List.Sublist.slnil
  | x :: r => by
    unfold fromL
    split
    · exact (fromL_sub p r).cons₂ x
    · exact (fromL_sub p r).cons x
theorem fromL_from {p : Int} : ∀ {xs : List Ar} {x : Ar}, x ∈ fromL p xs → x.1 = p
  | [], x, h => by simp [fromL] at h
  | y :: r, x, h => by
    unfold fromL at h
    split at h
    · rename_i e
      rcases List.mem_cons.1 h with rfl | h
      · exact e
      · exact fromL_from h
    · exact fromL_from h
theorem asc_len : ∀ (l : List Int) (a b : Int), l.Pairwise (· < ·) → (∀ x ∈ l, a ≤ x ∧ x < b) → (l.length : Int) ≤ max 0 (b - a)
  | [], a, b, _, _ => by simp; omega
  | x :: r, a, b, hp, hm => by
    rw [List.pairwise_cons] at hp
    have h1 := hm x (List.mem_cons_self ..)
    have ih := asc_len r (x + 1) b hp.2 (fun y hy => ⟨by have := hp.1 y hy; omega, (hm y (List.mem_cons_of_mem _ hy)).2⟩)
    rw [List.length_cons]
    omega
theorem fromL_36 {L S p : Int} {xs : List Ar} (h : isLab L S xs = true) : (fromL p xs).length ≤ 36 := by
  obtain ⟨hL, hS, hok⟩ := isLab_get h
  have hall := okFrom_all hok
  have hp : (fromL p xs).Pairwise (fun a b => ltA a b = true) := (isLab_pair h).sublist (fromL_sub p xs)
  have hk : ((fromL p xs).map (fun x => x.2.2 * 12 + x.2.1)).Pairwise (· < ·) := by
    rw [List.pairwise_map]
    refine hp.imp_of_mem ?_
    intro a b ha hb hab
    have h1 := fromL_from ha
    have h2 := fromL_from hb
    obtain ⟨a1, a2, a3⟩ := a
    obtain ⟨b1, b2, b3⟩ := b
    have r1 := arcB_get (hall _ ((fromL_sub p xs).subset ha))
    have r2 := arcB_get (hall _ ((fromL_sub p xs).subset hb))
    rw [ltA_iff] at hab
    simp only at *
    omega
  have := asc_len _ 0 36 hk (by
    intro v hv
    obtain ⟨x, hx, rfl⟩ := List.mem_map.1 hv
    obtain ⟨a1, a2, a3⟩ := x
    have r1 := arcB_get (hall _ ((fromL_sub p xs).subset hx))
    simp only
    omega)
  rw [List.length_map] at this
  omega
/-- An arc and its copy. -/
def splitOne (S p : Int) (f : Int) (x : Ar) : List Ar := (f, x.2.1, x.2.2) :: (if x.2.1 = p then [(f, S, x.2.2)] else [])
def newFrom (S p : Int) (bit : Nat → Bool) (at_ : Nat) (x : Ar) : Int := if x.1 = p then (if bit at_ then S else x.1) else x.1
def splitL (S p : Int) (bit : Nat → Bool) : Nat → List Ar → List Ar
  | _, [] => []
  | a, x :: r => splitOne S p (newFrom S p bit a x) x ++ splitL S p bit (if x.1 = p then a + 1 else a) r
theorem mem_splitL {S p : Int} {bit : Nat → Bool} : ∀ {xs : List Ar} {a : Nat} {y : Ar}, y ∈ splitL S p bit a xs → ∃ x ∈ xs, (y.1 = x.1 ∨ (y.1 = S ∧ x.1 = p)) ∧ (y.2.1 = x.2.1 ∨ (y.2.1 = S ∧ x.2.1 = p)) ∧ y.2.2 = x.2.2
  | [], _, _, h => by simp [splitL] at h
  | x :: r, a, y, h => by
    unfold splitL at h
    rcases List.mem_append.1 h with h | h
    · refine ⟨x, List.mem_cons_self .., ?_⟩
      unfold splitOne newFrom at h
      rcases List.mem_cons.1 h with rfl | h
      · refine ⟨?_, .inl rfl, rfl⟩
        show (if x.1 = p then (if bit a = true then S else x.1) else x.1) = x.1 ∨ ((if x.1 = p then (if bit a = true then S else x.1) else x.1) = S ∧ x.1 = p)
        by_cases e : x.1 = p
        · rw [if_pos e]
          by_cases e2 : bit a = true
          · rw [if_pos e2]; exact .inr ⟨rfl, e⟩
          · rw [if_neg e2]; exact .inl rfl
        · rw [if_neg e]; exact .inl rfl
      · by_cases e3 : x.2.1 = p
        · rw [if_pos e3] at h
          simp only [List.mem_singleton] at h
          subst h
          refine ⟨?_, .inr ⟨rfl, e3⟩, rfl⟩
          show (if x.1 = p then (if bit a = true then S else x.1) else x.1) = x.1 ∨ ((if x.1 = p then (if bit a = true then S else x.1) else x.1) = S ∧ x.1 = p)
          by_cases e : x.1 = p
          · rw [if_pos e]
            by_cases e2 : bit a = true
            · rw [if_pos e2]; exact .inr ⟨rfl, e⟩
            · rw [if_neg e2]; exact .inl rfl
          · rw [if_neg e]; exact .inl rfl
        · rw [if_neg e3] at h; simp at h
    · obtain ⟨z, hz, hr⟩ := mem_splitL h
      exact ⟨z, List.mem_cons_of_mem _ hz, hr⟩
theorem splitL_nodup {S p : Int} (hpS : p < S) {bit : Nat → Bool} : ∀ {xs : List Ar} {a : Nat}, xs.Pairwise (fun a b => ltA a b = true) → (∀ x ∈ xs, x.1 < S ∧ x.2.1 < S) → (splitL S p bit a xs).Nodup
  | [], _, _, _ => by simp [splitL]
  | x :: r, a, hp, hb => by
    rw [List.pairwise_cons] at hp
    have ih := splitL_nodup hpS (bit := bit) (a := if x.1 = p then a + 1 else a) hp.2 (fun y hy => hb y (List.mem_cons_of_mem _ hy))
    have hx := hb x (List.mem_cons_self ..)
    unfold splitL
    rw [List.nodup_append]
    refine ⟨?_, ih, ?_⟩
    · unfold splitOne
      by_cases e : x.2.1 = p
      · rw [if_pos e]
        simp only [List.nodup_cons, List.mem_singleton, List.not_mem_nil, not_false_eq_true, List.nodup_nil, and_true]
        intro h
        injection h with _ h
        injection h with h _
        omega
      · rw [if_neg e]; simp
    · intro y hy z hz e
      subst e
      have hy2 : y ∈ splitL S p bit a [x] := by simpa [splitL] using hy
      obtain ⟨x1, hx1, f1, f2, f3⟩ := mem_splitL hy2
      obtain ⟨x2, hx2, g1, g2, g3⟩ := mem_splitL hz
      simp only [List.mem_singleton] at hx1
      subst hx1
      have hl := hp.1 x2 hx2
      have hb2 := hb x2 (List.mem_cons_of_mem _ hx2)
      rw [ltA_iff] at hl
      omega
end Go.Proofs.Ytobmljclokmbcaa
