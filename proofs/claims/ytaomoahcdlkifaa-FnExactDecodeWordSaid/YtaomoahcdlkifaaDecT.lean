/- Bits that are decoded. -/
import Derived.Test.YtaomoahcdlkifaaEncT
namespace Go.Proofs.Ytaomoahcdlkifaa
open Go.RowKit
set_option linter.all false
def decF (xs : List Ar) (s : ByteArray) : Nat → Nat → Int → Option (List Int)
  | _, 0, _ => some []
  | i, k + 1, p => if (armA xs p 0).2.2 + 97 = (bl s i : Int) then (decF xs s (i + 1) k (armA xs p 0).2.1).map (fun r => 0 :: r)
    else if (armA xs p 1).2.2 + 97 = (bl s i : Int) then (decF xs s (i + 1) k (armA xs p 1).2.1).map (fun r => 1 :: r) else none
def decOk (L S : Int) (xs : List Ar) (p : Int) (s : ByteArray) : Bool := isEnc L S xs && (inR p 0 (S - 1) && (decide (s.size ≤ 16) && (decF xs s 0 s.size p).isSome))
def decS (L S : Int) (xs : List Ar) (p : Int) (s : ByteArray) : ByteArray := if decOk L S xs p s then strOf ((decF xs s 0 s.size p).getD []) else ByteArray.empty
def Dr (xs : List Ar) (s : ByteArray) (i : Nat) (p : Int) (acc : List Int) (R : Option (List Int)) : Prop := (decF xs s i (s.size - i) p).map (fun r => acc ++ r) = R
theorem dec_start (xs : List Ar) (s : ByteArray) (p : Int) : Dr xs s 0 p [] (decF xs s 0 s.size p) := by
  unfold Dr
  simp
section
variable {xs : List Ar} {s : ByteArray} {i : Nat} {p x y z : Int} {acc : List Int} {R : Option (List Int)}
theorem dec_0 (hi : i < s.size) (ha : armA xs p 0 = (x, y, z)) (hz : z + 97 = (bl s i : Int)) (h : Dr xs s i p acc R) : Dr xs s (i + 1) y (acc ++ [0]) R := by
  unfold Dr at *
  rw [show s.size - i = (s.size - (i + 1)) + 1 by omega] at h
  simp only [decF, ha, hz, if_true] at h
  rw [Option.map_map] at h
  rw [← h]
  congr 1
  funext r
  simp
theorem dec_1 (hi : i < s.size) {x0 y0 z0 : Int} (h0 : armA xs p 0 = (x0, y0, z0)) (hz0 : ¬ z0 + 97 = (bl s i : Int)) (ha : armA xs p 1 = (x, y, z)) (hz : z + 97 = (bl s i : Int)) (h : Dr xs s i p acc R) : Dr xs s (i + 1) y (acc ++ [1]) R := by
  unfold Dr at *
  rw [show s.size - i = (s.size - (i + 1)) + 1 by omega] at h
  simp only [decF, h0, if_neg hz0, ha, hz, if_true] at h
  rw [Option.map_map] at h
  rw [← h]
  congr 1
  funext r
  simp
theorem dec_no (hi : i < s.size) {x0 y0 z0 : Int} (h0 : armA xs p 0 = (x0, y0, z0)) (hz0 : ¬ z0 + 97 = (bl s i : Int)) (ha : armA xs p 1 = (x, y, z)) (hz : ¬ z + 97 = (bl s i : Int)) (h : Dr xs s i p acc R) : R = none := by
  unfold Dr at *
  rw [show s.size - i = (s.size - (i + 1)) + 1 by omega] at h
  simp only [decF, h0, if_neg hz0, ha, if_neg hz] at h
  exact h.symm
theorem dec_end (hi : s.size ≤ i) (h : Dr xs s i p acc R) : R = some acc := by
  unfold Dr at *
  rw [show s.size - i = 0 by omega] at h
  simpa [decF] using h.symm
end
/-- The first two arcs from a state of a resolving graph differ by their letters. -/
theorem two_differ {s l p : Int} {a b : Ar} : ∀ {xs : List Ar} {q q' : Option Ar}, okFrom s l q xs = true → resF q' xs = true → (fromL p xs)[0]? = some a → (fromL p xs)[1]? = some b → a.2.2 ≠ b.2.2
  | [], _, _, _, _, h, _ => by simp [fromL] at h
  | x :: r, q, q', ho, hr, h0, h1 => by
    simp only [okFrom, Bool.and_eq_true] at ho
    simp only [resF, Bool.and_eq_true] at hr
    by_cases hx : x.1 = p
    · rw [fromL, if_pos hx] at h0 h1
      simp at h0 h1
      subst h0
      match r, ho.2, hr.2, h1 with
      | [], _, _, h1 => simp [fromL] at h1
      | z :: r, ho2, hr2, h1 =>
        simp only [okFrom, Bool.and_eq_true] at ho2
        simp only [resF, Bool.and_eq_true] at hr2
        have hlt := ho2.1.2
        simp only [behind] at hlt
        have hle : x.1 ≤ z.1 := by
          simp only [ltA] at hlt
          split at hlt
          · have := of_decide_eq_true hlt; omega
          · rename_i h; simp at h; omega
        by_cases hz : z.1 = p
        · rw [fromL, if_pos hz] at h1
          simp at h1
          subst h1
          have hd := hr2.1
          simp only [differ] at hd
          intro e
          rw [e, hx, hz] at hd
          simp at hd
        · exact absurd h1 (by rw [later (p := p) ho2.2 (by omega) (by rw [hx] at hle; omega)] ; simp)
    · rw [fromL, if_neg hx] at h0 h1
      exact two_differ ho.2 hr.2 h0 h1
where
  later {s l p : Int} {z : Ar} : ∀ {r : List Ar}, okFrom s l (some z) r = true → z.1 ≠ p → p < z.1 → (fromL p (z :: r)) = []
  | [], _, h1, _ => by simp [fromL, h1]
  | y :: r, ho, h1, h2 => by
    simp only [okFrom, Bool.and_eq_true] at ho
    have hlt := ho.1.2
    simp only [behind] at hlt
    have hle : z.1 ≤ y.1 := by
      simp only [ltA] at hlt
      split at hlt
      · have := of_decide_eq_true hlt; omega
      · rename_i h; simp at h; omega
    have := later (p := p) ho.2 (by omega) (by omega)
    rw [fromL, if_neg h1]
    exact this
/-- What is decoded is a word. -/
theorem dec_word {L : Int} {m : Nat} {xs : List Ar} {s : ByteArray} (hA : ∀ (p : Nat) (c : Nat), p < m → c < 2 → 0 ≤ (armA xs p c).2.2 ∧ (armA xs p c).2.2 ≤ L - 1 ∧ 0 ≤ (armA xs p c).2.1 ∧ (armA xs p c).2.1 < m) :
    ∀ (k i p : Nat), p < m → (decF xs s i k p).isSome = true → okW L s i k = true
  | 0, _, _, _, _ => rfl
  | k + 1, i, p, hp, h => by
    have h0 := hA p 0 hp (by omega)
    have h1 := hA p 1 hp (by omega)
    rw [decF] at h
    split at h
    · rename_i e
      rw [Option.isSome_map] at h
      have hq : (armA xs p 0).2.1 = (((armA xs p 0).2.1.toNat : Nat) : Int) := by omega
      rw [hq] at h
      have := dec_word hA k (i + 1) _ (by omega) h
      simp only [okW, this, Bool.and_true, Bool.and_eq_true, decide_eq_true_eq]
      omega
    · split at h
      · rename_i e
        rw [Option.isSome_map] at h
        have hq : (armA xs p 1).2.1 = (((armA xs p 1).2.1.toNat : Nat) : Int) := by omega
        rw [hq] at h
        have := dec_word hA k (i + 1) _ (by omega) h
        simp only [okW, this, Bool.and_true, Bool.and_eq_true, decide_eq_true_eq]
        omega
      · simp at h
theorem dec_none : (if (none : Option (List Int)).isSome = true then strOf ((none : Option (List Int)).getD []) else ByteArray.empty) = ByteArray.empty := rfl
def resS (R : Option (List Int)) : ByteArray := match R with
  | some l => strOf l
  | none => ByteArray.empty
theorem ab0 : (⟨#[97, 98]⟩ : ByteArray).extract 0 1 = ⟨#[97]⟩ := by decide
theorem ab1 : (⟨#[97, 98]⟩ : ByteArray).extract 1 2 = ⟨#[98]⟩ := by decide
theorem strOf_ab0 (acc : List Int) : strOf acc ++ (⟨#[97, 98]⟩ : ByteArray).extract 0 1 = strOf (acc ++ [0]) := by rw [ab0, app_one]; simp [strOf]
theorem strOf_ab1 (acc : List Int) : strOf acc ++ (⟨#[97, 98]⟩ : ByteArray).extract 1 2 = strOf (acc ++ [1]) := by rw [ab1, app_one]; simp [strOf]
end Go.Proofs.Ytaomoahcdlkifaa
