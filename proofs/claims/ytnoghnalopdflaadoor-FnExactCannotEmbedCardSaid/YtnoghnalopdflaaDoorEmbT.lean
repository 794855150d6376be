/- Why one matrix cannot be put into another one, as a text. -/
import Derived.Test.YtnoghnalopdflaaDoorThA
import Derived.Test.YtnoghnalopdflaaDoorOrbT
import Derived.Test.YtnoghnalopdflaaDoorTxtT
namespace Go.Proofs.YtnoghnalopdflaaDoor
open Go.RowKit
set_option linter.all false
theorem bis_range {f : Int → Bool} : ∀ {n : Nat} {lo hi : Int}, lo < hi → lo ≤ bis f n lo hi ∧ bis f n lo hi < hi
  | 0, lo, hi, h => ⟨Int.le_refl _, h⟩
  | n + 1, lo, hi, h => by
    unfold bis
    split
    · split
      · have := bis_range (f := f) (n := n) (lo := lo) (hi := (lo + hi) / 2) (by omega)
        omega
      · have := bis_range (f := f) (n := n) (lo := (lo + hi) / 2) (hi := hi) (by omega)
        omega
    · exact ⟨Int.le_refl _, h⟩
theorem floor_range {m : List (List Int)} (h : isSmallM m = true) : 0 ≤ floorG m 100 ∧ floorG m 100 ≤ 3600 := by
  unfold floorG
  rw [h, inR_mk (x := (100 : Int)) (lo := 1) (hi := 100) ⟨by omega, by omega⟩]
  have := bis_range (f := fun q => belowM m q 100) (n := 4000) (lo := 0) (hi := 36 * 100 + 1) (by omega)
  simp only [Bool.and_self, if_true]
  omega
def txtGrowth : ByteArray := ⟨#[103, 114, 111, 119, 116, 104]⟩
def txtOrbits : ByteArray := ⟨#[111, 114, 98, 105, 116, 115, 32]⟩
def txtDash : ByteArray := ⟨#[45]⟩
def cannotT (a b : List (List Int)) (n : Int) : ByteArray :=
  if isSmallM a = false then ⟨#[]⟩ else if isSmallM b = false then ⟨#[]⟩ else if (orbV a n).length = 0 then ⟨#[]⟩ else if (orbV b n).length = 0 then ⟨#[]⟩
  else if belowM b (floorG a 100) 100 = true then txtGrowth else if 0 ≤ fgI 0 (orbV a n) (orbV b n) then txtOrbits ++ decB ((fgI 0 (orbV a n) (orbV b n)).toNat + 1) else txtDash
theorem fgI_range : ∀ (xs ys : List Int) (k : Nat), fgI k xs ys = -1 ∨ ((k : Int) ≤ fgI k xs ys ∧ fgI k xs ys < k + xs.length)
  | [], ys, k => by left; cases ys <;> rfl
  | x :: xs, [], k => .inl rfl
  | x :: xs, y :: ys, k => by
    unfold fgI
    split
    · right; simp; omega
    · rcases fgI_range xs ys (k + 1) with h | h
      · exact .inl h
      · right; simp; omega
theorem orbV_pos {m : List (List Int)} {n : Int} (h : (orbV m n).length ≠ 0) : 1 ≤ n ∧ n ≤ 10 ∧ (orbV m n).length = n.toNat := by
  have h1 := orbV_len m n
  have h2 : inR n 1 10 = true := by
    cases hi : inR n 1 10
    · exact absurd (by simp [orbV, hi]) h
    · rfl
  have h3 := inR_true h2
  refine ⟨h3.1, h3.2, ?_⟩
  rcases h1 with h1 | h1
  · rw [h1] at h; exact absurd rfl h
  · exact h1
end Go.Proofs.YtnoghnalopdflaaDoor
