/- When numbers and arcs are a labelled graph. -/
import Derived.Test.YtobmljclokmbcaaBlk
import Derived.Test.YtobmljclokmbcaaBase
import Derived.Test.YtobmljclokmbcaaThA
namespace Go.Proofs.Ytobmljclokmbcaa
open Go.RowKit
set_option linter.all false
def arcB (s l : Int) (x : Ar) : Bool := inR x.1 0 s && (inR x.2.1 0 s && inR x.2.2 0 l)
def ltA (x y : Ar) : Bool := if x.1 ≠ y.1 then decide (x.1 < y.1) else if x.2.2 ≠ y.2.2 then decide (x.2.2 < y.2.2) else decide (x.2.1 < y.2.1)
def behind (x : Ar) : Option Ar → Bool
  | none => true
  | some q => ltA q x
def okFrom (s l : Int) : Option Ar → List Ar → Bool
  | _, [] => true
  | p, x :: r => (arcB s l x && behind x p) && okFrom s l (some x) r
def isLab (L S : Int) (xs : List Ar) : Bool := inR L 1 3 && (inR S 1 12 && okFrom (S - 1) (L - 1) none xs)
def prevOf (xs : List Ar) (k : Nat) : Option Ar := if k = 0 then none else xs[k - 1]?
theorem prevOf_succ {xs : List Ar} {k : Nat} {x : Ar} (h : xs[k]? = some x) : prevOf xs (k + 1) = some x := by
  simp [prevOf, h]
theorem prevOf_pos {xs : List Ar} {k : Nat} (h : 0 < k) : prevOf xs k = xs[k - 1]? := by
  rw [prevOf, if_neg (by omega)]
theorem okFrom_step {s l : Int} {xs : List Ar} {k : Nat} {x : Ar} {b : Bool} (hx : xs[k]? = some x) (h : okFrom s l (prevOf xs k) (xs.drop k) = b) :
    (arcB s l x = false → b = false) ∧ (behind x (prevOf xs k) = false → b = false) ∧ (arcB s l x = true → behind x (prevOf xs k) = true → okFrom s l (prevOf xs (k + 1)) (xs.drop (k + 1)) = b) := by
  rw [drop_of_get hx] at h
  rw [prevOf_succ hx]
  generalize List.drop (k + 1) xs = r at *
  refine ⟨fun e => ?_, fun e => ?_, fun e1 e2 => ?_⟩
  · simpa [okFrom, e] using h.symm
  · simpa [okFrom, e] using h.symm
  · simpa [okFrom, e1, e2] using h
theorem okFrom_end {s l : Int} {xs : List Ar} {k : Nat} {b : Bool} (hk : xs.length ≤ k) (h : okFrom s l (prevOf xs k) (xs.drop k) = b) : b = true := by
  rw [drop_all xs k hk] at h
  exact h.symm
theorem isLab_eq {L S : Int} {xs : List Ar} : (okFrom (wrap64 (S - 1)) (wrap64 (L - 1)) none xs && (inR L 1 3 && inR S 1 12)) = isLab L S xs := by
  cases h1 : inR L 1 3
  · simp [isLab, h1]
  cases h2 : inR S 1 12
  · simp [isLab, h2]
  have a := inR_true h1
  have b := inR_true h2
  rw [wrap_id (by omega), wrap_id (by omega)]
  simp [isLab, h1, h2]
theorem arcB_1 {s l x y z : Int} (h : inR x 0 s = false) : arcB s l (x, y, z) = false := by simp [arcB, h]
theorem arcB_2 {s l x y z : Int} (h : inR y 0 s = false) : arcB s l (x, y, z) = false := by simp [arcB, h]
theorem arcB_3 {s l x y z : Int} (h : inR z 0 l = false) : arcB s l (x, y, z) = false := by simp [arcB, h]
theorem arcB_t {s l x y z : Int} (h1 : inR x 0 s = true) (h2 : inR y 0 s = true) (h3 : inR z 0 l = true) : arcB s l (x, y, z) = true := by simp [arcB, h1, h2, h3]
theorem arcB_get {s l x y z : Int} (h : arcB s l (x, y, z) = true) : (0 ≤ x ∧ x ≤ s) ∧ (0 ≤ y ∧ y ≤ s) ∧ (0 ≤ z ∧ z ≤ l) := by
  simp only [arcB, Bool.and_eq_true] at h
  exact ⟨inR_true h.1, inR_true h.2.1, inR_true h.2.2⟩
theorem okFrom_all {s l : Int} : ∀ {xs : List Ar} {p : Option Ar}, okFrom s l p xs = true → ∀ x ∈ xs, arcB s l x = true
  | [], _, _, _, h => by simp at h
  | y :: r, p, h, x, hx => by
    simp only [okFrom, Bool.and_eq_true] at h
    rcases List.mem_cons.1 hx with rfl | hx
    · exact h.1.1
    · exact okFrom_all h.2 x hx
theorem isLab_get {L S : Int} {xs : List Ar} (h : isLab L S xs = true) : (1 ≤ L ∧ L ≤ 3) ∧ (1 ≤ S ∧ S ≤ 12) ∧ okFrom (S - 1) (L - 1) none xs = true := by
  simp only [isLab, Bool.and_eq_true] at h
  exact ⟨inR_true h.1, inR_true h.2.1, h.2.2⟩
theorem ltA_1 {x y : Ar} (h : x.1 ≠ y.1) : ltA x y = decide (x.1 < y.1) := by rw [ltA, if_pos h]
theorem ltA_2 {x y : Ar} (h : x.1 = y.1) (h2 : x.2.2 ≠ y.2.2) : ltA x y = decide (x.2.2 < y.2.2) := by rw [ltA, if_neg (by simp [h]), if_pos h2]
theorem ltA_3 {x y : Ar} (h : x.1 = y.1) (h2 : x.2.2 = y.2.2) : ltA x y = decide (x.2.1 < y.2.1) := by rw [ltA, if_neg (by simp [h]), if_neg (by simp [h2])]
theorem wrapI (n : Int) : IntKind.i64.wrap n = wrap64 n := by rw [IntKind.wrap_i64]; unfold wrap64; rfl
theorem behind_0 (xs : List Ar) (x : Ar) : behind x (prevOf xs 0) = true := rfl
theorem behind_S {xs : List Ar} {j : Nat} {q x : Ar} (h : xs[j]? = some q) : behind x (prevOf xs (j + 1)) = ltA q x := by rw [prevOf_succ h]; rfl
end Go.Proofs.Ytobmljclokmbcaa
