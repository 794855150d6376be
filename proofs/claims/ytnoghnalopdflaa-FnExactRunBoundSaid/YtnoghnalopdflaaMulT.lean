/- The product of two tables, as both programs reckon it. -/
import Derived.Test.YtnoghnalopdflaaBase
namespace Go.Proofs.Ytnoghnalopdflaa
open Go.RowKit
set_option linter.all false
def col (b : List (List Int)) (j : Nat) : List Int := b.map (fun r => r.getD j 0)
def ent (b : List (List Int)) (r : List Int) (j : Nat) : Int := wdot 0 r (col b j)
def mulRow (b : List (List Int)) (c : Nat) (r : List Int) : List Int := (List.range c).map (ent b r)
def mulT (a b : List (List Int)) (c : Nat) : List (List Int) := a.map (mulRow b c)
/-- After k products. -/
def wd (b : List (List Int)) (r : List Int) (k j : Nat) : Int := wdot 0 (r.take k) ((col b j).take k)
def wline (b : List (List Int)) (r : List Int) (c k : Nat) : List Int := (List.range c).map (wd b r k)

theorem wdot_append : ∀ (l m : List Int) (a x y : Int), l.length = m.length → wdot a (l ++ [x]) (m ++ [y]) = wrap64 (wdot a l m + wrap64 (x * y))
  | [], [], _, _, _, _ => rfl
  | p :: l, q :: m, a, x, y, h => wdot_append l m _ x y (by simpa using h)
theorem wd_zero (b : List (List Int)) (r : List Int) (j : Nat) : wd b r 0 j = 0 := rfl
theorem col_get {b : List (List Int)} {k j : Nat} {rb : List Int} {y : Int} (hb : b[k]? = some rb) (hy : rb[j]? = some y) : (col b j)[k]? = some y := by
  simp [col, hb, List.getD, hy]
theorem wd_succ {b : List (List Int)} {r rb : List Int} {k j : Nat} {x y : Int} (hx : r[k]? = some x) (hb : b[k]? = some rb) (hy : rb[j]? = some y) :
    wd b r (k + 1) j = wrap64 (wd b r k j + wrap64 (x * y)) := by
  have h1 := (List.getElem?_eq_some_iff.1 hx).1
  have h2 := (List.getElem?_eq_some_iff.1 hb).1
  unfold wd
  rw [← push_take hx, ← push_take (col_get hb hy)]
  exact wdot_append _ _ _ _ _ (by simp [col]; omega)
theorem wd_end {b : List (List Int)} {r : List Int} {k j : Nat} (h1 : r.length ≤ k) (h2 : b.length ≤ k) : wd b r k j = ent b r j := by
  unfold wd ent
  rw [List.take_of_length_le h1, List.take_of_length_le (by simpa [col] using h2)]
theorem wline_zero (b : List (List Int)) (r : List Int) (c : Nat) : wline b r c 0 = List.replicate c 0 := by
  apply List.ext_getElem?
  intro i
  by_cases h : i < c
  · simp [wline, wd_zero, h]
  · simp [wline, h]
theorem wline_len (b : List (List Int)) (r : List Int) (c k : Nat) : (wline b r c k).length = c := by simp [wline]
theorem wline_get {b : List (List Int)} {r : List Int} {c k j : Nat} (h : j < c) : (wline b r c k)[j]? = some (wd b r k j) := by simp [wline, h]
theorem wline_end {b : List (List Int)} {r : List Int} {c k : Nat} (h1 : r.length ≤ k) (h2 : b.length ≤ k) : wline b r c k = mulRow b c r := by
  unfold wline mulRow
  apply List.map_congr_left
  intro j _
  exact wd_end h1 h2
theorem mulRow_len (b : List (List Int)) (c : Nat) (r : List Int) : (mulRow b c r).length = c := by simp [mulRow]
theorem mulRow_get {b : List (List Int)} {c j : Nat} {r : List Int} (h : j < c) : (mulRow b c r)[j]? = some (ent b r j) := by simp [mulRow, h]
theorem mulT_len (a b : List (List Int)) (c : Nat) : (mulT a b c).length = a.length := by simp [mulT]
theorem mulT_get {a b : List (List Int)} {c k : Nat} {r : List Int} (h : a[k]? = some r) : (mulT a b c)[k]? = some (mulRow b c r) := by simp [mulT, h]
/-- All rows have n numbers. -/
def RowsLen (xss : List (List Int)) (n : Nat) : Prop := ∀ (k : Nat) (r : List Int), xss[k]? = some r → r.length = n
theorem isMat_rowsLen {xss : List (List Int)} {n : Nat} (h : isMat xss = true) (hn : xss.length = n) : RowsLen xss n := fun _ _ hk => by rw [← hn]; exact (isMat_row h hk).1
theorem mulT_rowsLen (a b : List (List Int)) (c : Nat) : RowsLen (mulT a b c) c := by
  intro k r hk
  simp only [mulT, List.getElem?_map, Option.map_eq_some_iff] at hk
  obtain ⟨q, _, rfl⟩ := hk
  exact mulRow_len b c q
end Go.Proofs.Ytnoghnalopdflaa
