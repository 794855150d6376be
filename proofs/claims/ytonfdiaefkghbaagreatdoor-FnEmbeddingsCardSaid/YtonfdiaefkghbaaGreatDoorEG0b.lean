/- Parts of the proof of a law, joined: ThA Cursor Draw1 TxtT Draw2 WordT SSplB SFormat SRead1 RowAt SIsMatrix SParse SL4Zero. -/
import Derived.Test.YtonfdiaefkghbaaGreatDoorProg
import Derived.Laws.Bits128
import Derived.Lib.ItoaLen
import Derived.Laws.BytesString
import Derived.Laws.Cells
import Derived.Lib.AppendStr
import Derived.Lib.Join
import Derived.Test.YtonfdiaefkghbaaGreatDoorEG0a
namespace Go.Proofs.YtonfdiaefkghbaaGreatDoor
open Go.RowKit
set_option linter.all false
def le9 (r : List Int) : Bool := r.all (fun x => !decide (9 < x))
def le9T (xss : List (List Int)) : Bool := xss.all le9
def isSmallM (xss : List (List Int)) : Bool := isMat xss && (!decide (4 < xss.length) && le9T xss)
theorem le9_step {r : List Int} {k : Nat} {x : Int} {b : Bool} (hk : r[k]? = some x) (h : le9 (r.drop k) = b) : (9 < x → b = false) ∧ (¬ 9 < x → le9 (r.drop (k + 1)) = b) := by
  rw [drop_of_get hk] at h
  generalize List.drop (k + 1) r = q at *
  constructor
  · intro e; simpa [le9, e] using h.symm
  · intro e
    have e' : decide (9 < x) = false := by simpa using e
    simpa [le9, e'] using h
theorem le9T_step {xss : List (List Int)} {k : Nat} {r : List Int} {b : Bool} (hk : xss[k]? = some r) (h : le9T (xss.drop k) = b) : (le9 r = false → b = false) ∧ (le9 r = true → le9T (xss.drop (k + 1)) = b) := by
  rw [drop_of_get hk] at h
  generalize List.drop (k + 1) xss = q at *
  constructor
  · intro e; simpa [le9T, e] using h.symm
  · intro e; simpa [le9T, e] using h
theorem isSmallM_mat {xss : List (List Int)} (h : isSmallM xss = true) : isMat xss = true ∧ xss.length ≤ 4 ∧ 1 ≤ xss.length := by
  simp only [isSmallM, Bool.and_eq_true] at h
  have h1 : ¬ 4 < xss.length := by simpa using h.2.1
  exact ⟨h.1, by omega, (isMat_len h.1).1⟩
theorem isSmallM_get {xss : List (List Int)} (h : isSmallM xss = true) {k j : Nat} {r : List Int} {x : Int} (hk : xss[k]? = some r) (hj : r[j]? = some x) : 0 ≤ x ∧ x ≤ 9 := by
  have h0 := isSmallM_mat h
  have h1 := allIn_get (isMat_row h0.1 hk).2 hj
  simp only [isSmallM, Bool.and_eq_true, le9T, List.all_eq_true, le9] at h
  have h2 := h.2.2 r (List.mem_of_getElem? hk) x (List.mem_of_getElem? hj)
  have h3 : ¬ 9 < x := by simpa using h2
  omega
end Go.Proofs.YtonfdiaefkghbaaGreatDoor

namespace Go.Proofs.YtonfdiaefkghbaaGreatDoor
open Go.RowKit
set_option linter.all false
def col (b : List (List Int)) (j : Nat) : List Int := b.map (fun r => r.getD j 0)
def ent (b : List (List Int)) (r : List Int) (j : Nat) : Int := wdot 0 r (col b j)
def mulRow (b : List (List Int)) (c : Nat) (r : List Int) : List Int := (List.range c).map (ent b r)
def mulT (a b : List (List Int)) (c : Nat) : List (List Int) := a.map (mulRow b c)
/-- After k products. -/
def wd (b : List (List Int)) (r : List Int) (k j : Nat) : Int := wdot 0 (r.take k) ((col b j).take k)
def wline (b : List (List Int)) (r : List Int) (c k : Nat) : List Int := (List.range c).map (wd b r k)

theorem wdot_append : ∀ (l m : List Int) (a x y : Int), l.length = m.length → wdot a (l ++ [x]) (m ++ [y]) = wrap64 (wdot a l m + wrap64 (x * y))
  | [], [], _, _, _, _ => rfl
  | p :: l, q :: m, a, x, y, h => wdot_append l m _ x y (by simpa using h)
theorem wd_zero (b : List (List Int)) (r : List Int) (j : Nat) : wd b r 0 j = 0 := rfl
theorem col_get {b : List (List Int)} {k j : Nat} {rb : List Int} {y : Int} (hb : b[k]? = some rb) (hy : rb[j]? = some y) : (col b j)[k]? = some y := by
  simp [col, hb, List.getD, hy]
theorem wd_succ {b : List (List Int)} {r rb : List Int} {k j : Nat} {x y : Int} (hx : r[k]? = some x) (hb : b[k]? = some rb) (hy : rb[j]? = some y) :
    wd b r (k + 1) j = wrap64 (wd b r k j + wrap64 (x * y)) := by
  have h1 := (List.getElem?_eq_some_iff.1 hx).1
  have h2 := (List.getElem?_eq_some_iff.1 hb).1
  unfold wd
  rw [← push_take hx, ← push_take (col_get hb hy)]
  exact wdot_append _ _ _ _ _ (by simp [col]; omega)
theorem wd_end {b : List (List Int)} {r : List Int} {k j : Nat} (h1 : r.length ≤ k) (h2 : b.length ≤ k) : wd b r k j = ent b r j := by
  unfold wd ent
  rw [List.take_of_length_le h1, List.take_of_length_le (by simpa [col] using h2)]
theorem wline_zero (b : List (List Int)) (r : List Int) (c : Nat) : wline b r c 0 = List.replicate c 0 := by
  apply List.ext_getElem?
  intro i
  by_cases h : i < c
  · simp [wline, wd_zero, h]
  · simp [wline, h]
theorem wline_len (b : List (List Int)) (r : List Int) (c k : Nat) : (wline b r c k).length = c := by simp [wline]
theorem wline_get {b : List (List Int)} {r : List Int} {c k j : Nat} (h : j < c) : (wline b r c k)[j]? = some (wd b r k j) := by simp [wline, h]
theorem wline_end {b : List (List Int)} {r : List Int} {c k : Nat} (h1 : r.length ≤ k) (h2 : b.length ≤ k) : wline b r c k = mulRow b c r := by
  unfold wline mulRow
  apply List.map_congr_left
  intro j _
  exact wd_end h1 h2
theorem mulRow_len (b : List (List Int)) (c : Nat) (r : List Int) : (mulRow b c r).length = c := by simp [mulRow]
theorem mulRow_get {b : List (List Int)} {c j : Nat} {r : List Int} (h : j < c) : (mulRow b c r)[j]? = some (ent b r j) := by simp [mulRow, h]
theorem mulT_len (a b : List (List Int)) (c : Nat) : (mulT a b c).length = a.length := by simp [mulT]
theorem mulT_get {a b : List (List Int)} {c k : Nat} {r : List Int} (h : a[k]? = some r) : (mulT a b c)[k]? = some (mulRow b c r) := by simp [mulT, h]
/-- All rows have n numbers. -/
def RowsLen (xss : List (List Int)) (n : Nat) : Prop := ∀ (k : Nat) (r : List Int), xss[k]? = some r → r.length = n
theorem isMat_rowsLen {xss : List (List Int)} {n : Nat} (h : isMat xss = true) (hn : xss.length = n) : RowsLen xss n := fun _ _ hk => by rw [← hn]; exact (isMat_row h hk).1
theorem mulT_rowsLen (a b : List (List Int)) (c : Nat) : RowsLen (mulT a b c) c := by
  intro k r hk
  simp only [mulT, List.getElem?_map, Option.map_eq_some_iff] at hk
  obtain ⟨q, _, rfl⟩ := hk
  exact mulRow_len b c q
end Go.Proofs.YtonfdiaefkghbaaGreatDoor

namespace Go.Proofs.YtonfdiaefkghbaaGreatDoor
open Go.RowKit
set_option linter.all false
def smith (xss : List (List Int)) : Bool := tabIn xss.length (-100) 100 xss && inR xss.length 1 4
def square (L : Int) (xss : List (List Int)) : Bool := decide (xss.length ≤ 4) && tabIn xss.length (-L) L xss
theorem smith_len {xss : List (List Int)} (h : smith xss = true) : 1 ≤ xss.length ∧ xss.length ≤ 4 := by
  simp only [smith, Bool.and_eq_true] at h
  have := inR_true h.2
  omega
theorem smith_row {xss : List (List Int)} (h : smith xss = true) {k : Nat} {r : List Int} (hk : xss[k]? = some r) : r.length = xss.length ∧ allIn (-100) 100 r = true := by
  simp only [smith, Bool.and_eq_true] at h
  exact tabIn_get h.1 hk
theorem smith_square (xss : List (List Int)) : smith xss = (decide (0 < xss.length) && square 100 xss) := by
  unfold smith square
  by_cases h0 : 0 < xss.length
  · by_cases h4 : xss.length ≤ 4
    · rw [inR_mk ⟨by omega, by omega⟩]; simp [h0, h4]
    · rw [inR_no (.inr (by omega))]; simp [h4]
  · rw [inR_no (.inl (by omega))]; simp [h0]
end Go.Proofs.YtonfdiaefkghbaaGreatDoor

namespace Go.Proofs.YtonfdiaefkghbaaGreatDoor
open Go.RowKit
set_option linter.all false
def cut (j : Nat) (r : List Int) : List Int := r.take j ++ r.drop (j + 1)
def minorT (t : List (List Int)) (i j : Nat) : List (List Int) := (t.eraseIdx i).map (cut j)
def minorTo (t : List (List Int)) (i j k : Nat) : List (List Int) := ((t.take k).eraseIdx i).map (cut j)
theorem minorTo_zero (t : List (List Int)) (i j : Nat) : minorTo t i j 0 = [] := by simp [minorTo]
theorem minorTo_end {t : List (List Int)} {i j k : Nat} (h : t.length ≤ k) : minorTo t i j k = minorT t i j := by
  unfold minorTo minorT; rw [List.take_of_length_le h]
theorem minorTo_skip {t : List (List Int)} {j k : Nat} (h : k < t.length) : minorTo t k j (k + 1) = minorTo t k j k := by
  unfold minorTo
  have h1 : (t.take k).eraseIdx k = t.take k := List.eraseIdx_of_length_le (by simp; omega)
  have h2 : (t.take (k + 1)).eraseIdx k = t.take k := by
    rw [List.take_succ_eq_append_getElem h, List.eraseIdx_append_of_length_le (by simp; omega)]
    simp [show k - min k t.length = 0 from by omega]
  rw [h1, h2]
theorem minorTo_step {t : List (List Int)} {i j k : Nat} {r : List Int} (h : t[k]? = some r) (hne : k ≠ i) : minorTo t i j (k + 1) = minorTo t i j k ++ [cut j r] := by
  unfold minorTo
  rw [← push_take h]
  have hk := (List.getElem?_eq_some_iff.1 h).1
  have hl : (t.take k).length = k := take_len (by omega)
  by_cases hi : i < k
  · rw [List.eraseIdx_append_of_lt_length (by omega)]
    simp
  · rw [List.eraseIdx_of_length_le (by simp; omega), List.eraseIdx_of_length_le (by omega)]
    simp
theorem minorTo_len {t : List (List Int)} {i j k : Nat} : (minorTo t i j k).length ≤ k := by
  unfold minorTo
  have := List.length_eraseIdx_le (t.take k) i
  simp only [List.length_map, List.length_take] at *
  omega
theorem minorT_len {t : List (List Int)} {i j : Nat} (h : i < t.length) : (minorT t i j).length = t.length - 1 := by
  unfold minorT; rw [List.length_map, List.length_eraseIdx_of_lt h]
theorem cut_len {j : Nat} {r : List Int} (h : j < r.length) : (cut j r).length = r.length - 1 := by simp [cut]; omega
theorem minorT_rowsLen {t : List (List Int)} {i j m : Nat} (h : RowsLen t (m + 1)) (hj : j < m + 1) : RowsLen (minorT t i j) m := by
  intro k r hk
  simp only [minorT, List.getElem?_map, Option.map_eq_some_iff] at hk
  obtain ⟨q, hq, rfl⟩ := hk
  have hm := List.mem_of_mem_eraseIdx (List.mem_of_getElem? hq)
  obtain ⟨k', hk'⟩ := List.getElem?_of_mem hm
  have := h k' q hk'
  rw [cut_len (by omega)]
  omega
end Go.Proofs.YtonfdiaefkghbaaGreatDoor

namespace Go.Proofs.YtonfdiaefkghbaaGreatDoor
open Go.RowKit
set_option linter.all false
def dloop (D : List (List Int) → Int) (t : List (List Int)) : List Int → Nat → Int → Int → Int
  | [], _, s, _ => s
  | x :: xs, j, s, g => dloop D t xs (j + 1) (if x = 0 then s else wrap64 (s + wrap64 (wrap64 (g * x) * D (minorT t 0 j)))) (-g)
def det : Nat → List (List Int) → Int
  | 0, _ => 1
  | m + 1, t => dloop (det m) t (t.getD 0 []) 0 0 1
theorem dloop_zero {D : List (List Int) → Int} {t : List (List Int)} {r : List Int} {j : Nat} {s g b : Int} (hx : r[j]? = some 0) (h : dloop D t (r.drop j) j s g = b) : dloop D t (r.drop (j + 1)) (j + 1) s (-g) = b := by
  rw [drop_of_get hx] at h
  simpa only [dloop, if_true] using h
theorem dloop_step {D : List (List Int) → Int} {t : List (List Int)} {r : List Int} {j : Nat} {s g x b : Int} (hx : r[j]? = some x) (h0 : x ≠ 0) (h : dloop D t (r.drop j) j s g = b) :
    dloop D t (r.drop (j + 1)) (j + 1) (wrap64 (s + wrap64 (wrap64 (g * x) * D (minorT t 0 j)))) (-g) = b := by
  rw [drop_of_get hx] at h
  simpa only [dloop, if_neg h0] using h
theorem dloop_end {D : List (List Int) → Int} {t : List (List Int)} {r : List Int} {j : Nat} {s g b : Int} (hx : r.length ≤ j) (h : dloop D t (r.drop j) j s g = b) : s = b := by
  rw [drop_all r j hx] at h
  exact h
theorem wrap_i64_eq (n : Int) : IntKind.i64.wrap n = wrap64 n := by
  rw [IntKind.wrap_i64]; unfold wrap64; omega
end Go.Proofs.YtonfdiaefkghbaaGreatDoor

namespace Go.Proofs.YtonfdiaefkghbaaGreatDoor
open Go.RowKit
set_option linter.all false
def Bnd (B : Int) (t : List (List Int)) : Prop := ∀ r ∈ t, ∀ x ∈ r, -B ≤ x ∧ x ≤ B
def dmax (B : Int) : Nat → Int
  | 0 => 1
  | m + 1 => ((m : Int) + 1) * (B * dmax B m)
theorem Bnd.minor {B : Int} {t : List (List Int)} (h : Bnd B t) (i j : Nat) : Bnd B (minorT t i j) := by
  intro r hr x hx
  unfold minorT at hr
  obtain ⟨q, hq, rfl⟩ := List.mem_map.1 hr
  have hm := List.mem_of_mem_eraseIdx hq
  unfold cut at hx
  rcases List.mem_append.1 hx with h1 | h1
  · exact h q hm x (List.mem_of_mem_take h1)
  · exact h q hm x (List.mem_of_mem_drop h1)
theorem mul_abs {x d B M : Int} (hB : 0 ≤ B) (hM : 0 ≤ M) (hx : -B ≤ x ∧ x ≤ B) (hd : -M ≤ d ∧ d ≤ M) : -(B * M) ≤ x * d ∧ x * d ≤ B * M := by
  have h1 : (x * d).natAbs ≤ (B * M).natAbs := by
    rw [Int.natAbs_mul, Int.natAbs_mul]
    exact Nat.mul_le_mul (by omega) (by omega)
  have h2 : 0 ≤ B * M := Int.mul_nonneg hB hM
  generalize x * d = a at *
  generalize B * M = b at *
  omega
theorem dloop_bound {D : List (List Int) → Int} {t : List (List Int)} {B M c : Int} (hB : 0 ≤ B) (hB2 : B ≤ 4611686018427387904) (hM : 0 ≤ M) (hc : B * M = c) :
    ∀ (xs : List Int) (j : Nat) (s g S : Int), (∀ x ∈ xs, -B ≤ x ∧ x ≤ B) → (∀ k, j ≤ k → k < j + xs.length → -M ≤ D (minorT t 0 k) ∧ D (minorT t 0 k) ≤ M) →
      -1 ≤ g → g ≤ 1 → -S ≤ s → s ≤ S → S + (xs.length : Int) * c ≤ 4611686018427387904 → -(S + (xs.length : Int) * c) ≤ dloop D t xs j s g ∧ dloop D t xs j s g ≤ S + (xs.length : Int) * c
  | [], j, s, g, S, _, _, _, _, h1, h2, _ => by simp [dloop]; omega
  | x :: xs, j, s, g, S, hx, hD, hg1, hg2, h1, h2, hS => by
    have hc0 : 0 ≤ c := by rw [← hc]; exact Int.mul_nonneg hB hM
    have hlen : (((x :: xs).length : Nat) : Int) * c = (xs.length : Int) * c + c := by simp [Int.add_mul]
    rw [hlen] at hS ⊢
    have hl0 : 0 ≤ (xs.length : Int) * c := Int.mul_nonneg (by omega) hc0
    have hgx : -B ≤ g * x ∧ g * x ≤ B := by
      have := mul_abs (x := g) (d := x) (B := 1) (M := B) (by omega) hB ⟨hg1, hg2⟩ (hx x (by simp))
      rw [Int.one_mul] at this
      exact this
    have hd := hD j (Nat.le_refl _) (by simp)
    have hw : wrap64 (g * x) = g * x := by generalize g * x = a at *; unfold wrap64; omega
    have hp := mul_abs hB hM hgx hd
    rw [hc] at hp
    have hw2 : wrap64 (g * x * D (minorT t 0 j)) = g * x * D (minorT t 0 j) := by generalize g * x * D (minorT t 0 j) = a at *; unfold wrap64; omega
    have hw3 : wrap64 (s + g * x * D (minorT t 0 j)) = s + g * x * D (minorT t 0 j) := by generalize g * x * D (minorT t 0 j) = a at *; unfold wrap64; omega
    unfold dloop
    rw [hw, hw2, hw3]
    have hs : -(S + c) ≤ (if x = 0 then s else s + g * x * D (minorT t 0 j)) ∧ (if x = 0 then s else s + g * x * D (minorT t 0 j)) ≤ S + c := by
      generalize g * x * D (minorT t 0 j) = a at *
      split <;> omega
    have := dloop_bound hB hB2 hM hc xs (j + 1) _ (-g) (S + c) (fun y hy => hx y (by simp [hy])) (fun k h3 h4 => hD k (by omega) (by simp; omega)) (by omega) (by omega) hs.1 hs.2 (by omega)
    omega
theorem dmax_nonneg {B : Int} (hB : 0 ≤ B) (m : Nat) : 0 ≤ dmax B m := by
  induction m with
  | zero => exact Int.le_of_lt (by unfold dmax; omega)
  | succ m ih => exact Int.mul_nonneg (by omega) (Int.mul_nonneg hB ih)
theorem det_bound {B : Int} (hB : 0 ≤ B) (hB2 : B ≤ 4611686018427387904) (m : Nat) : ∀ t : List (List Int), t.length = m → RowsLen t m → Bnd B t → (∀ k, k ≤ m → dmax B k ≤ 4611686018427387904) → -(dmax B m) ≤ det m t ∧ det m t ≤ dmax B m := by
  induction m with
  | zero => intro t _ _ _ _; exact ⟨by unfold dmax det; omega, by unfold dmax det; omega⟩
  | succ m ih =>
    intro t hl hr hb hd
    have h0 : t[0]? = some t[0] := List.getElem?_eq_getElem (by omega)
    have hr0 : t[0].length = m + 1 := hr 0 _ h0
    have e : t.getD 0 [] = t[0] := by simp [List.getD, h0]
    have hM : ∀ k, 0 ≤ k → k < 0 + t[0].length → -(dmax B m) ≤ det m (minorT t 0 k) ∧ det m (minorT t 0 k) ≤ dmax B m := by
      intro k _ hk
      exact ih _ (by rw [minorT_len (by omega)]; omega) (minorT_rowsLen hr (by omega)) (hb.minor 0 k) (fun k hk => hd k (by omega))
    have hlast := hd (m + 1) (Nat.le_refl _)
    have := dloop_bound (D := det m) (t := t) hB hB2 (dmax_nonneg hB m) rfl t[0] 0 0 1 0 (fun x hx => hb _ (List.getElem_mem _) x hx) hM (by omega) (by omega) (by omega) (by omega) (by rw [hr0]; simpa [dmax] using hlast)
    unfold det
    rw [e]
    rw [hr0] at this
    simpa [dmax] using this
/-- If all minors by the first row are 0, the determinant is. -/
theorem dloop_null {D : List (List Int) → Int} {t : List (List Int)} : ∀ (xs : List Int) (j : Nat) (g : Int), (∀ k, j ≤ k → k < j + xs.length → D (minorT t 0 k) = 0) → dloop D t xs j 0 g = 0
  | [], _, _, _ => rfl
  | x :: xs, j, g, h => by
    unfold dloop
    rw [h j (Nat.le_refl _) (by simp), Int.mul_zero]
    have e : (if x = 0 then (0 : Int) else wrap64 (0 + wrap64 0)) = 0 := by split <;> simp [wrap64]
    rw [e]
    exact dloop_null xs (j + 1) (-g) (fun k h1 h2 => h k (by omega) (by simp; omega))
end Go.Proofs.YtonfdiaefkghbaaGreatDoor

namespace Go.Proofs.YtonfdiaefkghbaaGreatDoor
open Go.RowKit
set_option linter.all false
def bitOf (m i : Nat) : Bool := m / 2 ^ i % 2 == 1
def setTo (m : Nat) : Nat → List Int
  | 0 => []
  | i + 1 => setTo m i ++ (if bitOf m i then [(i : Int)] else [])
def setsTo (n k : Nat) : Nat → List (List Int)
  | 0 => []
  | m + 1 => setsTo n k m ++ (if (setTo m n).length = k then [setTo m n] else [])
def sets (n k : Nat) : List (List Int) := setsTo n k (2 ^ n)
theorem setTo_len (m i : Nat) : (setTo m i).length ≤ i := by
  induction i with
  | zero => exact Nat.le_refl _
  | succ i ih => unfold setTo; split <;> simp <;> omega
theorem setsTo_len (n k m : Nat) : (setsTo n k m).length ≤ m := by
  induction m with
  | zero => exact Nat.le_refl _
  | succ i ih => unfold setsTo; split <;> simp <;> omega
theorem setTo_yes {m i : Nat} (h : bitOf m i = true) : setTo m (i + 1) = setTo m i ++ [(i : Int)] := by simp [setTo, h]
theorem setTo_no {m i : Nat} (h : bitOf m i = false) : setTo m (i + 1) = setTo m i := by simp [setTo, h]
theorem setsTo_yes {n k m : Nat} (h : (setTo m n).length = k) : setsTo n k (m + 1) = setsTo n k m ++ [setTo m n] := by simp [setsTo, h]
theorem setsTo_no {n k m : Nat} (h : (setTo m n).length ≠ k) : setsTo n k (m + 1) = setsTo n k m := by simp [setsTo, h]
theorem setTo_mem {m i : Nat} {x : Int} (h : x ∈ setTo m i) : 0 ≤ x ∧ x < i := by
  induction i with
  | zero => simp [setTo] at h
  | succ i ih =>
    unfold setTo at h
    rw [List.mem_append] at h
    rcases h with h | h
    · have := ih h; omega
    · split at h
      · simp at h; omega
      · simp at h
theorem setsTo_mem {n k m : Nat} {s : List Int} (h : s ∈ setsTo n k m) : s.length = k ∧ ∀ x ∈ s, 0 ≤ x ∧ x < n := by
  induction m with
  | zero => simp [setsTo] at h
  | succ i ih =>
    unfold setsTo at h
    rw [List.mem_append] at h
    rcases h with h | h
    · exact ih h
    · split at h
      · rename_i e
        simp at h
        subst h
        exact ⟨e, fun x hx => setTo_mem hx⟩
      · simp at h
theorem bits_all : ∀ m : Fin 16, ∀ i : Fin 4, (bits BinOp.and IntKind.i64 ((m.val : Int) / 2 ^ i.val) 1 == 1) = bitOf m.val i.val := by decide
theorem bits_bit {m i : Nat} (hm : m < 16) (hi : i < 4) : (bits BinOp.and IntKind.i64 ((m : Int) / 2 ^ i) 1 == 1) = bitOf m i := bits_all ⟨m, hm⟩ ⟨i, hi⟩
end Go.Proofs.YtonfdiaefkghbaaGreatDoor

namespace Go.Proofs.YtonfdiaefkghbaaGreatDoor
open Go.RowKit
set_option linter.all false
def pickRow (r cs : List Int) : List Int := cs.map (fun c => r.getD c.toNat 0)
def someT (t : List (List Int)) (rs cs : List Int) : List (List Int) := rs.map (fun a => pickRow (t.getD a.toNat []) cs)
theorem pickRow_len (r cs : List Int) : (pickRow r cs).length = cs.length := by simp [pickRow]
theorem someT_len (t : List (List Int)) (rs cs : List Int) : (someT t rs cs).length = rs.length := by simp [someT]
theorem pickRow_get {r cs : List Int} {j c : Nat} {x : Int} (h : cs[j]? = some (c : Int)) (hx : r[c]? = some x) : (pickRow r cs)[j]? = some x := by
  simp [pickRow, h, List.getD, hx]
theorem someT_get {t : List (List Int)} {rs cs r : List Int} {i a : Nat} (h : rs[i]? = some (a : Int)) (hr : t[a]? = some r) : (someT t rs cs)[i]? = some (pickRow r cs) := by
  simp [someT, h, List.getD, hr]
theorem someT_rowsLen (t : List (List Int)) (rs cs : List Int) : RowsLen (someT t rs cs) cs.length := by
  intro k r hk
  simp only [someT, List.getElem?_map, Option.map_eq_some_iff] at hk
  obtain ⟨q, _, rfl⟩ := hk
  exact pickRow_len _ _
/-- All numbers of a list are indices below n. -/
def Idx (n : Nat) (xs : List Int) : Prop := ∀ x ∈ xs, 0 ≤ x ∧ x < n
theorem Idx.get {n k : Nat} {xs : List Int} {x : Int} (h : Idx n xs) (hk : xs[k]? = some x) : ∃ a : Nat, x = (a : Int) ∧ a < n := by
  have := h x (List.mem_of_getElem? hk)
  exact ⟨x.toNat, by omega, by omega⟩
end Go.Proofs.YtonfdiaefkghbaaGreatDoor

namespace Go.Proofs.YtonfdiaefkghbaaGreatDoor
open Go.RowKit
set_option linter.all false
def minTo (t : List (List Int)) (n k : Nat) : Nat → Int
  | 0 => 0
  | m + 1 => if (setTo m n).length = k then wrap64 (minTo t n k m + det k (someT t (setTo m n) (setTo m n))) else minTo t n k m
def sg (k : Nat) : Int := if k % 2 = 0 then 1 else -1
def pE (t : List (List Int)) (n k : Nat) : Int := wrap64 (sg k * minTo t n k (2 ^ n))
def polyL (t : List (List Int)) : List Int := (List.range (t.length + 1)).map (pE t t.length)
def cutN (p : List Int) : Nat → Nat
  | 0 => 0
  | n + 1 => if p.getD n 0 = 0 then cutN p n else n + 1
def cutZ (p : List Int) : List Int := p.take (cutN p p.length)
def turnedP (t : List (List Int)) : List Int := if isSmallM t then cutZ (polyL t) else []
def sameZ (a b : List (List Int)) : Bool := isSmallM a && (isSmallM b && eqL (turnedP a) (turnedP b))
theorem sg_next (k : Nat) : sg (k + 1) = -sg k := by unfold sg; split <;> split <;> omega
theorem sg_cases (k : Nat) : sg k = 1 ∨ sg k = -1 := by unfold sg; split <;> simp
theorem polyL_len (t : List (List Int)) : (polyL t).length = t.length + 1 := by simp [polyL]
theorem polyL_get {t : List (List Int)} {k : Nat} (h : k < t.length + 1) : (polyL t)[k]? = some (pE t t.length k) := by simp [polyL, h]
theorem cutN_le (p : List Int) (n : Nat) : cutN p n ≤ n := by
  induction n with
  | zero => exact Nat.le_refl _
  | succ n ih => unfold cutN; split <;> omega
theorem cutN_zero {p : List Int} {n : Nat} {x : Int} {R : Nat} (hx : p[n]? = some x) (h : cutN p (n + 1) = R) : (x = 0 → cutN p n = R) ∧ (x ≠ 0 → n + 1 = R) := by
  have e : p.getD n 0 = x := by simp [List.getD, hx]
  rw [cutN, e] at h
  constructor
  · intro h0; simpa [h0] using h
  · intro h0; simpa [h0] using h
theorem minTo_yes {t : List (List Int)} {n k m : Nat} (h : (setTo m n).length = k) : minTo t n k (m + 1) = wrap64 (minTo t n k m + det k (someT t (setTo m n) (setTo m n))) := by rw [minTo, if_pos h]
theorem minTo_no {t : List (List Int)} {n k m : Nat} (h : (setTo m n).length ≠ k) : minTo t n k (m + 1) = minTo t n k m := by rw [minTo, if_neg h]
def accS (t : List (List Int)) (k : Nat) (g : Int) (css : List (List Int)) (s : Int) : Int := css.foldl (fun s cs => wrap64 (s + wrap64 (g * det k (someT t cs cs)))) s
theorem accS_step {t : List (List Int)} {k i : Nat} {g s R : Int} {css : List (List Int)} {cs : List Int} (hc : css[i]? = some cs) (h : accS t k g (css.drop i) s = R) : accS t k g (css.drop (i + 1)) (wrap64 (s + wrap64 (g * det k (someT t cs cs)))) = R := by
  rw [drop_of_get hc] at h
  exact h
theorem accS_end {t : List (List Int)} {k i : Nat} {g s R : Int} {css : List (List Int)} (hi : css.length ≤ i) (h : accS t k g (css.drop i) s = R) : s = R := by
  rw [drop_all css i hi] at h
  exact h
theorem wr_pos (a z : Int) : wrap64 (wrap64 (1 * a) + wrap64 (1 * z)) = wrap64 (1 * wrap64 (a + z)) := by unfold wrap64; omega
theorem wr_neg (a z : Int) : wrap64 (wrap64 (-1 * a) + wrap64 (-1 * z)) = wrap64 (-1 * wrap64 (a + z)) := by unfold wrap64; omega
theorem accS_minTo {t : List (List Int)} {n k : Nat} {g : Int} (hg : g = 1 ∨ g = -1) : ∀ m, accS t k g (setsTo n k m) 0 = wrap64 (g * minTo t n k m)
  | 0 => by rcases hg with rfl | rfl <;> simp [accS, setsTo, minTo, wrap64]
  | m + 1 => by
    have ih := accS_minTo (t := t) (n := n) (k := k) hg m
    by_cases h : (setTo m n).length = k
    · rw [setsTo_yes h, minTo_yes h]
      unfold accS at ih ⊢
      rw [List.foldl_append, ih]
      simp only [List.foldl_cons, List.foldl_nil]
      rcases hg with rfl | rfl
      · exact wr_pos _ _
      · exact wr_neg _ _
    · rw [setsTo_no h, minTo_no h]; exact ih
theorem accS_pE {t : List (List Int)} {n k : Nat} : accS t k (sg k) (sets n k) 0 = pE t n k := accS_minTo (sg_cases k) _
/-- The numbers of the polynomial, the greatest power first, as far as power k. -/
def charL (t : List (List Int)) (n k : Nat) : List Int := (List.range (n + 1)).map fun j => if n - j < k then pE t n (n - j) else 0
theorem charL_len (t : List (List Int)) (n k : Nat) : (charL t n k).length = n + 1 := by simp [charL]
theorem charL_zero (t : List (List Int)) (n : Nat) : charL t n 0 = List.replicate (n + 1) 0 := by
  apply List.ext_getElem?
  intro i
  by_cases h : i < n + 1
  · simp [charL, h]
  · simp [charL, h]
theorem charL_get {t : List (List Int)} {n k : Nat} (h : k ≤ n) : (charL t n k)[n - k]? = some 0 := by
  have : n - (n - k) = k := by omega
  simp [charL, show n - k < n + 1 by omega, this]
theorem charL_set {t : List (List Int)} {n k : Nat} (h : k ≤ n) : (charL t n k).set (n - k) (pE t n k) = charL t n (k + 1) := by
  apply List.ext_getElem?
  intro i
  rw [List.getElem?_set]
  by_cases hi : n - k = i
  · subst hi
    have : n - (n - k) = k := by omega
    simp [charL, show n - k < n + 1 by omega, this]
  · rw [if_neg hi]
    by_cases hl : i < n + 1
    · have : (n - i < k) = (n - i < k + 1) := by apply propext; omega
      simp [charL, hl, this]
    · simp [charL, hl]
theorem charL_end {t : List (List Int)} {i : Nat} (h : i ≤ t.length) : (charL t t.length (t.length + 1))[t.length - i]? = (polyL t)[i]? := by
  have e : t.length - (t.length - i) = i := by omega
  rw [polyL_get (by omega)]
  simp [charL, show t.length - i < t.length + 1 by omega, e]
  omega
theorem set_idx (m n : Nat) : Idx n (setTo m n) := fun _ hx => setTo_mem hx
end Go.Proofs.YtonfdiaefkghbaaGreatDoor

namespace Go.Proofs.YtonfdiaefkghbaaGreatDoor
open Go.RowKit
set_option linter.all false
def RowsAt (w : World) (vs : List Value) (xss : List (List Int)) : Prop :=
  vs.length = xss.length ∧ ∀ (i : Nat) (u : Value) (r : List Int), vs[i]? = some u → xss[i]? = some r → ∃ ai ci, u = .slice ai r.length ci ∧ Ints w ai r.length r ∧ r.length ≤ ci
theorem RowsAt.nil (w : World) : RowsAt w [] [] := ⟨rfl, fun i u r h => by simp at h⟩
theorem RowsAt.push {w : World} {vs : List Value} {xss : List (List Int)} {r : List Int} {ai : Option Addr} {ci : Nat} (h : RowsAt w vs xss) (hr : Ints w ai r.length r) (hc : r.length ≤ ci) : RowsAt w (vs ++ [.slice ai r.length ci]) (xss ++ [r]) := by
  refine ⟨by simp [h.1], fun i u r' hu hx => ?_⟩
  by_cases hi : i < vs.length
  · rw [List.getElem?_append_left hi] at hu
    rw [List.getElem?_append_left (by rw [← h.1]; exact hi)] at hx
    exact h.2 i u r' hu hx
  · rw [List.getElem?_append_right (by omega)] at hu
    rw [List.getElem?_append_right (by rw [← h.1]; omega), ← h.1] at hx
    have hz : i - vs.length = 0 := by
      have := (List.getElem?_eq_some_iff.1 hu).1
      simp at this
      omega
    rw [hz] at hu hx
    simp at hu hx
    subst hu
    subst hx
    exact ⟨ai, ci, rfl, hr, hc⟩
theorem own_rows {w w' : World} {lo n : Nat} {v : Value} {vs : List Value} {xss : List (List Int)} (ho : w'.ownsRow lo 34 1 v n vs) (hn : n ≤ 1099511627776) (h : RowsAt w vs xss) (hb : Below w.heap.size w w') : ∃ ao cap, v = .slice ao n cap ∧ Intss w' ao n xss := by
  have hvl : vs.length = n := by simpa using ho.1
  rcases ho.2 with ⟨rfl, rfl⟩ | ⟨g, cap, cur, rfl, hg, hh, hnc, _, _, ht⟩
  · refine ⟨none, 0, rfl, by rw [← h.1]; exact hvl, by omega, fun i r hi => ?_⟩
    have := (List.getElem?_eq_some_iff.1 hi).1
    rw [← h.1] at this
    omega
  · refine ⟨some ⟨g, 0, none⟩, cap, rfl, by rw [← h.1]; exact hvl, hn, fun i r hi => ?_⟩
    have hil : i < vs.length := by rw [h.1]; exact (List.getElem?_eq_some_iff.1 hi).1
    have hv : vs[i]? = some vs[i] := List.getElem?_eq_getElem hil
    obtain ⟨ai, ci, e, hr, hc⟩ := h.2 i _ r hv hi
    have hcl := ho.cells (g := g) rfl i _ hv
    rw [Addr.add_lit, e] at hcl
    exact ⟨g, 0, ai, ci, rfl, hcl, hr.keep hb, hc⟩
theorem wpList_push_val {ops : Array Oper} {rest : List Oper} {o : Oper} {a : Act} {Q : Exit → Act → World → Prop} (W : World) (u : Value) (hgd : o.guard = none) (s x : Operand)
    (ho : o.op = .call { callee := .builtin .append, args := #[s, x], argTypes := #[24, 24] })
    (lo : Nat) (v : Value) (n : Nat) (vs : List Value) (hs : a.eval s = v) (h : W.ownsRow lo 34 1 v n vs) (hn : n + 1 ≤ 1099511627776) (hlo : lo ≤ W.heap.size) (hone : u.oneCell' = true)
    (tb : Nat) (htb : tb = W.heap.size) (hx : a.eval x = .slice (some ⟨tb, 0, none⟩) 1 1)
    (K : ∀ v' w', w'.ownsRow lo 34 1 v' (n + 1) (vs ++ [u]) → Below lo W w' → wpList Tryz.prog ops Q rest (a.put o.dst v') w') : wpList Tryz.prog ops Q (o :: rest) a (W.alloc (.cells #[u] 34)) := by
  subst htb
  obtain ⟨i0, hi, hz0, hz1, hz2⟩ := info_parts info_ints
  refine wpList_append_own _ hgd s x 24 ho lo 34 i0 (.slice none 0 0) 1 24 Tryz.underlying24 hi hz0 hz1 hz2 rfl (by decide) v n vs hs (h.alloc _) ⟨W.heap.size, 0, none⟩ 1 1 [u] hx rfl ?_ ?_ ?_ ?_ (by simp; omega) ?_
  · intro j u' hj
    match j, hj with
    | 0, hj =>
      simp at hj
      subst hj
      exact World.cell?_alloc_new _ _ _ _
  · intro u' hu'
    simp at hu'
    subst hu'
    exact hone
  · unfold maxLen; omega
  · omega
  · intro v' w' hown hgrow _
    exact K v' w' hown (((Below.refl lo W).alloc hlo _).grown hgrow (by simp; omega) (fun k hk => (h.lt k hk).1))
theorem elem_intss : Tryz.prog.elem 24 = 34 := by kernel_rfl
theorem sizeOf_ints (w : World) : (sizeOf 34).run Tryz.prog w = .ok 1 w := by
  obtain ⟨i, hi, _, hz, _⟩ := info_parts info_ints
  simp [sizeOf, typeInfo, hi, hz]
theorem slice_to2 (a : Option Addr) (len cap j : Nat) (hj : j ≤ cap) (w : World) :
    (Instr.slice 24 (.slice a len cap) none (some (.int .i64 (j : Int))) none).run Tryz.prog w = .ok (.slice a j cap) w := by
  rw [run_slice_h (P := Tryz.prog) w 24 a len cap (by rw [elem_intss]; exact Tryz.underlying24) .i64 (j : Int) (by omega) (by omega), elem_intss, sizeOf_ints]
  cases a <;> simp [sliced, Result.andThen, Addr.add]
theorem Intss.capLe {w : World} {lo n : Nat} {v : Value} {xss : List (List Int)} {ao : Option Addr} {m cap : Nat} (h : OIntss w lo v n xss) (e : v = .slice ao m cap) : n ≤ cap := by
  obtain ⟨_, _, vs, ho, _⟩ := h
  rcases ho.2 with ⟨rfl, rfl⟩ | ⟨g, c, cur, rfl, _, _, hnc, _⟩
  · exact Nat.zero_le _
  · injection e with _ _ e3
    omega
end Go.Proofs.YtonfdiaefkghbaaGreatDoor

namespace Go.Proofs.YtonfdiaefkghbaaGreatDoor
open Go.RowKit
set_option linter.all false
def isum : Int → List Int → Int
  | a, [] => a
  | a, x :: r => isum (wrap64 (a + x)) r

set_option maxHeartbeats 400000 in
theorem total_any (ao : Option Addr) (n cap : Nat) (xs : List Int) (w : World) (h : Ints w ao n xs) :
    Calls Tryz.prog 99 #[.slice ao n cap] w fun e w' => e = .returned (.int .i64 (isum 0 xs)) ∧ w = w' := by
  obtain ⟨hn, hm, hc⟩ := h
  subst hn
  go_enter Tryz.func99, Tryz.ntmps99
  go_wp2
  go_loop [3, 8] (fun s i => ∃ (k : Nat) (t : Int), k ≤ xs.length ∧ i = .int .i64 k ∧ s = .int .i64 t ∧ Hid (isum t (xs.drop k) = isum 0 xs)) (fun _ i => xs.length - (intOf i).toNat)
  case atStart => exact ⟨0, 0, Nat.zero_le _, rfl, rfl, rfl⟩
  case round =>
    obtain ⟨k, t, hk, rfl, rfl, hr⟩ := hrel
    by_cases hlt : k < xs.length
    · obtain ⟨b, o, rfl, hcell⟩ := hc k hlt
      clear hc
      go_wp2
      go_round
      case rel => exact ⟨k + 1, _, hlt, by go_num, rfl, by rw [List.drop_eq_getElem_cons hlt] at hr; exact hr⟩
      case measure => simp [intOf]; omega
    · go_wp2
      go_ret
      rw [drop_all xs k (by omega)] at hr
      exact ⟨by rw [← hr.out]; rfl, rfl⟩
end Go.Proofs.YtonfdiaefkghbaaGreatDoor

namespace Go.Proofs.YtonfdiaefkghbaaGreatDoor
open Go.RowKit
set_option linter.all false
theorem wrap_add (a x : Int) : wrap64 (wrap64 a + x) = wrap64 (a + x) := by unfold wrap64; omega
theorem wrap_id {a : Int} (h : -9223372036854775808 ≤ a ∧ a ≤ 9223372036854775807) : wrap64 a = a := by unfold wrap64; omega
theorem isum_wrap : ∀ (r : List Int) (a : Int), isum (wrap64 a) r = wrap64 (a + r.sum)
  | [], a => by simp [isum]
  | x :: r, a => by
    show isum (wrap64 (wrap64 a + x)) r = _
    rw [wrap_add, isum_wrap r (a + x), List.sum_cons, Int.add_assoc]
theorem isum_zero (r : List Int) : isum 0 r = wrap64 r.sum := by
  have h := isum_wrap r 0
  rw [show wrap64 0 = 0 from by unfold wrap64; omega, Int.zero_add] at h
  exact h
theorem allIn_sum {hi : Int} (h0 : 0 ≤ hi) : ∀ (r : List Int), allIn 0 hi r = true → 0 ≤ r.sum ∧ r.sum ≤ hi * r.length
  | [], _ => by simp
  | x :: r, h => by
    simp only [allIn, List.all_cons, Bool.and_eq_true] at h
    have h1 := inR_true h.1
    have h2 := allIn_sum h0 r h.2
    simp only [List.sum_cons, List.length_cons]
    rw [Int.natCast_add, Int.mul_add]
    omega
theorem isum_row {hi : Int} {r : List Int} (h0 : 0 ≤ hi) (hh : hi ≤ 1000000) (h : allIn 0 hi r = true) (hl : r.length ≤ 1048576) : isum 0 r = r.sum ∧ 0 ≤ r.sum ∧ r.sum ≤ hi * r.length := by
  have hs := allIn_sum h0 r h
  have h2 : hi * r.length ≤ 1000000 * 1048576 := Int.mul_le_mul hh (by omega) (by omega) (by omega)
  rw [isum_zero]
  exact ⟨wrap_id ⟨by omega, by omega⟩, hs⟩

/-- The sum of all numbers. -/
def msum (xss : List (List Int)) : Int := (xss.map List.sum).sum
theorem msum_cons (r : List Int) (q : List (List Int)) : msum (r :: q) = r.sum + msum q := by simp [msum]
theorem msum_range {n : Nat} {hi : Int} (h0 : 0 ≤ hi) : ∀ (xss : List (List Int)), tabIn n 0 hi xss = true → 0 ≤ msum xss ∧ msum xss ≤ hi * n * xss.length
  | [], _ => by simp [msum]
  | r :: q, h => by
    simp only [tabIn, List.all_cons, Bool.and_eq_true, decide_eq_true_eq] at h
    have h1 := allIn_sum h0 r h.1.2
    have h2 := msum_range h0 q (by simpa [tabIn] using h.2)
    rw [msum_cons, List.length_cons, Int.natCast_add, Int.mul_add]
    rw [h.1.1] at h1
    omega
def sumOf (xss : List (List Int)) : Int := if isMat xss then msum xss else -1
def isGraph (xss : List (List Int)) : Bool := isMat xss && decide (sumOf xss ≤ 60)
theorem isMat_msum {xss : List (List Int)} (h : isMat xss = true) : 0 ≤ msum xss ∧ msum xss ≤ 81000000 := by
  have hl := isMat_len h
  simp only [isMat, Bool.and_eq_true] at h
  have := msum_range (by decide) xss h.1
  obtain ⟨n, hn⟩ : ∃ n, xss.length = n := ⟨_, rfl⟩
  rw [hn] at this hl
  have h2 : (1000000 : Int) * n * n ≤ 1000000 * 9 * 9 := by
    have a1 : (n : Int) * n ≤ 9 * 9 := Int.mul_le_mul (by omega) (by omega) (by omega) (by omega)
    rw [Int.mul_assoc, Int.mul_assoc]
    omega
  omega
theorem row_sum {xss : List (List Int)} (h : isMat xss = true) {k : Nat} {r : List Int} (hk : xss[k]? = some r) : isum 0 r = r.sum ∧ 0 ≤ r.sum ∧ r.sum ≤ 9000000 := by
  obtain ⟨h1, h2⟩ := isMat_row h hk
  have h3 := isMat_len h
  have h4 := isum_row (by decide) (by decide) h2 (by omega)
  refine ⟨h4.1, h4.2.1, ?_⟩
  have : (1000000 : Int) * r.length ≤ 9000000 := by omega
  omega
/-- What is still to come is not below 0. -/
theorem rest_nonneg {xss : List (List Int)} (h : isMat xss = true) (k : Nat) : 0 ≤ msum (xss.drop k) := by
  simp only [isMat, Bool.and_eq_true] at h
  have h1 : tabIn xss.length 0 1000000 (xss.drop k) = true := by
    simp only [tabIn, List.all_eq_true] at h ⊢
    exact fun r hr => h.1 r (List.mem_of_mem_drop hr)
  exact (msum_range (by decide) _ h1).1
theorem rest_row {hi : Int} {r : List Int} (h0 : 0 ≤ hi) (h : allIn 0 hi r = true) (k : Nat) : 0 ≤ (r.drop k).sum := by
  have h1 : allIn 0 hi (r.drop k) = true := by
    simp only [allIn, List.all_eq_true] at h ⊢
    exact fun x hx => h x (List.mem_of_mem_drop hx)
  exact (allIn_sum h0 _ h1).1
end Go.Proofs.YtonfdiaefkghbaaGreatDoor

namespace Go.Proofs.YtonfdiaefkghbaaGreatDoor
open Go.RowKit
set_option linter.all false
def negRow (d : Int) (r : List Int) : List Int := r.map (fun x => wrap64 (-d * x))
def lessRow (q d : Int) (i : Nat) (r : List Int) : List Int := (negRow d r).set i (wrap64 ((negRow d r).getD i 0 + q))
def lessT (q d : Int) (t : List (List Int)) : List (List Int) := (List.range t.length).map (fun i => lessRow q d i (t.getD i []))
theorem negRow_len (d : Int) (r : List Int) : (negRow d r).length = r.length := by simp [negRow]
theorem negRow_get {d : Int} {r : List Int} {j : Nat} {x : Int} (h : r[j]? = some x) : (negRow d r)[j]? = some (wrap64 (-d * x)) := by simp [negRow, h]
theorem lessT_len (q d : Int) (t : List (List Int)) : (lessT q d t).length = t.length := by simp [lessT]
theorem lessRow_len (q d : Int) (i : Nat) (r : List Int) : (lessRow q d i r).length = r.length := by simp [lessRow, negRow]
theorem lessT_get {q d : Int} {t : List (List Int)} {i : Nat} {r : List Int} (h : t[i]? = some r) : (lessT q d t)[i]? = some (lessRow q d i r) := by
  obtain ⟨hi, rfl⟩ := List.getElem?_eq_some_iff.1 h
  simp [lessT, hi, List.getD]
theorem lessT_rowsLen {q d : Int} {t : List (List Int)} {n : Nat} (h : RowsLen t n) : RowsLen (lessT q d t) n := by
  intro k r hk
  have hl := (List.getElem?_eq_some_iff.1 hk).1
  rw [lessT_len] at hl
  have h2 : t[k]? = some t[k] := List.getElem?_eq_getElem hl
  rw [lessT_get h2] at hk
  injection hk with hk
  subst hk
  rw [lessRow_len]
  exact h k _ h2
/-- The other program's form: 1 on the diagonal, less the table. -/
def tabRow (n i : Nat) (r : List Int) : List Int := (List.range n).map (fun j => wrap64 ((oneRow n i).getD j 0 - r.getD j 0))
def tabT (t : List (List Int)) : List (List Int) := (List.range t.length).map (fun i => tabRow t.length i (t.getD i []))
theorem tabRow_len (n i : Nat) (r : List Int) : (tabRow n i r).length = n := by simp [tabRow]
theorem tabT_len (t : List (List Int)) : (tabT t).length = t.length := by simp [tabT]
theorem tabT_get {t : List (List Int)} {i : Nat} {r : List Int} (h : t[i]? = some r) : (tabT t)[i]? = some (tabRow t.length i r) := by
  obtain ⟨hi, rfl⟩ := List.getElem?_eq_some_iff.1 h
  simp [tabT, hi, List.getD]
theorem tabRow_get {n i j : Nat} {r : List Int} {x y : Int} (hj : j < n) (hx : (oneRow n i)[j]? = some x) (hy : r[j]? = some y) : (tabRow n i r)[j]? = some (wrap64 (x - y)) := by
  simp [tabRow, hj, List.getD, hx, hy]
theorem tabT_rowsLen (t : List (List Int)) : RowsLen (tabT t) t.length := by
  intro k r hk
  simp only [tabT, List.getElem?_map, Option.map_eq_some_iff] at hk
  obtain ⟨q, _, rfl⟩ := hk
  exact tabRow_len _ _ _
theorem oneRow_get {n i j : Nat} (hj : j < n) : (oneRow n i)[j]? = some (if i = j then 1 else 0) := by
  unfold oneRow
  rw [List.getElem?_set]
  by_cases h : i = j
  · subst h; simp [hj]
  · simp [h, hj]
/-- They are one for a small matrix. -/
theorem tab_less {t : List (List Int)} (h : isSmallM t = true) : tabT t = lessT 1 1 t := by
  have hm := isSmallM_mat h
  unfold tabT lessT
  apply List.map_congr_left
  intro i hi
  have hi' : i < t.length := List.mem_range.1 hi
  have hr : t[i]? = some t[i] := List.getElem?_eq_getElem hi'
  have e : t.getD i [] = t[i] := by simp [List.getD, hi']
  rw [e]
  have hrl := (isMat_row hm.1 hr).1
  apply List.ext_getElem?
  intro j
  by_cases hj : j < t.length
  · have hx : t[i][j]? = some (t[i])[j] := List.getElem?_eq_getElem (by omega)
    have hb := isSmallM_get h hr hx
    rw [tabRow_get hj (oneRow_get hj) hx]
    unfold lessRow
    rw [List.getElem?_set]
    by_cases hij : i = j
    · subst hij
      rw [if_pos rfl, if_pos rfl, if_pos (by rw [negRow_len]; omega)]
      simp only [List.getD, negRow_get hx, Option.getD_some]
      congr 1
      unfold wrap64
      omega
    · rw [if_neg hij, if_neg hij, negRow_get hx]
      congr 1
      unfold wrap64
      omega
  · rw [List.getElem?_eq_none (by rw [tabRow_len]; omega), List.getElem?_eq_none (by rw [lessRow_len]; omega)]
end Go.Proofs.YtonfdiaefkghbaaGreatDoor

namespace Go.Proofs.YtonfdiaefkghbaaGreatDoor
open Go.RowKit
set_option linter.all false
theorem gcd_step (a b : Int) : Int.gcd b (a.tmod b) = Int.gcd a b := by
  show Nat.gcd b.natAbs (a.tmod b).natAbs = Nat.gcd a.natAbs b.natAbs
  rw [Int.natAbs_tmod, Nat.gcd_comm a.natAbs b.natAbs, Nat.gcd_rec b.natAbs a.natAbs]
  exact Nat.gcd_comm _ _
theorem tmod_lt {a b : Int} (h : b ≠ 0) : (a.tmod b).natAbs < b.natAbs := by
  rw [Int.natAbs_tmod]
  exact Nat.mod_lt _ (by omega)
def Small62 (x : Int) : Prop := -4611686018427387904 ≤ x ∧ x ≤ 4611686018427387904
theorem tmod_small {a b : Int} (h : b ≠ 0) (hb : Small62 b) : Small62 (a.tmod b) := by
  have := tmod_lt (a := a) h
  obtain ⟨h1, h2⟩ := hb
  constructor <;> omega
def gcdI (a b : Int) : Int := (Int.gcd a b : Int)
theorem gcdI_small {a b : Int} (ha : Small62 a) (hb : Small62 b) : 0 ≤ gcdI a b ∧ Small62 (gcdI a b) := by
  have h0 : 0 ≤ gcdI a b := Int.natCast_nonneg _
  refine ⟨h0, ?_⟩
  unfold gcdI at *
  by_cases h : b = 0
  · subst h
    rw [Int.gcd_zero_right]
    obtain ⟨h1, h2⟩ := ha
    constructor <;> omega
  · have h1 : Int.gcd a b ≤ b.natAbs := Nat.le_of_dvd (by omega) (Nat.gcd_dvd_right _ _)
    obtain ⟨h2, h3⟩ := hb
    constructor <;> omega

set_option maxHeartbeats 800000 in
theorem l1Max_any (x y : Int) (w : World) :
    Calls Tryz.prog 125 #[.int .i64 x, .int .i64 y] w fun e w' => e = .returned (.int .i64 (if y < x then x else y)) ∧ w = w' := by
  by_cases h : y < x
  · rw [if_pos h]
    go_enter Tryz.func125, Tryz.ntmps125
    go_wp2_with fail
    go_ret
    exact ⟨rfl, rfl⟩
  · rw [if_neg h]
    go_enter Tryz.func125, Tryz.ntmps125
    go_wp2_with fail
    go_ret
    exact ⟨rfl, rfl⟩

set_option maxHeartbeats 800000 in
theorem sGcd_any (a b : Int) (w : World) (ha : Small62 a) (hb : Small62 b) :
    Calls Tryz.prog 151 #[.int .i64 a, .int .i64 b] w fun e w' => e = .returned (.int .i64 (gcdI a b)) ∧ w = w' := by
  obtain ⟨ha1, ha2⟩ := ha
  obtain ⟨hb1, hb2⟩ := hb
  go_enter Tryz.func151, Tryz.ntmps151
  go_wp2_with fail
  go_loop [0, 1] (fun u v => ∃ x y : Int, u = .int .i64 x ∧ v = .int .i64 y ∧ Hid (Small62 x) ∧ Hid (Small62 y) ∧ Hid (Int.gcd x y = Int.gcd a b)) (fun _ v => (intOf v).natAbs)
  case atStart => exact ⟨a, b, rfl, rfl, ⟨ha1, ha2⟩, ⟨hb1, hb2⟩, rfl⟩
  case round =>
    obtain ⟨x, y, rfl, rfl, hx, hy, hg⟩ := hrel
    by_cases h0 : y = 0
    · subst h0
      obtain ⟨hx1, hx2⟩ := hx.out
      have hg' := hg.out
      rw [Int.gcd_zero_right] at hg'
      have hv : Hid ((if -x < x then x else -x) = gcdI a b) := by
        show (if -x < x then x else -x) = gcdI a b
        unfold gcdI
        rw [← hg']
        split <;> omega
      clear hg hg' hx hy
      by_cases hs : -x < x
      · have hv1 : Hid (x = gcdI a b) := by have := hv.out; rw [if_pos hs] at this; exact this
        go_wp2_with (first | (go_at_call 125; refine (l1Max_any _ _ _).mono ?_; rintro e w' ⟨rfl, rfl⟩))
        go_ret
        exact ⟨ret_int hv1.out, rfl⟩
      · have hv1 : Hid (-x = gcdI a b) := by have := hv.out; rw [if_neg hs] at this; exact this
        go_wp2_with (first | (go_at_call 125; refine (l1Max_any _ _ _).mono ?_; rintro e w' ⟨rfl, rfl⟩))
        go_ret
        exact ⟨ret_int hv1.out, rfl⟩
    · have hs : Hid (Small62 (x.tmod y)) := tmod_small h0 hy.out
      have hg1 : Hid (Int.gcd y (x.tmod y) = Int.gcd a b) := (gcd_step x y).trans hg.out
      have hlt : Hid ((x.tmod y).natAbs < y.natAbs) := tmod_lt h0
      have hne : (y != 0) = true := by simp [h0]
      obtain ⟨hx1, hx2⟩ := hx.out
      obtain ⟨hy1, hy2⟩ := hy.out
      clear hg hx
      go_wp2_with fail
      go_round
      case rel => exact ⟨y, x.tmod y, rfl, rfl, hy, hs, hg1⟩
      case measure => have := hlt.out; rw [Int.natAbs_tmod] at this; simp [intOf]; exact this

set_option maxHeartbeats 800000 in
theorem iGcd_any (a b : Int) (w : World) (ha : Small62 a) (hb : Small62 b) :
    Calls Tryz.prog 149 #[.int .i64 a, .int .i64 b] w fun e w' => e = .returned (.int .i64 (gcdI a b)) ∧ Drew w w' := by
  obtain ⟨ha1, ha2⟩ := ha
  obtain ⟨hb1, hb2⟩ := hb
  go_enter Tryz.func149, Tryz.ntmps149
  go_wp2_with fail
  go_loopw [0, 1] (fun u v wr => ∃ x y : Int, u = .int .i64 x ∧ v = .int .i64 y ∧ Drew w wr ∧ Hid (Small62 x) ∧ Hid (Small62 y) ∧ Hid (Int.gcd x y = Int.gcd a b)) (fun _ v _ => (intOf v).natAbs)
  case atStart => exact ⟨a, b, rfl, rfl, Drew.refl w, ⟨ha1, ha2⟩, ⟨hb1, hb2⟩, rfl⟩
  case round =>
    obtain ⟨x, y, rfl, rfl, ⟨m, rfl⟩, hx, hy, hg⟩ := hrel
    by_cases h0 : y = 0
    · subst h0
      obtain ⟨hx1, hx2⟩ := hx.out
      have hg' := hg.out
      rw [Int.gcd_zero_right] at hg'
      have hv : Hid (max x (-x) = gcdI a b) := by
        show max x (-x) = gcdI a b
        unfold gcdI
        rw [← hg']
        omega
      clear hg hg' hx hy
      by_cases hs : -x < x
      · have hv1 : Hid (x = gcdI a b) := by have := hv.out; show x = _; omega
        go_wp2_with fail
        go_ret
        exact ⟨ret_int hv1.out, (by first | exact Drew.refl _ | exact Drew.mk _ _ | exact (Drew.mk _ _).drewN _)⟩
      · have hv1 : Hid (-x = gcdI a b) := by have := hv.out; show -x = _; omega
        go_wp2_with fail
        all_goals go_ret
        all_goals exact ⟨ret_int (by have := hv1.out; omega), (by first | exact Drew.refl _ | exact Drew.mk _ _ | exact (Drew.mk _ _).drewN _)⟩
    · have hs : Hid (Small62 (x.tmod y)) := tmod_small h0 hy.out
      have hg1 : Hid (Int.gcd y (x.tmod y) = Int.gcd a b) := (gcd_step x y).trans hg.out
      have hlt : Hid ((x.tmod y).natAbs < y.natAbs) := tmod_lt h0
      have hne : (y != 0) = true := by simp [h0]
      obtain ⟨hx1, hx2⟩ := hx.out
      obtain ⟨hy1, hy2⟩ := hy.out
      clear hg hx
      go_wp2_with fail
      go_quiet (fail)
      go_wp2_with fail
      go_roundw
      case rel => exact ⟨y, x.tmod y, rfl, rfl, (by first | exact Drew.refl _ | exact Drew.mk _ _ | exact (Drew.mk _ _).drewN _), hy, hs, hg1⟩
      case measure => have := hlt.out; rw [Int.natAbs_tmod] at this; simp [intOf]; exact this
end Go.Proofs.YtonfdiaefkghbaaGreatDoor

namespace Go.Proofs.YtonfdiaefkghbaaGreatDoor
open Go.RowKit
set_option linter.all false
def gcdRow (t : List (List Int)) (k : Nat) (rs : List Int) : List (List Int) → Int → Int
  | [], g => g
  | cs :: css, g => gcdRow t k rs css (gcdI g (det k (someT t rs cs)))
def gcdAll (t : List (List Int)) (k : Nat) (css : List (List Int)) : List (List Int) → Int → Int
  | [], g => g
  | rs :: rss, g => gcdAll t k css rss (gcdRow t k rs css g)
def minorsI (t : List (List Int)) (k : Nat) : Int := gcdAll t k (sets t.length k) (sets t.length k) 0
def minorsOf (t : List (List Int)) (k : Int) : Int := if smith t && inR k 0 t.length then minorsI t k.toNat else -1
theorem gcdRow_step {t : List (List Int)} {k j : Nat} {rs cs : List Int} {css : List (List Int)} {g b : Int} (hc : css[j]? = some cs) (h : gcdRow t k rs (css.drop j) g = b) :
    gcdRow t k rs (css.drop (j + 1)) (gcdI g (det k (someT t rs cs))) = b := by
  rw [drop_of_get hc] at h
  exact h
theorem gcdRow_end {t : List (List Int)} {k j : Nat} {rs : List Int} {css : List (List Int)} {g b : Int} (hj : css.length ≤ j) (h : gcdRow t k rs (css.drop j) g = b) : g = b := by
  rw [drop_all css j hj] at h
  exact h
theorem gcdAll_step {t : List (List Int)} {k j : Nat} {rs : List Int} {css rss : List (List Int)} {g b : Int} (hc : rss[j]? = some rs) (h : gcdAll t k css (rss.drop j) g = b) :
    gcdAll t k css (rss.drop (j + 1)) (gcdRow t k rs css g) = b := by
  rw [drop_of_get hc] at h
  exact h
theorem gcdAll_end {t : List (List Int)} {k j : Nat} {css rss : List (List Int)} {g b : Int} (hj : rss.length ≤ j) (h : gcdAll t k css (rss.drop j) g = b) : g = b := by
  rw [drop_all rss j hj] at h
  exact h
theorem smith_bnd {t : List (List Int)} (h : smith t = true) : Bnd 100 t := by
  intro r hr x hx
  obtain ⟨k, hk⟩ := List.getElem?_of_mem hr
  obtain ⟨j, hj⟩ := List.getElem?_of_mem hx
  exact allIn_get (smith_row h hk).2 hj
theorem smith_rowsLen {t : List (List Int)} {n : Nat} (h : smith t = true) (hn : t.length = n) : RowsLen t n := fun _ _ hk => by rw [← hn]; exact (smith_row h hk).1
theorem Bnd.some_ {B : Int} {t : List (List Int)} (h : Bnd B t) (hB : 0 ≤ B) (rs cs : List Int) : Bnd B (someT t rs cs) := by
  intro r hr x hx
  unfold someT at hr
  obtain ⟨a, _, rfl⟩ := List.mem_map.1 hr
  unfold pickRow at hx
  obtain ⟨c, _, rfl⟩ := List.mem_map.1 hx
  cases h1 : t[a.toNat]? with
  | none => simp [List.getD, h1]; omega
  | some q =>
    cases h2 : q[c.toNat]? with
    | none => simp [List.getD, h1, h2]; omega
    | some y =>
      simp only [List.getD, h1, h2, Option.getD_some]
      exact h q (List.mem_of_getElem? h1) y (List.mem_of_getElem? h2)
theorem dmax100 : ∀ k, k ≤ 4 → dmax 100 k ≤ 4611686018427387904 := by decide
theorem some_small {t : List (List Int)} (h : Bnd 100 t) {k : Nat} (hk : k ≤ 4) {rs cs : List Int} (h1 : rs.length = k) (h2 : cs.length = k) : Small62 (det k (someT t rs cs)) := by
  have hb := det_bound (B := 100) (by omega) (by omega) k (someT t rs cs) (by rw [someT_len, h1]) (by rw [← h2]; exact someT_rowsLen t rs cs) (h.some_ (by omega) rs cs) (fun m hm => dmax100 m (by omega))
  have := dmax100 k hk
  exact ⟨by omega, by omega⟩
theorem sets_get {n k i : Nat} {s : List Int} (h : (sets n k)[i]? = some s) : s.length = k ∧ Idx n s := setsTo_mem (List.mem_of_getElem? h)
end Go.Proofs.YtonfdiaefkghbaaGreatDoor

namespace Go.Proofs.YtonfdiaefkghbaaGreatDoor
open Go.RowKit
set_option linter.all false
def rankF (t : List (List Int)) : Nat → Nat
  | 0 => 0
  | n + 1 => if minorsI t (n + 1) = 0 then rankF t n else n + 1
def rankOf (t : List (List Int)) : Int := if smith t then (rankF t t.length : Int) else -1
theorem gcdI_zero {a b : Int} : gcdI a b = 0 ↔ a = 0 ∧ b = 0 := by
  unfold gcdI
  rw [← Int.gcd_eq_zero_iff]
  omega
theorem gcdRow_zero {t : List (List Int)} {k : Nat} {rs : List Int} : ∀ (css : List (List Int)) (g : Int), gcdRow t k rs css g = 0 ↔ g = 0 ∧ ∀ cs ∈ css, det k (someT t rs cs) = 0
  | [], g => by simp [gcdRow]
  | cs :: css, g => by
    unfold gcdRow
    rw [gcdRow_zero css, gcdI_zero]
    simp only [List.mem_cons, forall_eq_or_imp, and_assoc]
theorem gcdAll_zero {t : List (List Int)} {k : Nat} {css : List (List Int)} : ∀ (rss : List (List Int)) (g : Int), gcdAll t k css rss g = 0 ↔ g = 0 ∧ ∀ rs ∈ rss, ∀ cs ∈ css, det k (someT t rs cs) = 0
  | [], g => by simp [gcdAll]
  | rs :: rss, g => by
    unfold gcdAll
    rw [gcdAll_zero rss, gcdRow_zero]
    simp only [List.mem_cons, forall_eq_or_imp, and_assoc]
theorem sets_erase_all : ∀ n : Fin 5, ∀ k : Fin 4, ∀ s ∈ sets n.val (k.val + 1), ∀ j : Fin 5, j.val ≤ k.val → s.eraseIdx j.val ∈ sets n.val k.val := by decide
theorem sets_erase {n k j : Nat} {s : List Int} (hn : n ≤ 4) (hk : k < 4) (h : s ∈ sets n (k + 1)) (hj : j ≤ k) : s.eraseIdx j ∈ sets n k :=
  sets_erase_all ⟨n, by omega⟩ ⟨k, hk⟩ s h ⟨j, by omega⟩ hj
theorem minor_some (t : List (List Int)) (rs cs : List Int) (i j : Nat) : minorT (someT t rs cs) i j = someT t (rs.eraseIdx i) (cs.eraseIdx j) := by
  unfold minorT someT
  rw [List.eraseIdx_eq_take_drop_succ, List.eraseIdx_eq_take_drop_succ, List.eraseIdx_eq_take_drop_succ, ← List.map_take, ← List.map_drop, ← List.map_append, List.map_map]
  apply List.map_congr_left
  intro a _
  simp only [Function.comp, cut, pickRow, List.map_append, List.map_take, List.map_drop]
theorem minors_mono {t : List (List Int)} {k : Nat} (hn : t.length ≤ 4) (hk : k < t.length) (h : minorsI t k = 0) : minorsI t (k + 1) = 0 := by
  unfold minorsI at *
  rw [gcdAll_zero] at h ⊢
  refine ⟨rfl, fun rs hrs cs hcs => ?_⟩
  unfold det
  apply dloop_null
  intro j _ hj
  have hc := (setsTo_mem hcs).1
  have hr := (setsTo_mem hrs).1
  obtain ⟨r0, h0⟩ : ∃ r0, (someT t rs cs)[0]? = some r0 := ⟨_, List.getElem?_eq_getElem (by rw [someT_len]; omega)⟩
  have h1 := someT_rowsLen t rs cs 0 _ h0
  have e : (someT t rs cs).getD 0 [] = r0 := by simp [List.getD, h0]
  rw [e, h1] at hj
  rw [minor_some]
  exact h.2 _ (sets_erase hn (by omega) hrs (by omega)) _ (sets_erase hn (by omega) hcs (by omega))
theorem minors_null {t : List (List Int)} (hn : t.length ≤ 4) {k : Nat} (h : minorsI t k = 0) : ∀ m, k ≤ m → m ≤ t.length → minorsI t m = 0 := by
  intro m
  induction m with
  | zero => intro h1 _; have : k = 0 := by omega
            rw [← this]; exact h
  | succ m ih =>
    intro h1 h2
    by_cases e : k = m + 1
    · rw [← e]; exact h
    · exact minors_mono hn (by omega) (ih (by omega) (by omega))
theorem rankF_skip {t : List (List Int)} {r : Nat} : ∀ n, r ≤ n → (∀ m, r < m → m ≤ n → minorsI t m = 0) → rankF t n = rankF t r
  | 0, h, _ => by have : r = 0 := by omega
                  rw [this]
  | n + 1, h, hm => by
    by_cases e : r = n + 1
    · rw [e]
    · have e2 : rankF t (n + 1) = rankF t n := by
        show (if minorsI t (n + 1) = 0 then rankF t n else n + 1) = rankF t n
        rw [if_pos (hm (n + 1) (by omega) (Nat.le_refl _))]
      rw [e2]
      exact rankF_skip n (by omega) (fun m h1 h2 => hm m h1 (by omega))
theorem rankF_top {t : List (List Int)} {r : Nat} (h : r = 0 ∨ minorsI t r ≠ 0) : rankF t r = r := by
  cases r with
  | zero => rfl
  | succ r =>
    unfold rankF
    rw [if_neg (by rcases h with h | h; · omega
                   · exact h)]
/-- What the other program finds, counting upwards. -/
theorem rank_up {t : List (List Int)} (hn : t.length ≤ 4) {r : Nat} (hr : r ≤ t.length) (h1 : r = 0 ∨ minorsI t r ≠ 0) (h2 : r = t.length ∨ minorsI t (r + 1) = 0) : rankF t t.length = r := by
  rw [rankF_skip t.length hr, rankF_top h1]
  intro m h3 h4
  rcases h2 with h2 | h2
  · omega
  · exact minors_null hn h2 m h3 h4
end Go.Proofs.YtonfdiaefkghbaaGreatDoor

namespace Go.Proofs.YtonfdiaefkghbaaGreatDoor
open Go.RowKit
set_option linter.all false
def diagL (t : List (List Int)) : Nat → Nat → Int → List Int
  | 0, _, _ => []
  | c + 1, k, b => if minorsI t k = 0 then 0 :: diagL t c (k + 1) b else (minorsI t k).tdiv b :: diagL t c (k + 1) (minorsI t k)
def diagN (t : List (List Int)) : List Int := diagL t t.length 1 1
def diagV (t : List (List Int)) : List Int := if smith t then diagN t else []
theorem diagL_len (t : List (List Int)) : ∀ (c k : Nat) (b : Int), (diagL t c k b).length = c
  | 0, _, _ => rfl
  | c + 1, k, b => by
    unfold diagL
    split <;> simp [diagL_len t c]
theorem diagN_len (t : List (List Int)) : (diagN t).length = t.length := diagL_len t _ _ _
theorem cons_drop {α : Type} {l : List α} {j : Nat} {x : α} {r : List α} (h : x :: r = l.drop j) : l[j]? = some x ∧ r = l.drop (j + 1) := by
  constructor
  · have : (l.drop j)[0]? = some x := by rw [← h]; rfl
    simpa using this
  · have : (l.drop j).drop 1 = r := by rw [← h]; rfl
    rw [← this, List.drop_drop]
theorem diag_zero {t : List (List Int)} {c j : Nat} {b : Int} (h : diagL t (c + 1) (j + 1) b = (diagN t).drop j) (h0 : minorsI t (j + 1) = 0) : (diagN t)[j]? = some 0 ∧ diagL t c (j + 2) b = (diagN t).drop (j + 1) := by
  unfold diagL at h
  rw [if_pos h0] at h
  exact cons_drop h
theorem diag_step {t : List (List Int)} {c j : Nat} {b : Int} (h : diagL t (c + 1) (j + 1) b = (diagN t).drop j) (h0 : minorsI t (j + 1) ≠ 0) : (diagN t)[j]? = some ((minorsI t (j + 1)).tdiv b) ∧ diagL t c (j + 2) (minorsI t (j + 1)) = (diagN t).drop (j + 1) := by
  unfold diagL at h
  rw [if_neg h0] at h
  exact cons_drop h
theorem gcdRow_small {t : List (List Int)} {k : Nat} {rs : List Int} : ∀ (css : List (List Int)) (g : Int), (∀ cs ∈ css, Small62 (det k (someT t rs cs))) → 0 ≤ g → Small62 g → 0 ≤ gcdRow t k rs css g ∧ Small62 (gcdRow t k rs css g)
  | [], g, _, h0, h1 => ⟨h0, h1⟩
  | cs :: css, g, hd, _, h1 => by
    unfold gcdRow
    have h2 := gcdI_small h1 (hd cs (by simp))
    exact gcdRow_small css _ (fun c hc => hd c (by simp [hc])) h2.1 h2.2
theorem gcdAll_small {t : List (List Int)} {k : Nat} {css : List (List Int)} : ∀ (rss : List (List Int)) (g : Int), (∀ rs ∈ rss, ∀ cs ∈ css, Small62 (det k (someT t rs cs))) → 0 ≤ g → Small62 g → 0 ≤ gcdAll t k css rss g ∧ Small62 (gcdAll t k css rss g)
  | [], g, _, h0, h1 => ⟨h0, h1⟩
  | rs :: rss, g, hd, h0, h1 => by
    unfold gcdAll
    have h2 := gcdRow_small (t := t) (k := k) (rs := rs) css g (hd rs (by simp)) h0 h1
    exact gcdAll_small rss _ (fun c hc => hd c (by simp [hc])) h2.1 h2.2
theorem minorsI_small {t : List (List Int)} {k : Nat} (hs : Bnd 100 t) (hk : k ≤ 4) : 0 ≤ minorsI t k ∧ Small62 (minorsI t k) := by
  unfold minorsI
  refine gcdAll_small _ _ (fun rs hrs cs hcs => some_small hs hk (setsTo_mem hrs).1 (setsTo_mem hcs).1) (by omega) ⟨by omega, by omega⟩
theorem minorsOf_in {t : List (List Int)} {n j : Nat} (hs : smith t = true) (hl : t.length = n) (hj : j < n) : minorsOf t ((j : Int) + 1) = minorsI t (j + 1) := by
  have e : (j : Int) + 1 = ((j + 1 : Nat) : Int) := by omega
  rw [e]
  simp only [minorsOf, hl, hs, inR_mk (x := ((j + 1 : Nat) : Int)) (lo := 0) (hi := n) ⟨by omega, by omega⟩, Bool.and_self, if_true, Int.toNat_natCast]
end Go.Proofs.YtonfdiaefkghbaaGreatDoor

namespace Go.Proofs.YtonfdiaefkghbaaGreatDoor
open Go.RowKit
set_option linter.all false
def iota (n : Nat) : List Int := (List.range n).map fun (i : Nat) => (i : Int)
def partT (t : List (List Int)) (k : Nat) : List (List Int) := someT t (iota k) (iota k)
def belF (T : List (List Int)) : Nat → Nat → Bool
  | _, 0 => true
  | k, m + 1 => decide (0 < det (k + 1) (partT T (k + 1))) && belF T (k + 1) m
def belowM (m : List (List Int)) (q d : Int) : Bool := belF (lessT q d m) 0 m.length
def bis (f : Int → Bool) : Nat → Int → Int → Int
  | 0, lo, _ => lo
  | n + 1, lo, hi => if 1 < hi - lo then (if f ((lo + hi) / 2) then bis f n lo ((lo + hi) / 2) else bis f n ((lo + hi) / 2) hi) else lo
def floorG (m : List (List Int)) (d : Int) : Int := if isSmallM m && inR d 1 100 then bis (fun q => belowM m q d) 4000 0 (36 * d + 1) else -1
theorem iota_len (n : Nat) : (iota n).length = n := by simp [iota]
theorem iota_get {n k : Nat} (h : k < n) : (iota n)[k]? = some (k : Int) := by simp [iota, h]
theorem iota_push (n : Nat) : iota n ++ [(n : Int)] = iota (n + 1) := by simp [iota, List.range_succ]
theorem iota_idx {n k : Nat} (h : k ≤ n) : Idx n (iota k) := by
  intro x hx
  simp only [iota, List.mem_map, List.mem_range] at hx
  obtain ⟨i, hi, rfl⟩ := hx
  omega
theorem bel_step {T : List (List Int)} {k m n : Nat} {b : Bool} (hk : k < n) (hm : m = n - k) (h : belF T k m = b) :
    (0 < det (k + 1) (partT T (k + 1)) → belF T (k + 1) (n - (k + 1)) = b) ∧ (¬ 0 < det (k + 1) (partT T (k + 1)) → b = false) := by
  subst hm
  rw [show n - k = (n - (k + 1)) + 1 by omega, belF] at h
  constructor
  · intro e; simpa [e] using h
  · intro e; simpa [e] using h.symm
theorem bis_step {f : Int → Bool} {n : Nat} {lo hi R : Int} (hn : hi - lo ≤ n) (h1 : 1 < hi - lo) (h : bis f n lo hi = R) :
    ∃ m : Nat, m + 1 = n ∧ (f ((lo + hi) / 2) = true → bis f m lo ((lo + hi) / 2) = R) ∧ (f ((lo + hi) / 2) = false → bis f m ((lo + hi) / 2) hi = R) := by
  obtain ⟨m, rfl⟩ : ∃ m, n = m + 1 := ⟨n - 1, by omega⟩
  refine ⟨m, rfl, ?_, ?_⟩
  · intro e; simpa [bis, h1, e] using h
  · intro e; simpa [bis, h1, e] using h
theorem bis_end {f : Int → Bool} {n : Nat} {lo hi R : Int} (h1 : ¬ 1 < hi - lo) (h : bis f n lo hi = R) : lo = R := by
  cases n with
  | zero => exact h
  | succ m => simpa [bis, h1] using h
theorem partT_len (t : List (List Int)) (k : Nat) : (partT t k).length = k := by unfold partT; rw [someT_len, iota_len]
theorem partT_rowsLen (t : List (List Int)) (k : Nat) : RowsLen (partT t k) k := by
  have h := someT_rowsLen t (iota k) (iota k)
  rw [iota_len] at h
  exact h
theorem pick_iota {r : List Int} {k : Nat} (h : k ≤ r.length) : pickRow r (iota k) = r.take k := by
  apply List.ext_getElem?
  intro j
  by_cases hj : j < k
  · have hx : r[j]? = some r[j] := List.getElem?_eq_getElem (by omega)
    rw [pickRow_get (iota_get hj) hx, List.getElem?_take, if_pos hj, hx]
  · rw [List.getElem?_eq_none (by rw [pickRow_len, iota_len]; omega), List.getElem?_eq_none (by simp; omega)]
theorem partT_get {t : List (List Int)} {k i : Nat} {r : List Int} (hi : i < k) (hr : t[i]? = some r) (hk : k ≤ r.length) : (partT t k)[i]? = some (r.take k) := by
  unfold partT
  rw [someT_get (iota_get hi) hr, pick_iota hk]
/-- The table as numbers that do not wrap. -/
def qRow (q d : Int) (n i : Nat) (r : List Int) : List Int := (List.range n).map fun j => (if i = j then q else 0) - d * r.getD j 0
def qT (q d : Int) (t : List (List Int)) : List (List Int) := (List.range t.length).map fun i => qRow q d t.length i (t.getD i [])
theorem qRow_len (q d : Int) (n i : Nat) (r : List Int) : (qRow q d n i r).length = n := by simp [qRow]
theorem qT_len (q d : Int) (t : List (List Int)) : (qT q d t).length = t.length := by simp [qT]
theorem qT_get {q d : Int} {t : List (List Int)} {i : Nat} {r : List Int} (h : t[i]? = some r) : (qT q d t)[i]? = some (qRow q d t.length i r) := by
  obtain ⟨hi, rfl⟩ := List.getElem?_eq_some_iff.1 h
  simp [qT, hi, List.getD]
theorem qRow_get {q d : Int} {n i j : Nat} {r : List Int} {x : Int} (hj : j < n) (hx : r[j]? = some x) : (qRow q d n i r)[j]? = some ((if i = j then q else 0) - d * x) := by
  simp [qRow, hj, List.getD, hx]
theorem prod_range {d x : Int} (hd : 1 ≤ d) (hd2 : d ≤ 100) (hx : 0 ≤ x) (hx2 : x ≤ 9) : 0 ≤ d * x ∧ d * x ≤ 900 := by
  constructor
  · exact Int.mul_nonneg (by omega) hx
  · have h1 : d * x ≤ 100 * x := Int.mul_le_mul_of_nonneg_right hd2 hx
    omega
theorem wrap64_in {x : Int} (h1 : -1000000000000 ≤ x) (h2 : x ≤ 1000000000000) : wrap64 x = x := by unfold wrap64; omega
theorem qT_less {t : List (List Int)} {q d : Int} (h : isSmallM t = true) (hq : 0 ≤ q) (hq2 : q ≤ 4000) (hd : 1 ≤ d) (hd2 : d ≤ 100) : qT q d t = lessT q d t := by
  have hm := isSmallM_mat h
  unfold qT lessT
  apply List.map_congr_left
  intro i hi
  have hi' : i < t.length := List.mem_range.1 hi
  have hr : t[i]? = some t[i] := List.getElem?_eq_getElem hi'
  have e : t.getD i [] = t[i] := by simp [List.getD, hi']
  rw [e]
  have hrl := (isMat_row hm.1 hr).1
  apply List.ext_getElem?
  intro j
  by_cases hj : j < t.length
  · have hx : t[i][j]? = some (t[i])[j] := List.getElem?_eq_getElem (by omega)
    have hb := isSmallM_get h hr hx
    have hp := prod_range hd hd2 hb.1 hb.2
    rw [qRow_get hj hx]
    unfold lessRow
    rw [List.getElem?_set]
    have ew : wrap64 (-d * (t[i])[j]) = -(d * (t[i])[j]) := by rw [Int.neg_mul]; exact wrap64_in (by omega) (by omega)
    by_cases hij : i = j
    · subst hij
      rw [if_pos rfl, if_pos rfl, if_pos (by rw [negRow_len]; omega)]
      simp only [List.getD, negRow_get hx, Option.getD_some]
      rw [ew, wrap64_in (by omega) (by omega)]
      congr 1
      omega
    · rw [if_neg hij, if_neg hij, negRow_get hx, ew]
      congr 1
      omega
  · rw [List.getElem?_eq_none (by rw [qRow_len]; omega), List.getElem?_eq_none (by rw [lessRow_len]; omega)]
end Go.Proofs.YtonfdiaefkghbaaGreatDoor

namespace Go.Proofs.YtonfdiaefkghbaaGreatDoor
open Go.RowKit
set_option linter.all false
def bit (b : Bool) : Int := if b then 1 else 0
theorem l1Bit_any (b : Bool) (w : World) : Calls Tryz.prog 80 #[.bool b] w fun e w' => e = .returned (.int .i64 (bit b)) ∧ w = w' := by
  cases b
  · go_enter Tryz.func80, Tryz.ntmps80
    go_wp2_with fail
    go_ret
    exact ⟨rfl, rfl⟩
  · go_enter Tryz.func80, Tryz.ntmps80
    go_wp2_with fail
    go_ret
    exact ⟨rfl, rfl⟩
end Go.Proofs.YtonfdiaefkghbaaGreatDoor

namespace Go.Proofs.YtonfdiaefkghbaaGreatDoor
open Go.RowKit
set_option linter.all false
set_option maxHeartbeats 400000 in
theorem l4SameRow_any (ao : Option Addr) (n cap : Nat) (xs : List Int) (ao' : Option Addr) (n' cap' : Nat) (ys : List Int) (w : World) (h : Ints w ao n xs) (h' : Ints w ao' n' ys) :
    Calls Tryz.prog 91 #[.slice ao n cap, .slice ao' n' cap'] w fun e w' => e = .returned (.bool (eqL xs ys)) ∧ Drew w w' := by
  obtain ⟨hn, hm, hc⟩ := h
  obtain ⟨hn', hm', hc'⟩ := h'
  subst hn
  subst hn'
  by_cases hl : xs.length = ys.length
  · have HL := Lib.hid hl
    have hl1 : ((xs.length : Int) != (ys.length : Int)) = false := by simp [hl]
    clear hl
    go_enter Tryz.func91, Tryz.ntmps91
    go_wp2
    go_loopw [5] (fun i wr => ∃ k : Nat, k ≤ xs.length ∧ i = .int .i64 k ∧ Drew w wr ∧ Hid (eqL (xs.drop k) (ys.drop k) = eqL xs ys)) (fun i _ => xs.length - (intOf i).toNat)
    case atStart => exact ⟨0, Nat.zero_le _, rfl, Drew.refl w, rfl⟩
    case round =>
      obtain ⟨k, hk, rfl, ⟨m, rfl⟩, hr⟩ := hrel
      by_cases hlt : k < xs.length
      · have hlt' : k < ys.length := by have := HL.out; omega
        obtain ⟨b, o, rfl, hcell⟩ := hc k hlt
        obtain ⟨b', o', rfl, hcell'⟩ := hc' k hlt'
        clear hc hc'
        have hst := eqL_step hlt hlt' hr.out
        have Hst := Lib.hid hst
        clear hst
        by_cases he : xs[k] = ys[k]
        · have he1 : (xs[k] != ys[k]) = false := by simp [he]
          have hr1 : Hid _ := Hst.out.1 he
          clear he Hst hr
          go_wp2_with fail
          go_quiet (fail)
          go_wp2
          go_roundw
          case rel => exact ⟨k + 1, hlt, by go_num, (by first | exact Drew.refl _ | exact Drew.mk _ _ | exact (Drew.mk _ _).drewN _), hr1⟩
          case measure => simp [intOf]; omega
        · have he1 : (xs[k] != ys[k]) = true := by simp [he]
          have hr1 : Hid _ := Hst.out.2 he
          clear he Hst hr
          go_wp2_with fail
          go_quiet (fail)
          go_wp2
          go_ret
          exact ⟨ret_bool hr1.out.symm, (by first | exact Drew.refl _ | exact Drew.mk _ _ | exact (Drew.mk _ _).drewN _)⟩
      · go_wp2
        go_ret
        rw [eqL_nil (by omega) (by have := HL.out; omega)] at hr
        exact ⟨ret_bool hr.out, (by first | exact Drew.refl _ | exact Drew.mk _ _ | exact (Drew.mk _ _).drewN _)⟩
  · have hl1 : ((xs.length : Int) != (ys.length : Int)) = true := by simp; omega
    have HL : Hid _ := eqL_len hl
    clear hl
    go_enter Tryz.func91, Tryz.ntmps91
    go_wp2
    go_ret
    exact ⟨ret_bool HL.out.symm, Drew.refl w⟩
end Go.Proofs.YtonfdiaefkghbaaGreatDoor

namespace Go.Proofs.YtonfdiaefkghbaaGreatDoor
open Go.RowKit
set_option linter.all false
set_option maxHeartbeats 400000 in
theorem slicesEqual_any (ao : Option Addr) (n cap : Nat) (xs : List Int) (ao' : Option Addr) (n' cap' : Nat) (ys : List Int) (w : World) (h : Ints w ao n xs) (h' : Ints w ao' n' ys) :
    Calls Tryz.prog 89 #[.slice ao n cap, .slice ao' n' cap'] w fun e w' => e = .returned (.bool (eqL xs ys)) ∧ Drew w w' := by
  obtain ⟨hn, hm, hc⟩ := h
  obtain ⟨hn', hm', hc'⟩ := h'
  subst hn
  subst hn'
  by_cases hl : xs.length = ys.length
  · have HL := Lib.hid hl
    have hl1 : ((xs.length : Int) != (ys.length : Int)) = false := by simp [hl]
    clear hl
    go_enter Tryz.func89, Tryz.ntmps89
    go_wp2
    go_loopw [13] (fun i wr => ∃ k : Nat, k ≤ xs.length ∧ i = .int .i64 k ∧ Drew w wr ∧ Hid (eqL (xs.drop k) (ys.drop k) = eqL xs ys)) (fun i _ => xs.length - (intOf i).toNat)
    case atStart => exact ⟨0, Nat.zero_le _, rfl, Drew.refl w, rfl⟩
    case round =>
      obtain ⟨k, hk, rfl, ⟨m, rfl⟩, hr⟩ := hrel
      by_cases hlt : k < xs.length
      · have hlt' : k < ys.length := by have := HL.out; omega
        obtain ⟨b, o, rfl, hcell⟩ := hc k hlt
        obtain ⟨b', o', rfl, hcell'⟩ := hc' k hlt'
        clear hc hc'
        have hst := eqL_step hlt hlt' hr.out
        have Hst := Lib.hid hst
        clear hst
        by_cases he : xs[k] = ys[k]
        · have he1 : (xs[k] != ys[k]) = false := by simp [he]
          have hr1 : Hid _ := Hst.out.1 he
          clear he Hst hr
          go_wp2_with fail
          go_quiet (fail)
          go_wp2
          go_roundw
          case rel => exact ⟨k + 1, hlt, by go_num, (by first | exact Drew.refl _ | exact Drew.mk _ _ | exact (Drew.mk _ _).drewN _), hr1⟩
          case measure => simp [intOf]; omega
        · have he1 : (xs[k] != ys[k]) = true := by simp [he]
          have hr1 : Hid _ := Hst.out.2 he
          clear he Hst hr
          go_wp2_with fail
          go_quiet (fail)
          go_wp2
          go_ret
          exact ⟨ret_bool hr1.out.symm, (by first | exact Drew.refl _ | exact Drew.mk _ _ | exact (Drew.mk _ _).drewN _)⟩
      · go_wp2
        go_ret
        rw [eqL_nil (by omega) (by have := HL.out; omega)] at hr
        exact ⟨ret_bool hr.out, (by first | exact Drew.refl _ | exact Drew.mk _ _ | exact (Drew.mk _ _).drewN _)⟩
  · have hl1 : ((xs.length : Int) != (ys.length : Int)) = true := by simp; omega
    have HL : Hid _ := eqL_len hl
    clear hl
    go_enter Tryz.func89, Tryz.ntmps89
    go_wp2
    go_ret
    exact ⟨ret_bool HL.out.symm, Drew.refl w⟩
end Go.Proofs.YtonfdiaefkghbaaGreatDoor

namespace Go.Proofs.YtonfdiaefkghbaaGreatDoor
open Go.RowKit
set_option linter.all false
/- The cursor of the draws: a block of three cells; what is drawn from it is some number within bounds. -/
/-- A slice of bytes that can be read. -/
def Bytes (w : World) (ao : Option Addr) (n : Nat) : Prop := n ≤ 1099511627776 ∧ ∀ i, i < n → ∃ b o x, ao = some ⟨b, o, none⟩ ∧ w.cell? ⟨b, o + i, none⟩ = some (.int .u8 x) ∧ 0 ≤ x ∧ x ≤ 255
theorem Bytes.keep {w w' : World} {ao : Option Addr} {n : Nat} (h : Bytes w ao n) (hb : Below w.heap.size w w') : Bytes w' ao n := by
  refine ⟨h.1, fun i hi => ?_⟩
  obtain ⟨b, o, x, e, hc, hx⟩ := h.2 i hi
  exact ⟨b, o, x, e, (hb.cell (p := ⟨b, o + i, none⟩) (World.block_lt_of_cell? w _ hc)).trans hc, hx⟩
def Cur (w : World) (b lo : Nat) : Prop := lo ≤ b ∧ ∃ ao n c, ∃ k : Nat, ∃ h : Int, w.heap[b]? = some (.cells #[.slice ao n c, .int .i64 k, .int .i64 h] 88 (0, 0)) ∧ k ≤ n ∧ n ≤ 1099511627776 ∧
  ∀ i, i < n → ∃ q o x, ao = some ⟨q, o, none⟩ ∧ q < lo ∧ w.cell? ⟨q, o + i, none⟩ = some (.int .u8 x) ∧ 0 ≤ x ∧ x ≤ 255
theorem Cur.lt {w : World} {b lo : Nat} (h : Cur w b lo) : lo ≤ b ∧ b < w.heap.size := by
  obtain ⟨h1, ao, n, c, k, x, hh, _⟩ := h
  exact ⟨h1, (Array.getElem?_eq_some_iff.1 hh).1⟩
theorem Cur.drewN {w : World} {b lo : Nat} (h : Cur w b lo) (n : Nat) : Cur (w.drewN n) b lo := h
theorem Cur.keep {w w' : World} {b lo : Nat} (h : Cur w b lo) (hb : Below w.heap.size w w') : Cur w' b lo := by
  have hl := h.lt
  obtain ⟨h1, ao, n, c, k, x, hh, h2, h3, h4⟩ := h
  refine ⟨h1, ao, n, c, k, x, (hb.block b hl.2).trans hh, h2, h3, fun i hi => ?_⟩
  obtain ⟨q, o, y, e, hq, hc, hy⟩ := h4 i hi
  exact ⟨q, o, y, e, hq, (hb.cell (p := ⟨q, o + i, none⟩) (World.block_lt_of_cell? w _ hc)).trans hc, hy⟩
theorem Cur.grown {w w' : World} {b lo : Nat} {row : Option Nat} (h : Cur w b lo) (hb : w.grownBy w' row) (hr : ∀ g, row = some g → b < g) : Cur w' b lo := by
  have hl := h.lt
  obtain ⟨h1, ao, n, c, k, x, hh, h2, h3, h4⟩ := h
  refine ⟨h1, ao, n, c, k, x, (hb.block b hl.2 (fun e => by have := hr b e.symm; omega)).trans hh, h2, h3, fun i hi => ?_⟩
  obtain ⟨q, o, y, e, hq, hc, hy⟩ := h4 i hi
  refine ⟨q, o, y, e, hq, ?_, hy⟩
  have := hb.block q (by omega) (fun e => by have := hr q e.symm; omega)
  unfold World.cell? at hc ⊢
  simp only at hc ⊢
  rw [this]
  exact hc
theorem heap_cells {w : World} {b : Nat} {cs : Array Value} {t : TypeId} (h : w.heap[b]? = some (.cells cs t (0, 0))) (i : Nat) : w.cell? ⟨b, i, none⟩ = cs[i]? ∧ w.frozen? ⟨b, i, none⟩ = false := by
  constructor
  · simp [World.cell?, h]
  · simp [World.frozen?, h]
/-- One cell of the cursor is written. -/
theorem Cur.wrote {w : World} {b lo : Nat} {ao : Option Addr} {n c : Nat} {k : Nat} {h : Int} (h1 : lo ≤ b) (hh : w.heap[b]? = some (.cells #[.slice ao n c, .int .i64 k, .int .i64 h] 88 (0, 0))) (h2 : k ≤ n) (h3 : n ≤ 1099511627776)
    (h4 : ∀ i, i < n → ∃ q o x, ao = some ⟨q, o, none⟩ ∧ q < lo ∧ w.cell? ⟨q, o + i, none⟩ = some (.int .u8 x) ∧ 0 ≤ x ∧ x ≤ 255) (j : Nat) (u : Value) :
    (w.setCell ⟨b, j, none⟩ u).heap[b]? = some (.cells (#[.slice ao n c, .int .i64 k, .int .i64 h].setIfInBounds j u) 88 (0, 0)) ∧
    (∀ i, i < n → ∃ q o x, ao = some ⟨q, o, none⟩ ∧ q < lo ∧ (w.setCell ⟨b, j, none⟩ u).cell? ⟨q, o + i, none⟩ = some (.int .u8 x) ∧ 0 ≤ x ∧ x ≤ 255) ∧ w.grownBy (w.setCell ⟨b, j, none⟩ u) (some b) := by
  refine ⟨heap_setCell_same w b j _ _ u hh, fun i hi => ?_, only_setCell (World.grownBy.refl w _) rfl u⟩
  obtain ⟨q, o, x, e, hq, hc, hx⟩ := h4 i hi
  exact ⟨q, o, x, e, hq, (World.cell?_setCell_far w _ _ u (by show b ≠ q; omega)).trans hc, hx⟩
theorem and255 (n : Int) : 0 ≤ bits .and .i64 n 255 ∧ bits .and .i64 n 255 ≤ 255 := by
  have h255 : (BitVec.ofInt 64 255).toNat = 2 ^ 8 - 1 := by decide
  have key : (BitVec.ofInt 64 n &&& BitVec.ofInt 64 255).toNat = (BitVec.ofInt 64 n).toNat % 2 ^ 8 := by
    rw [BitVec.toNat_and, h255, Nat.and_two_pow_sub_one_eq_mod]
  have e : bits .and .i64 n 255 = (((BitVec.ofInt 64 n).toNat % 2 ^ 8 : Nat) : Int) := by
    show IntKind.i64.wrap ((BitVec.ofInt 64 n &&& BitVec.ofInt 64 255).toNat : Nat) = _
    rw [key, IntKind.wrap_i64]
    omega
  rw [e]
  omega
theorem grown_drewN {w w' : World} {row : Option Nat} (h : w.grownBy w' row) (n : Nat) : w.grownBy (w'.drewN n) row := ⟨h.os, h.tape, h.output, h.size, h.block⟩
theorem grown_of_below {w w' : World} {row : Option Nat} (h : Below w.heap.size w w') : w.grownBy w' row := ⟨h.os, h.tape, h.output, h.size, fun k hk _ => h.block k hk⟩
theorem below_of_grown {w w' : World} {b B : Nat} (h : w.grownBy w' (some b)) (hB : B ≤ b) (hs : B ≤ w.heap.size) : Below B w w' := ⟨h.os, h.tape, h.output, h.size, fun k hk => h.block k (by omega) (fun e => by injection e; omega)⟩
theorem OInts.away {w w' : World} {lo n b : Nat} {v : Value} {xs : List Int} (h : OInts w lo v n xs) (hg : w.grownBy w' (some b)) (hb : b < lo) : OInts w' lo v n xs := by
  refine h.grown hg ?_
  cases hv : v.ownBlock with
  | none => exact .inl rfl
  | some g => right; intro e; injection e with e; have := h.ownlt g hv; omega
theorem OIntss.away {w w' : World} {lo n b : Nat} {v : Value} {xss : List (List Int)} (h : OIntss w lo v n xss) (hg : w.grownBy w' (some b)) (hb : b < lo) : OIntss w' lo v n xss :=
  h.since ⟨hg.size, fun k h1 h2 => hg.block k h2 (fun e => by injection e; omega)⟩
theorem OInts.lit_ {w : World} {lo n : Nat} {xs : List Int} {arr : Array Value} (hlo : lo ≤ w.heap.size) (ha : arr.toList = xs.map (.int .i64)) (hn : xs.length = n) (hm : n ≤ 1048576) : OInts (w.alloc (.cells arr 3)) lo (.slice (some ⟨w.heap.size, 0, none⟩) n n) n xs := by
  have hs : arr.size = n := by have := congrArg List.length ha; simpa [hn] using this
  refine ⟨by omega, ?_⟩
  have h := World.ownsRow_lit (base := lo) (e := 3) (size := 1) w arr n hlo (by unfold maxLen; omega) (by omega)
  rw [ha] at h
  exact h
theorem OIntss.lit {W : World} {lo n : Nat} {vs : List Value} {xss : List (List Int)} {arr : Array Value} (hlo : lo ≤ W.heap.size) (ha : arr.toList = vs) (hn : vs.length = n) (hl : xss.length = n) (hm : n ≤ 1048576)
    (hr : ∀ (i : Nat) (u : Value) (r : List Int), vs[i]? = some u → xss[i]? = some r → OInts W lo u r.length r)
    (hd : ∀ (i j : Nat) (u u' : Value), i ≠ j → vs[i]? = some u → vs[j]? = some u' → u.ownBlock = none ∨ u.ownBlock ≠ u'.ownBlock) :
    OIntss (W.alloc (.cells arr 34)) lo (.slice (some ⟨W.heap.size, 0, none⟩) n n) n xss := by
  have hs : arr.size = n := by have := congrArg List.length ha; simpa [hn] using this
  have h := World.ownsRow_lit (base := lo) (e := 34) (size := 1) W arr n hlo (by unfold maxLen; omega) (by omega)
  rw [ha] at h
  exact ⟨by omega, hl, vs, h, fun i u r hu hx => (hr i u r hu hx).alloc _, hd⟩
theorem OIntss.lit2 {W : World} {lo : Nat} {u0 u1 : Value} {r0 r1 : List Int} (hlo : lo ≤ W.heap.size) (h0 : OInts W lo u0 r0.length r0) (h1 : OInts W lo u1 r1.length r1) (hne : u0.ownBlock ≠ u1.ownBlock) :
    OIntss (W.alloc (.cells #[u0, u1] 34)) lo (.slice (some ⟨W.heap.size, 0, none⟩) 2 2) 2 [r0, r1] := by
  refine OIntss.lit (vs := [u0, u1]) hlo rfl rfl rfl (by omega) (fun i u r hu hx => ?_) (fun i j u u' hij hu hu' => ?_)
  · match i, hu, hx with
    | 0, hu, hx => simp at hu hx; subst hu; subst hx; exact h0
    | 1, hu, hx => simp at hu hx; subst hu; subst hx; exact h1
    | i + 2, hu, _ => simp at hu
  · match i, j, hij, hu, hu' with
    | 0, 0, hij, _, _ => exact absurd rfl hij
    | 1, 1, hij, _, _ => exact absurd rfl hij
    | 0, 1, _, hu, hu' => simp at hu hu'; subst hu; subst hu'; exact .inr hne
    | 1, 0, _, hu, hu' => simp at hu hu'; subst hu; subst hu'; exact .inr (fun e => hne e.symm)
    | i + 2, _, _, hu, _ => simp at hu
    | 0, j + 2, _, _, hu' => simp at hu'
    | 1, j + 2, _, _, hu' => simp at hu'
end Go.Proofs.YtonfdiaefkghbaaGreatDoor

namespace Go.Proofs.YtonfdiaefkghbaaGreatDoor
open Go.RowKit
set_option linter.all false
theorem heap_new (w : World) (o : Obj) : (w.alloc o).heap[w.heap.size]? = some o := by
  show (w.heap.push o)[w.heap.size]? = some o
  simp
theorem cur_new {w : World} {ao : Option Addr} {n c : Nat} {y : Int} {e : Ending} (h : Bytes w ao n) (he : e = .returned (.pointer (some ⟨w.heap.size, 0, none⟩))) :
    e = .returned (.pointer (some ⟨w.heap.size, 0, none⟩)) ∧ Cur (w.alloc (.cells #[.slice ao n c, .int .i64 0, .int .i64 y] 88)) w.heap.size w.heap.size ∧ Below w.heap.size w (w.alloc (.cells #[.slice ao n c, .int .i64 0, .int .i64 y] 88)) := by
  have hb := (Below.refl w.heap.size w).alloc (Nat.le_refl _) (.cells #[.slice ao n c, .int .i64 0, .int .i64 y] 88)
  refine ⟨he, ⟨Nat.le_refl _, ao, n, c, 0, y, heap_new _ _, Nat.zero_le _, h.1, fun i hi => ?_⟩, hb⟩
  obtain ⟨b, o, x, e, hc, hx⟩ := h.2 i hi
  have hl := World.block_lt_of_cell? w _ hc
  exact ⟨b, o, x, e, hl, (hb.cell (p := ⟨b, o + i, none⟩) hl).trans hc, hx⟩
set_option maxHeartbeats 1600000 in
theorem l1New_any (ao : Option Addr) (n c : Nat) (w : World) (h : Bytes w ao n) :
    Calls Tryz.prog 72 #[.slice ao n c] w fun e w' => e = .returned (.pointer (some ⟨w.heap.size, 0, none⟩)) ∧ Cur w' w.heap.size w.heap.size ∧ Below w.heap.size w w' := by
  have hm := h.1
  have H := Lib.hid h
  clear h
  go_enter Tryz.func72, Tryz.ntmps72
  go_wp2_with fail
  go_loop [3, 4] (fun vh x => ∃ (k : Nat) (y : Int), k ≤ n ∧ x = .int .i64 k ∧ vh = .int .i64 y) (fun _ x => n - (intOf x).toNat)
  case atStart => exact ⟨0, _, Nat.zero_le _, rfl, rfl⟩
  case round =>
    obtain ⟨k, y, hk, rfl, rfl⟩ := hrel
    by_cases hlt : k < n
    · by_cases h4 : (k : Int) < 4000
      · have hd : decide ((k : Int) < 4000) = true := by simpa using h4
        obtain ⟨b, o, x, rfl, hc, hx0, hx1⟩ := H.out.2 k hlt
        clear h4
        go_wp2_with fail
        go_round
        case rel => exact ⟨k + 1, _, hlt, by go_num, rfl⟩
        case measure => simp [intOf]; omega
      · have hd : decide ((k : Int) < 4000) = false := by simpa using h4
        clear h4
        go_wp2_with fail
        go_ret
        exact cur_new H.out rfl
    · go_wp2_with fail
      go_ret
      exact cur_new H.out rfl
theorem grown_setdrew {w w' : World} {row : Option Nat} {p : Addr} {u : Value} (h : w.grownBy (w'.setCell p u) row) (n : Nat) : w.grownBy ((w'.drewN n).setCell p u) row := ⟨h.os, h.tape, h.output, h.size, h.block⟩
theorem byte_fin {n : Int} {e : Ending} {w w' : World} {c lo : Nat} (hc : Cur w' c lo) (hg : w.grownBy w' (some c)) (he : e = .returned (.int .i64 (bits .and .i64 n 255))) :
    ∃ x : Nat, x ≤ 255 ∧ e = .returned (.int .i64 x) ∧ Cur w' c lo ∧ w.grownBy w' (some c) := by
  have h := and255 n
  refine ⟨(bits .and .i64 n 255).toNat, by omega, ?_, hc, hg⟩
  rw [he]
  congr 2
  omega
set_option maxHeartbeats 3200000 in
theorem l1Byte_any (b lo : Nat) (w : World) (h : Cur w b lo) :
    Calls Tryz.prog 124 #[.pointer (some ⟨b, 0, none⟩)] w fun e w' => ∃ x : Nat, x ≤ 255 ∧ e = .returned (.int .i64 x) ∧ Cur w' b lo ∧ w.grownBy w' (some b) := by
  obtain ⟨h1, ao, n, c, k, y, hh, h2, h3, h4⟩ := h
  have hc0 := (heap_cells hh 0).1
  have hc1 := (heap_cells hh 1).1
  have hc2 := (heap_cells hh 2).1
  have hf1 := (heap_cells hh 1).2
  have hf2 := (heap_cells hh 2).2
  simp only [List.getElem?_toArray, List.getElem?_cons_zero, List.getElem?_cons_succ] at hc0 hc1 hc2
  have HW := Lib.hid (Cur.wrote h1 hh h2 h3 h4 2 (.int .i64 (wrap64 (wrap64 (y * 6364136223846793005) + 1442695040888963407))))
  have H4 := Lib.hid h4
  have HH := Lib.hid hh
  clear hh h4
  by_cases hk : (k : Int) < (n : Int)
  · have hd : decide ((k : Int) < (n : Int)) = true := by simpa using hk
    have hkn : k < n := by omega
    go_enter Tryz.func124, Tryz.ntmps124
    go_wp2_with fail
    generalize w.setCell ⟨b, 2, none⟩ (.int .i64 (wrap64 (wrap64 (y * 6364136223846793005) + 1442695040888963407))) = W1 at HW ⊢
    generalize wrap64 (wrap64 (y * 6364136223846793005) + 1442695040888963407) = y1 at HW ⊢
    clear hc0 hc1 hc2 hf1 hf2 H4 HH
    obtain ⟨hh, h4, hg⟩ := HW.out
    simp only [List.setIfInBounds_toArray, List.set_cons_succ, List.set_cons_zero] at hh
    have hc0 := (heap_cells hh 0).1
    have hc1 := (heap_cells hh 1).1
    have hc2 := (heap_cells hh 2).1
    have hf1 := (heap_cells hh 1).2
    simp only [List.getElem?_toArray, List.getElem?_cons_zero, List.getElem?_cons_succ] at hc0 hc1 hc2
    have HW2 := Lib.hid (Cur.wrote h1 hh h2 h3 h4 1 (.int .i64 ((k : Int) + 1)))
    have HG := Lib.hid hg
    obtain ⟨q, o, x, rfl, hq, hcx, hx0, hx1⟩ := h4 k hkn
    clear hh h4 hg HW
    go_quiet (fail)
    go_wp2_with fail
    go_quiet (fail)
    go_wp2_with fail
    go_quiet (fail)
    go_wp2_with fail
    go_ret
    refine byte_fin (c := b) (w := w) ?_ ?_ rfl
    · exact (Cur.drewN ⟨h1, _, n, c, k + 1, y1, HW2.out.1, hkn, h3, HW2.out.2.1⟩ 3)
    · exact grown_setdrew (HG.out.trans HW2.out.2.2) _
  · have hd : decide ((k : Int) < (n : Int)) = false := by simpa using hk
    go_enter Tryz.func124, Tryz.ntmps124
    go_wp2_with fail
    generalize w.setCell ⟨b, 2, none⟩ (.int .i64 (wrap64 (wrap64 (y * 6364136223846793005) + 1442695040888963407))) = W1 at HW ⊢
    generalize wrap64 (wrap64 (y * 6364136223846793005) + 1442695040888963407) = y1 at HW ⊢
    clear hc0 hc1 hc2 hf1 hf2 H4 HH
    obtain ⟨hh, h4, hg⟩ := HW.out
    simp only [List.setIfInBounds_toArray, List.set_cons_succ, List.set_cons_zero] at hh
    have hc0 := (heap_cells hh 0).1
    have hc1 := (heap_cells hh 1).1
    have hc2 := (heap_cells hh 2).1
    simp only [List.getElem?_toArray, List.getElem?_cons_zero, List.getElem?_cons_succ] at hc0 hc1 hc2
    have HCu : Hid (Cur W1 b lo) := ⟨h1, ao, n, c, k, y1, hh, h2, h3, h4⟩
    have HG := Lib.hid hg
    clear hh h4 hg HW
    go_quiet (fail)
    go_wp2_with fail
    go_quiet (fail)
    go_wp2_with fail
    go_ret
    refine byte_fin (c := b) (w := w) ?_ ?_ rfl
    · exact HCu.out
    · exact grown_drewN (grown_drewN HG.out _) _
set_option maxHeartbeats 1600000 in
theorem l1Below_any (b lo n : Nat) (w : World) (h : Cur w b lo) (hn : 1 ≤ n) (hm : n ≤ 256) :
    Calls Tryz.prog 79 #[.pointer (some ⟨b, 0, none⟩), .int .i64 n] w fun e w' => ∃ x : Nat, x < n ∧ e = .returned (.int .i64 x) ∧ Cur w' b lo ∧ w.grownBy w' (some b) := by
  have H := Lib.hid h
  clear h
  have hd1 : decide ((n : Int) ≤ 0) = false := by simp; omega
  have hd2 : decide ((n : Int) ≤ 256) = true := by simp; omega
  go_enter Tryz.func79, Tryz.ntmps79
  go_wp2_with (go_at_call 124; refine (l1Byte_any b lo _ H.out).mono ?_; rintro e w1 ⟨x, hx, rfl, hc1, hg1⟩; have Hc1 := Lib.hid hc1; have Hg1 := Lib.hid hg1; clear hc1 hg1)
  go_ret
  exact ⟨x % n, Nat.mod_lt _ (by omega), ret_int (by simp), Hc1.out, Hg1.out⟩
set_option maxHeartbeats 800000 in
theorem l1Once_any (b lo n : Nat) (w : World) (h : Cur w b lo) (hn : 1 ≤ n) (hm : n ≤ 256) :
    Calls Tryz.prog 78 #[.pointer (some ⟨b, 0, none⟩), .int .i64 n] w fun e w' => ∃ t : Bool, e = .returned (.bool t) ∧ Cur w' b lo ∧ w.grownBy w' (some b) := by
  have H := Lib.hid h
  clear h
  go_enter Tryz.func78, Tryz.ntmps78
  go_wp2_with (go_at_call 79; refine (l1Below_any b lo n _ H.out hn hm).mono ?_; rintro e w1 ⟨x, hx, rfl, hc1, hg1⟩; have Hc1 := Lib.hid hc1; have Hg1 := Lib.hid hg1; clear hc1 hg1)
  go_ret
  exact ⟨_, rfl, Hc1.out, Hg1.out⟩
set_option maxHeartbeats 1600000 in
theorem l1PickInt_any (b lo lo' n cap : Nat) (ao : Option Addr) (xs : List Int) (w : World) (h : Cur w b lo) (ho : OInts w lo' (.slice ao n cap) n xs) (hb : b < lo') (hn : 1 ≤ n) (hm : n ≤ 256) :
    Calls Tryz.prog 95 #[.pointer (some ⟨b, 0, none⟩), .slice ao n cap] w fun e w' => ∃ x ∈ xs, e = .returned (.int .i64 x) ∧ Cur w' b lo ∧ w.grownBy w' (some b) := by
  have H := Lib.hid h
  have HO := Lib.hid ho
  clear h ho
  go_enter Tryz.func95, Tryz.ntmps95
  go_wp2_with (go_at_call 79; refine (l1Below_any b lo n _ H.out hn hm).mono ?_; rintro e w1 ⟨x, hx, rfl, hc1, hg1⟩; obtain ⟨q, o, y, rfl, hcy, hgy⟩ := ((HO.out.away hg1 hb).read).at_ hx; have Hc1 := Lib.hid hc1; have Hg1 := Lib.hid hg1; clear hc1 hg1)
  go_ret
  exact ⟨_, List.mem_of_getElem? hgy.out, rfl, Hc1.out, Hg1.out⟩
end Go.Proofs.YtonfdiaefkghbaaGreatDoor

namespace Go.Proofs.YtonfdiaefkghbaaGreatDoor
open Go.RowKit
set_option linter.all false
/- The decimal digits of a number, as both programs and the laws' marks write them. -/
def decB (u : Nat) : ByteArray := ⟨(Lib.decDigits u).toArray⟩
def dg (x : Nat) : List UInt8 := if x = 0 then [] else Lib.decDigits x
theorem dg_zero : dg 0 = [] := rfl
theorem dg_pos {x : Nat} (h : 0 < x) : dg x = Lib.decDigits x := by simp [dg]; omega
theorem ofNat48 (k : Nat) : UInt8.ofNat (48 + k) = 48 + UInt8.ofNat k := by rw [UInt8.ofNat_add]; rfl
theorem belowA (w : World) (o : Obj) : Below w.heap.size w (w.alloc o) := (Below.refl _ _).alloc (Nat.le_refl _) o
theorem dg_step {x : Nat} (h : 0 < x) : dg x = dg (x / 10) ++ [48 + UInt8.ofNat (x % 10)] := by
  rw [← ofNat48]
  rw [dg_pos h, Lib.decDigits]
  by_cases h10 : x < 10
  · rw [dif_pos h10, show x / 10 = 0 by omega, dg_zero, show x % 10 = x by omega]; rfl
  · rw [dif_neg h10, dg_pos (by omega)]
theorem dec_len {u : Nat} (h : u < 18446744073709551616) : (Lib.decDigits u).length ≤ 20 := by
  rw [Lib.decDigits_length]; exact Lib.nDigits_le20 u h
theorem decB_size {u : Nat} (h : u < 18446744073709551616) : (decB u).size ≤ 20 := by
  have := dec_len h
  simpa [decB, ByteArray.size] using this
def catB (b : UInt8) (o : ByteArray) : ByteArray := (⟨#[b]⟩ : ByteArray) ++ o
theorem catB_list (b : UInt8) (o : ByteArray) : (catB b o).data.toList = b :: o.data.toList := by simp [catB]
theorem catB_size (b : UInt8) (o : ByteArray) : (catB b o).size = o.size + 1 := by
  have h := congrArg List.length (catB_list b o)
  simp at h
  exact h
theorem dig_next {x : Nat} {o : ByteArray} {R : List UInt8} (hx : 0 < x) (h : dg x ++ o.data.toList = R) : dg (x / 10) ++ (catB (48 + UInt8.ofNat (x % 10)) o).data.toList = R := by
  rw [dg_step hx] at h
  rw [catB_list, ← h]
  simp
theorem dig_done {o : ByteArray} {u : Nat} (hu : 0 < u) (h : dg 0 ++ o.data.toList = dg u) : o = decB u := by
  rw [dg_zero, dg_pos hu] at h
  apply ByteArray.ext
  apply Array.ext'
  simpa [decB] using h
theorem dig_size {x u : Nat} {o : ByteArray} (hu : u < 18446744073709551616) (h : dg x ++ o.data.toList = dg u) : o.size ≤ 20 := by
  have h2 := congrArg List.length h
  have h3 : (dg u).length ≤ 20 := by
    by_cases h0 : u = 0
    · rw [h0, dg_zero]; exact Nat.zero_le _
    · rw [dg_pos (by omega)]; exact dec_len hu
  simp only [List.length_append] at h2
  have h4 : o.data.toList.length = o.size := Array.length_toList
  omega
/-- One byte made a string. -/
theorem conv_one (w : World) (z : Int) (t : TypeId) : (convert 22 9 (.slice (some ⟨w.heap.size, 0, none⟩) 1 1)).run Tryz.prog (w.alloc (.cells #[.int .u8 z] t)) = .ok (.string ⟨#[UInt8.ofNat z.toNat]⟩) (w.alloc (.cells #[.int .u8 z] t)) := by
  rw [run_convert_bytes_string _ 22 9 5 _ _ _ Tryz.underlying22 Tryz.underlying5 Tryz.underlying9]
  have hc := run_loadCells_list (P := Tryz.prog) (w.alloc (.cells #[.int .u8 z] t)) ⟨w.heap.size, 0, none⟩ (([z] : List Int).map (Value.int .u8)) (by
    intro j u hu
    match j, hu with
    | 0, hu =>
      simp at hu
      subst hu
      exact World.cell?_alloc_new _ _ _ _)
  rw [run_bytesToString _ ⟨w.heap.size, 0, none⟩ 1 1 [z] hc]
  rfl
theorem ret_text {a b : ByteArray} (h : a = b) : Ending.returned (.string a) = .returned (.string b) := by rw [h]
end Go.Proofs.YtonfdiaefkghbaaGreatDoor

namespace Go.Proofs.YtonfdiaefkghbaaGreatDoor
open Go.RowKit
set_option linter.all false
/- Words for memory: a slice of strings. -/
theorem info_str : (Tryz.prog.info? 9).map (fun i => (i.zero, i.size, i.bytes)) = some (some (.string ⟨#[]⟩), 1, 16) := by kernel_rfl
def Strs (w : World) (ao : Option Addr) (n : Nat) (ss : List ByteArray) : Prop :=
  ss.length = n ∧ n ≤ 1099511627776 ∧ ∀ i s, ss[i]? = some s → ∃ b o, ao = some ⟨b, o, none⟩ ∧ w.cell? ⟨b, o + i, none⟩ = some (.string s)
theorem Strs.keep {w w' : World} {ao : Option Addr} {n : Nat} {ss : List ByteArray} (h : Strs w ao n ss) (hb : Below w.heap.size w w') : Strs w' ao n ss := by
  refine ⟨h.1, h.2.1, fun i s hi => ?_⟩
  obtain ⟨b, o, e, hc⟩ := h.2.2 i s hi
  exact ⟨b, o, e, (hb.cell (p := ⟨b, o + i, none⟩) (World.block_lt_of_cell? w _ hc)).trans hc⟩
theorem Strs.drewN {w : World} {ao : Option Addr} {n : Nat} {ss : List ByteArray} (h : Strs w ao n ss) (k : Nat) : Strs (w.drewN k) ao n ss := h
theorem Strs.at_ {w : World} {ao : Option Addr} {n k : Nat} {ss : List ByteArray} (h : Strs w ao n ss) (hk : k < n) :
    ∃ b o s, ao = some ⟨b, o, none⟩ ∧ w.cell? ⟨b, o + k, none⟩ = some (.string s) ∧ Hid (ss[k]? = some s) := by
  have hl : k < ss.length := by rw [h.1]; exact hk
  obtain ⟨b, o, e, hc⟩ := h.2.2 k _ (List.getElem?_eq_getElem hl)
  exact ⟨b, o, _, e, hc, List.getElem?_eq_getElem hl⟩
def OStrs (w : World) (lo : Nat) (v : Value) (n : Nat) (ss : List ByteArray) : Prop := n ≤ 1099511627776 ∧ w.ownsRow lo 9 1 v n (ss.map Value.string)
section
variable {w w' : World} {lo n : Nat} {v : Value} {ss : List ByteArray}
theorem OStrs.len (h : OStrs w lo v n ss) : ss.length = n := by simpa using h.2.1
theorem OStrs.keep (h : OStrs w lo v n ss) (hb : Below w.heap.size w w') : OStrs w' lo v n ss := ⟨h.1, own_keep h.2 hb⟩
theorem OStrs.grown {row : Option Nat} (h : OStrs w lo v n ss) (hg : w.grownBy w' row) (hne : v.ownBlock = none ∨ v.ownBlock ≠ row) : OStrs w' lo v n ss := ⟨h.1, h.2.kept hg hne⟩
theorem OStrs.alloc (h : OStrs w lo v n ss) (o : Obj) : OStrs (w.alloc o) lo v n ss := ⟨h.1, h.2.alloc o⟩
theorem OStrs.drewN (h : OStrs w lo v n ss) (k : Nat) : OStrs (w.drewN k) lo v n ss := h
theorem OStrs.ownlt (h : OStrs w lo v n ss) : ∀ k, v.ownBlock = some k → lo ≤ k ∧ k < w.heap.size := h.2.lt
theorem OStrs.mono {lo' : Nat} (h : OStrs w lo v n ss) (hl : lo' ≤ lo) : OStrs w lo' v n ss := by
  refine ⟨h.1, h.2.1, ?_⟩
  rcases h.2.2 with h2 | ⟨g, cap, cur, hv, hg, r⟩
  · exact .inl h2
  · exact .inr ⟨g, cap, cur, hv, Nat.le_trans hl hg, r⟩
theorem OStrs.form (h : OStrs w lo v n ss) : ∃ ao cap, v = .slice ao n cap ∧ Strs w ao n ss := by
  have hl := h.len
  rcases h.2.2 with ⟨rfl, rfl⟩ | ⟨g, cap, cur, rfl, hg, hh, hnc, _, _, ht⟩
  · exact ⟨none, 0, rfl, hl, h.1, fun i s hi => by rw [List.eq_nil_of_length_eq_zero hl] at hi; simp at hi⟩
  · refine ⟨some ⟨g, 0, none⟩, cap, rfl, hl, h.1, fun i s hi => ⟨g, 0, rfl, ?_⟩⟩
    have hc := h.2.cells (g := g) rfl i (.string s) (by simp [hi])
    rw [Addr.add_lit] at hc
    simpa using hc
theorem OStrs.capLe {m cap : Nat} {ao : Option Addr} (h : OStrs w lo v n ss) (e : v = .slice ao m cap) : n ≤ cap := by
  rcases h.2.2 with ⟨rfl, rfl⟩ | ⟨g, c, cur, rfl, _, _, hnc, _⟩
  · exact Nat.zero_le _
  · injection e with _ _ e3
    omega
theorem OStrs.head (h : OStrs w lo v n ss) (hn : 0 < n) : ∃ g cap, v = .slice (some ⟨g, 0, none⟩) n cap := by
  rcases h.2.2 with ⟨_, h0⟩ | ⟨g, cap, cur, e, _⟩
  · omega
  · exact ⟨g, cap, e⟩
theorem OStrs.none_ (w : World) (lo : Nat) : OStrs w lo (.slice none 0 0) 0 [] := ⟨by omega, by simp, .inl ⟨rfl, rfl⟩⟩
theorem OStrs.empty (w : World) (lo : Nat) (hlo : lo ≤ w.heap.size) : OStrs (w.alloc (.cells #[] 9)) lo (.slice (some ⟨w.heap.size, 0, none⟩) 0 0) 0 [] :=
  ⟨by omega, World.ownsRow_made (base := lo) (e := 9) (size := 1) w #[] 0 hlo (by unfold maxLen; omega) rfl⟩
end
section
variable {w w' : World} {lo g n cap : Nat} {ss : List ByteArray}
theorem OStrs.read {ao : Option Addr} (h : OStrs w lo (.slice ao n cap) n ss) : Strs w ao n ss := by
  obtain ⟨ao', cap', e, hi⟩ := h.form
  injection e with e1
  subst e1
  exact hi
theorem OStrs.two {ao : Option Addr} (h : OStrs w lo (.slice ao n cap) n ss) : (ao = none ∧ n = 0) ∨ ∃ g, ao = some ⟨g, 0, none⟩ := by
  rcases h.2.2 with ⟨e, hn⟩ | ⟨g, c, cur, e, _⟩
  · injection e with e1
    exact .inl ⟨e1, hn⟩
  · injection e with e1
    exact .inr ⟨g, e1⟩
theorem OStrs.lt (h : OStrs w lo (.slice (some ⟨g, 0, none⟩) n cap) n ss) : lo ≤ g ∧ g < w.heap.size := h.2.lt g rfl
theorem OStrs.frozen (h : OStrs w lo (.slice (some ⟨g, 0, none⟩) n cap) n ss) (k : Nat) : w.frozen? ⟨g, k, none⟩ = false := h.2.frozenAt k
theorem OStrs.cell (h : OStrs w lo (.slice (some ⟨g, 0, none⟩) n cap) n ss) {k : Nat} {s : ByteArray} (hk : ss[k]? = some s) : w.cell? ⟨g, k, none⟩ = some (.string s) := by
  obtain ⟨b, o, e, hc⟩ := h.read.2.2 k s hk
  injection e with e
  injection e with e1 e2
  subst e1
  subst e2
  simpa using hc
theorem OStrs.set (h : OStrs w lo (.slice (some ⟨g, 0, none⟩) n cap) n ss) (k : Nat) (s : ByteArray) : OStrs (w.setCell ⟨g, k, none⟩ (.string s)) lo (.slice (some ⟨g, 0, none⟩) n cap) n (ss.set k s) := by
  refine ⟨h.1, ?_⟩
  rw [List.map_set]
  exact (h.2.stored k _).1
end
theorem wp_push_str {o : Oper} {a : Act} {K0 : Act → World → Prop} {Q : Exit → Act → World → Prop} (W : World) (y : ByteArray) (s x : Operand)
    (ho : o.op = .call { callee := .builtin .append, args := #[s, x], argTypes := #[32, 32] })
    (lo : Nat) (v : Value) (n : Nat) (xs : List ByteArray) (hs : a.eval s = v) (h : OStrs W lo v n xs) (hn : n + 1 ≤ 1099511627776) (hlo : lo ≤ W.heap.size)
    (tb : Nat) (htb : tb = W.heap.size) (hx : a.eval x = .slice (some ⟨tb, 0, none⟩) 1 1)
    (K : ∀ v' w', OStrs w' lo v' (n + 1) (xs ++ [y]) → Below lo W w' → K0 (a.put o.dst v') w') : o.wp Tryz.prog a (W.alloc (.cells #[.string y] 9)) K0 Q := by
  subst htb
  obtain ⟨i0, hi, hz0, hz1, hz2⟩ := info_parts info_str
  refine wp_append_own _ s x 32 ho lo 9 i0 (.string ⟨#[]⟩) 1 16 Tryz.underlying32 hi hz0 hz1 hz2 rfl (by decide) v n _ hs (h.alloc _).2 ⟨W.heap.size, 0, none⟩ 1 1 [.string y] hx rfl ?_ ?_ ?_ ?_ (by simp; omega) ?_
  · intro j u' hj
    match j, hj with
    | 0, hj =>
      simp at hj
      subst hj
      exact World.cell?_alloc_new _ _ _ _
  · intro u' hu'
    simp at hu'
    subst hu'
    rfl
  · unfold maxLen; omega
  · omega
  · intro v' w' hown hgrow _
    refine K v' w' ⟨hn, ?_⟩ (((Below.refl lo W).alloc hlo _).grown hgrow (by simp; omega) (fun k hk => (h.ownlt k hk).1))
    rw [List.map_append]
    exact hown
theorem wpList_push_str {ops : Array Oper} {rest : List Oper} {o : Oper} {a : Act} {Q : Exit → Act → World → Prop} (W : World) (y : ByteArray) (hgd : o.guard = none) (s x : Operand)
    (ho : o.op = .call { callee := .builtin .append, args := #[s, x], argTypes := #[32, 32] })
    (lo : Nat) (v : Value) (n : Nat) (xs : List ByteArray) (hs : a.eval s = v) (h : OStrs W lo v n xs) (hn : n + 1 ≤ 1099511627776) (hlo : lo ≤ W.heap.size)
    (tb : Nat) (htb : tb = W.heap.size) (hx : a.eval x = .slice (some ⟨tb, 0, none⟩) 1 1)
    (K : ∀ v' w', OStrs w' lo v' (n + 1) (xs ++ [y]) → Below lo W w' → wpList Tryz.prog ops Q rest (a.put o.dst v') w') : wpList Tryz.prog ops Q (o :: rest) a (W.alloc (.cells #[.string y] 9)) := by
  refine wpList_plain hgd fun K' hK => ?_
  exact wp_push_str W y s x ho lo v n xs hs h hn hlo tb htb hx fun v' w' h1 h2 => hK _ _ (K v' w' h1 h2)
theorem OStrs.lit (w : World) (lo : Nat) (ss : List ByteArray) (hlo : lo ≤ w.heap.size) (hn : ss.length ≤ 1048576) : OStrs (w.alloc (.cells (ss.map Value.string).toArray 9)) lo (.slice (some ⟨w.heap.size, 0, none⟩) ss.length ss.length) ss.length ss := by
  refine ⟨by omega, ?_⟩
  have h := World.ownsRow_lit (base := lo) (e := 9) (size := 1) w (ss.map Value.string).toArray ss.length hlo (by unfold maxLen; omega) (by simp)
  simpa using h
theorem OStrs.far {w w' : World} {lo n : Nat} {u v : Value} {ss : List ByteArray} (h : OStrs w lo u n ss) (hg : w.grownBy w' v.ownBlock) (ha : Apart u v) : OStrs w' lo u n ss := h.grown hg ha.ne
theorem wpList_push_strAt {ops : Array Oper} {rest : List Oper} {o : Oper} {a : Act} {Q : Exit → Act → World → Prop} (W : World) (y : ByteArray) (hgd : o.guard = none) (s x : Operand)
    (ho : o.op = .call { callee := .builtin .append, args := #[s, x], argTypes := #[32, 32] })
    (lo : Nat) (v : Value) (n : Nat) (xs : List ByteArray) (hs : a.eval s = v) (h : OStrs W lo v n xs) (hn : n + 1 ≤ 1099511627776) (hlo : lo ≤ W.heap.size)
    (tb : Nat) (htb : tb = W.heap.size) (hx : a.eval x = .slice (some ⟨tb, 0, none⟩) 1 1)
    (K : ∀ v' w', OStrs w' lo v' (n + 1) (xs ++ [y]) → W.grownBy w' v.ownBlock → NewOr W.heap.size v v' → wpList Tryz.prog ops Q rest (a.put o.dst v') w') : wpList Tryz.prog ops Q (o :: rest) a (W.alloc (.cells #[.string y] 9)) := by
  refine wpList_plain hgd fun K' hK => ?_
  subst htb
  obtain ⟨i0, hi, hz0, hz1, hz2⟩ := info_parts info_str
  obtain ⟨v', w', hr, h2, h3, _, h5⟩ := run_append_own_at (P := Tryz.prog) (W.alloc (.cells #[.string y] 9)) lo 32 o.type 9 i0 (.string ⟨#[]⟩) 1 16 Tryz.underlying32 hi hz0 hz1 hz2 rfl (by decide) v n _ (h.alloc _).2 ⟨W.heap.size, 0, none⟩ 1 1 [.string y] rfl
    (by
      intro j u' hj
      match j, hj with
      | 0, hj =>
        simp at hj
        subst hj
        exact World.cell?_alloc_new _ _ _ _) (by intro u hu; simp at hu; subst hu; rfl) (by unfold maxLen; omega) (by omega) (by simp; omega)
  unfold Oper.wp execOp
  simp only [ho, resolve, invoke, builtin, Sem.run_bind, Sem.run_pure, Result.andThen_ok, List.map_toArray, List.map_cons, List.map_nil, hs, hx, hr]
  refine hK _ _ (K v' w' ⟨hn, ?_⟩ ((grown_alloc W _ _).trans h3) ?_)
  · rw [List.map_append]; exact h2
  · rcases h5 with h5 | h5
    · exact .inl h5
    · exact .inr ⟨_, h5, by simp⟩
end Go.Proofs.YtonfdiaefkghbaaGreatDoor

namespace Go.Proofs.YtonfdiaefkghbaaGreatDoor
open Go.RowKit
set_option linter.all false
def u8C (B : List UInt8) : List Value := B.map fun b => Value.int .u8 (b.toNat : Int)
def OB (w : World) (lo : Nat) (v : Value) (B : List UInt8) : Prop := B.length ≤ 1099511627776 ∧ w.ownsRow lo 5 1 v B.length (u8C B)
theorem info_u8 : (Tryz.prog.info? 5).map (fun i => (i.zero, i.size, i.bytes)) = some (some (.int .u8 0), 1, 1) := by kernel_rfl
section
variable {w w' : World} {lo : Nat} {v : Value} {B : List UInt8}
theorem OB.keep (h : OB w lo v B) (hb : Below w.heap.size w w') : OB w' lo v B := ⟨h.1, own_keep h.2 hb⟩
theorem OB.alloc (h : OB w lo v B) (o : Obj) : OB (w.alloc o) lo v B := ⟨h.1, h.2.alloc o⟩
theorem OB.ownlt (h : OB w lo v B) : ∀ k, v.ownBlock = some k → lo ≤ k ∧ k < w.heap.size := h.2.lt
theorem OB.form (h : OB w lo v B) : ∃ ao cap, v = .slice ao B.length cap := by
  rcases h.2.2 with ⟨rfl, h0⟩ | ⟨g, cap, cur, rfl, _⟩
  · exact ⟨none, 0, by rw [h0]⟩
  · exact ⟨some ⟨g, 0, none⟩, cap, rfl⟩
theorem OB.empty (w : World) (lo : Nat) (hlo : lo ≤ w.heap.size) : OB (w.alloc (.cells #[] 5)) lo (.slice (some ⟨w.heap.size, 0, none⟩) 0 0) [] :=
  ⟨Nat.zero_le _, World.ownsRow_made (base := lo) (e := 5) (size := 1) w #[] 0 hlo (by unfold maxLen; omega) rfl⟩
end
theorem u8C_app (A B : List UInt8) : u8C (A ++ B) = u8C A ++ u8C B := by simp [u8C]
theorem u8C_str (s : ByteArray) : u8C s.data.toList = Lib.strCells s := rfl
theorem fold_u8 : ∀ (B : List UInt8) (s : ByteArray), (B.map fun b => (b.toNat : Int)).foldl (fun r n => r.push (UInt8.ofNat n.toNat)) s = ⟨s.data ++ B.toArray⟩
  | [], s => by simp
  | b :: r, s => by
    rw [List.map_cons, List.foldl_cons, fold_u8 r]
    simp [ByteArray.push]
theorem conv_u8 (w : World) (lo : Nat) (v : Value) (B : List UInt8) (h : OB w lo v B) : (convert 22 9 v).run Tryz.prog w = .ok (.string ⟨B.toArray⟩) w := by
  rcases h.2.2 with ⟨rfl, h0⟩ | ⟨g, cap, cur, rfl, _⟩
  · have e : B = [] := List.eq_nil_of_length_eq_zero h0
    subst e
    rw [run_convert_bytes_string w 22 9 5 _ _ _ Tryz.underlying22 Tryz.underlying5 Tryz.underlying9]
    simp [Conv.bytesToString]
    rfl
  · rw [run_convert_bytes_string w 22 9 5 _ _ _ Tryz.underlying22 Tryz.underlying5 Tryz.underlying9]
    have e : u8C B = (B.map fun b => (b.toNat : Int)).map (Value.int .u8) := by simp [u8C]
    have hc := run_loadCells_list (P := Tryz.prog) w ⟨g, 0, none⟩ ((B.map fun b => (b.toNat : Int)).map (Value.int .u8)) (fun j u hu => h.2.cells (g := g) rfl j u (by rw [e]; exact hu))
    rw [List.length_map, List.length_map] at hc
    rw [run_bytesToString w ⟨g, 0, none⟩ B.length cap (B.map fun b => (b.toNat : Int)) hc, fold_u8]
    simp [ByteArray.empty, ByteArray.emptyWithCapacity]
    rfl
/-- Pieces joined. -/
def joinB (ss : List ByteArray) (sep : ByteArray) : ByteArray := ⟨(Lib.join (ss.map (·.data.toList)) sep.data.toList).toArray⟩
def toCome (sep : ByteArray) (k : Nat) (ss : List ByteArray) : List UInt8 :=
  if k = 0 then Lib.join (ss.map (·.data.toList)) sep.data.toList else Lib.joinTail sep.data.toList (ss.map (·.data.toList))
theorem toCome_first {sep s : ByteArray} {ss : List ByteArray} {R : List UInt8} (hs : ss[0]? = some s) (h : [] ++ toCome sep 0 (ss.drop 0) = R) : ([] ++ s.data.toList) ++ toCome sep 1 (ss.drop 1) = R := by
  rw [← h, drop_of_get hs]
  simp [toCome, Lib.join_cons]
theorem toCome_next {sep s : ByteArray} {k : Nat} {ss : List ByteArray} {B R : List UInt8} (hk : 0 < k) (hs : ss[k]? = some s) (h : B ++ toCome sep k (ss.drop k) = R) : ((B ++ sep.data.toList) ++ s.data.toList) ++ toCome sep (k + 1) (ss.drop (k + 1)) = R := by
  rw [← h, drop_of_get hs]
  have h0 : k ≠ 0 := by omega
  simp [toCome, h0, Lib.joinTail]
theorem toCome_end {sep : ByteArray} {k : Nat} {ss : List ByteArray} {B R : List UInt8} (hk : ss.length ≤ k) (h : B ++ toCome sep k (ss.drop k) = R) : B = R := by
  rw [drop_all ss k hk] at h
  rw [← h]
  unfold toCome
  split <;> simp [Lib.join, Lib.joinTail]
theorem toCome_len {sep : ByteArray} {k : Nat} {ss : List ByteArray} {B R : List UInt8} (h : B ++ toCome sep k ss = R) : B.length ≤ R.length := by rw [← h]; simp
set_option maxRecDepth 20000 in
theorem wpList_app_str {ops : Array Oper} {rest : List Oper} {o : Oper} {a : Act} {Q : Exit → Act → World → Prop} (W : World) (hgd : o.guard = none) (s x : Operand)
    (ho : o.op = .call { callee := .builtin .append, args := #[s, x], argTypes := #[22, 9] })
    (lo : Nat) (v : Value) (B : List UInt8) (hs : a.eval s = v) (h : OB W lo v B) (y : ByteArray) (hx : a.eval x = .string y) (hn : B.length + y.size ≤ 1099511627776) (hlo : lo ≤ W.heap.size)
    (K : ∀ v' w', OB w' lo v' (B ++ y.data.toList) → Below lo W w' → wpList Tryz.prog ops Q rest (a.put o.dst v') w') : wpList Tryz.prog ops Q (o :: rest) a W := by
  obtain ⟨i0, hi, hz0, hz1, hz2⟩ := info_parts info_u8
  have hyl : y.data.toList.length = y.size := Array.length_toList
  refine Lib.wpList_append_own_string W hgd s x 22 9 ho lo 5 i0 Tryz.underlying22 Tryz.underlying9 hi hz0 hz1 hz2 v B.length (u8C B) hs h.2 y hx (by unfold maxLen; omega) (by omega) hlo ?_
  intro v' w' hown hgrow _
  have e : (B ++ y.data.toList).length = B.length + y.size := by rw [List.length_append, hyl]
  refine K v' w' ⟨by rw [e]; exact hn, ?_⟩ ((Below.refl lo W).grown hgrow hlo (fun k hk => (h.ownlt k hk).1))
  rw [e, u8C_app]
  exact hown
section
variable {w w' : World} {lo g cap : Nat} {B : List UInt8}
theorem OB.num {n : Nat} (h : OB w lo (.slice (some ⟨g, 0, none⟩) n cap) B) : n = B.length := by
  rcases h.2.2 with ⟨e, _⟩ | ⟨g', c, cur, e, _⟩
  · cases e
  · injection e with _ e2 _
theorem OB.frozen {n : Nat} (h : OB w lo (.slice (some ⟨g, 0, none⟩) n cap) B) (k : Nat) : w.frozen? ⟨g, k, none⟩ = false := by
  obtain rfl := h.num
  exact h.2.frozenAt k
theorem OB.lt {n : Nat} (h : OB w lo (.slice (some ⟨g, 0, none⟩) n cap) B) : lo ≤ g ∧ g < w.heap.size := h.2.lt g rfl
theorem OB.cell {n : Nat} (h : OB w lo (.slice (some ⟨g, 0, none⟩) n cap) B) {k : Nat} {b : UInt8} (hk : B[k]? = some b) : w.cell? ⟨g, k, none⟩ = some (.int .u8 (b.toNat : Int)) := by
  have hc := h.2.cells (g := g) rfl k (.int .u8 (b.toNat : Int)) (by simp [u8C, hk])
  rw [Addr.add_lit] at hc
  simpa using hc
theorem OB.set {n : Nat} (h : OB w lo (.slice (some ⟨g, 0, none⟩) n cap) B) (k : Nat) (b : UInt8) : OB (w.setCell ⟨g, k, none⟩ (.int .u8 (b.toNat : Int))) lo (.slice (some ⟨g, 0, none⟩) n cap) (B.set k b) := by
  obtain rfl := h.num
  refine ⟨by simpa using h.1, ?_⟩
  have e : u8C (B.set k b) = (u8C B).set k (.int .u8 (b.toNat : Int)) := by unfold u8C; rw [List.map_set]
  rw [e, List.length_set]
  exact (h.2.stored k _).1
end
theorem make_bytes (n : Nat) (hn : n ≤ 1099511627776) (w : World) :
    (Instr.makeSlice 22 (.int .i64 (n : Int)) (.int .i64 (n : Int))).run Tryz.prog w = .ok (.slice (some ⟨w.heap.size, 0, none⟩) n n) (w.alloc (.cells (madeCells #[.int .u8 0] n) 5)) :=
  run_make_row' (P := Tryz.prog) 22 5 (.int .u8 0) 1 Tryz.underlying22 info_u8 rfl .i64 .i64 n (by omega) (by omega) w
theorem OB.made (w : World) (n : Nat) (hn : n ≤ 1099511627776) : OB (w.alloc (.cells (madeCells #[.int .u8 0] n) 5)) w.heap.size (.slice (some ⟨w.heap.size, 0, none⟩) n n) (List.replicate n 0) := by
  refine ⟨by simpa using hn, ?_⟩
  have h := World.ownsRow_lit (base := w.heap.size) (e := 5) (size := 1) w (madeCells #[.int .u8 0] n) n (Nat.le_refl _) (by unfold maxLen; omega) (by simp [madeCells])
  rw [toList_madeCells_one] at h
  rw [List.length_replicate]
  simpa [u8C] using h
end Go.Proofs.YtonfdiaefkghbaaGreatDoor

namespace Go.Proofs.YtonfdiaefkghbaaGreatDoor
open Go.RowKit
set_option linter.all false
def zt (x : Nat) : ByteArray := (⟨#[90, 47]⟩ : ByteArray) ++ decB x
def grpF : List Int → List ByteArray → ByteArray
  | [], ws => if ws.length = 0 then ⟨#[48]⟩ else joinB ws ⟨#[43]⟩
  | x :: r, ws => if x < 0 then ⟨#[]⟩ else if x = 0 then grpF r (ws ++ [⟨#[90]⟩]) else if 1 < x then grpF r (ws ++ [zt x.toNat]) else grpF r ws
def groupTxt (xs : List Int) : ByteArray := grpF xs []
theorem zt_size {x : Nat} (h : x < 18446744073709551616) : (zt x).size ≤ 22 := by
  have h1 := decB_size h
  have h2 : (zt x).size = 2 + (decB x).size := by unfold zt; rw [ByteArray.size_append]; rfl
  omega
theorem grp_step {xs : List Int} {k : Nat} {x : Int} {ws : List ByteArray} {R : ByteArray} (hx : xs[k]? = some x) (h : grpF (xs.drop k) ws = R) :
    (x < 0 → R = ⟨#[]⟩) ∧ (x = 0 → grpF (xs.drop (k + 1)) (ws ++ [⟨#[90]⟩]) = R) ∧ (1 < x → grpF (xs.drop (k + 1)) (ws ++ [zt x.toNat]) = R) ∧ (x = 1 → grpF (xs.drop (k + 1)) ws = R) := by
  rw [drop_of_get hx, grpF] at h
  refine ⟨fun e => ?_, fun e => ?_, fun e => ?_, fun e => ?_⟩
  · rw [if_pos e] at h; exact h.symm
  · rw [if_neg (by omega), if_pos e] at h; exact h
  · rw [if_neg (by omega), if_neg (by omega), if_pos e] at h; exact h
  · rw [if_neg (by omega), if_neg (by omega), if_neg (by omega)] at h; exact h
theorem grp_end {xs : List Int} {k : Nat} {ws : List ByteArray} {R : ByteArray} (hk : xs.length ≤ k) (h : grpF (xs.drop k) ws = R) : (ws.length = 0 → R = ⟨#[48]⟩) ∧ (0 < ws.length → R = joinB ws ⟨#[43]⟩) := by
  rw [drop_all xs k hk, grpF] at h
  constructor
  · intro e; rw [if_pos e] at h; exact h.symm
  · intro e; rw [if_neg (by omega)] at h; exact h.symm
theorem lens_le : ∀ (ws : List ByteArray) (m : Nat), (∀ s ∈ ws, s.size ≤ m) → Lib.lens (ws.map (·.data.toList)) ≤ m * ws.length
  | [], m, _ => by simp [Lib.lens]
  | s :: r, m, h => by
    have h1 := lens_le r m (fun x hx => h x (List.mem_cons_of_mem _ hx))
    have h2 := h s (List.mem_cons_self ..)
    have h3 : s.data.toList.length = s.size := Array.length_toList
    simp only [Lib.lens, List.map_cons, List.sum_cons, List.length_cons] at h1 ⊢
    rw [Nat.mul_succ]
    omega
theorem joinB_len (ws : List ByteArray) (sep : ByteArray) : (Lib.join (ws.map (·.data.toList)) sep.data.toList).length = (joinB ws sep).size := by simp [joinB, ByteArray.size]
theorem joinB_size {ws : List ByteArray} {sep : ByteArray} {m : Nat} (h : ∀ s ∈ ws, s.size ≤ m) : (joinB ws sep).size ≤ (m + sep.size) * ws.length := by
  have hs : sep.data.toList.length = sep.size := Array.length_toList
  have e : (joinB ws sep).size = (Lib.join (ws.map (·.data.toList)) sep.data.toList).length := by simp [joinB, ByteArray.size]
  rw [e]
  cases ws with
  | nil => simp [Lib.join]
  | cons s r =>
    rw [List.map_cons, Lib.join_length, hs, List.length_map]
    have h1 := lens_le (s :: r) m h
    rw [List.map_cons] at h1
    have h2 : (m + sep.size) * (s :: r).length = m * (s :: r).length + sep.size * (s :: r).length := Nat.add_mul ..
    have h3 : sep.size * r.length ≤ sep.size * (s :: r).length := Nat.mul_le_mul_left _ (by simp)
    omega
theorem all_push {ws : List ByteArray} {s : ByteArray} {m : Nat} (h : ∀ x ∈ ws, x.size ≤ m) (hs : s.size ≤ m) : ∀ x ∈ ws ++ [s], x.size ≤ m := by
  intro x hx
  rcases List.mem_append.1 hx with hx | hx
  · exact h x hx
  · simp at hx; subst hx; exact hs
end Go.Proofs.YtonfdiaefkghbaaGreatDoor

namespace Go.Proofs.YtonfdiaefkghbaaGreatDoor
open Go.RowKit
set_option linter.all false
theorem rows_set {T : List (List Int)} {n i : Nat} {r : List Int} (h : RowsLen T n) (hr : r.length = n) : RowsLen (T.set i r) n := by
  intro k q hk
  rw [List.getElem?_set] at hk
  split at hk
  · split at hk
    · injection hk with hk
      subst hk
      exact hr
    · cases hk
  · exact h k q hk
theorem rows_rep (n c : Nat) : RowsLen (List.replicate n (List.replicate c (0 : Int))) c := by
  intro k q hk
  have := List.mem_of_getElem? hk
  rw [List.mem_replicate] at this
  rw [this.2]; simp
theorem grown_new {w w' : World} {row : Option Nat} (h : w.grownBy w' row) {p : Addr} (hp : w.heap.size ≤ p.block) (u : Value) : w.grownBy (w'.setCell p u) row :=
  ⟨h.os, h.tape, h.output, by simpa [World.setCell] using h.size, fun k hk hne => (Below.heap_setCell w' p u k (by rintro rfl; omega)).trans (h.block k hk hne)⟩
theorem cell_grown {w w' : World} {row : Option Nat} {p : Addr} {v : Value} (hg : w.grownBy w' row) (hc : w.cell? p = some v) (hne : some p.block ≠ row) : w'.cell? p = some v := by
  have hl := World.block_lt_of_cell? w _ hc
  have := hg.block p.block hl hne
  unfold World.cell? at hc ⊢
  rw [this]
  exact hc
theorem gr_alloc {w w' : World} {b : Nat} (h : w.grownBy w' (some b)) (o : Obj) : w.grownBy (w'.alloc o) (some b) :=
  h.trans (grown_of_below ((Below.refl _ _).alloc (Nat.le_refl _) o))
set_option maxRecDepth 20000 in
set_option maxHeartbeats 3200000 in
theorem l1Pick_any (b lo g n cap : Nat) (ss : List ByteArray) (w : World) (h : Cur w b lo) (hl : ss.length = n) (hc : ∀ i s, ss[i]? = some s → w.cell? ⟨g, i, none⟩ = some (.string s)) (hb : b ≠ g) (hn : 1 ≤ n) (hm : n ≤ 256) :
    Calls Tryz.prog 147 #[.pointer (some ⟨b, 0, none⟩), .slice (some ⟨g, 0, none⟩) n cap] w fun e w' => ∃ s ∈ ss, e = .returned (.string s) ∧ Cur w' b lo ∧ w.grownBy w' (some b) := by
  have H := Lib.hid h
  have HC := Lib.hid hc
  have HL := Lib.hid hl
  clear h hc hl
  go_enter Tryz.func147, Tryz.ntmps147
  go_wp2_with (first
    | (go_at_call 79; refine (l1Below_any b lo n _ H.out hn hm).mono ?_; rintro e w1 ⟨x, hx, rfl, hc1, hg1⟩; obtain ⟨s, hs⟩ : ∃ s, ss[x]? = some s := ⟨_, List.getElem?_eq_getElem (by rw [HL.out]; exact hx)⟩; have q := cell_grown hg1 (HC.out x s hs) (by simp; exact Ne.symm hb); have Hc1 := Lib.hid hc1; have Hg1 := Lib.hid hg1; have HS := Lib.hid (List.mem_of_getElem? hs); clear hc1 hg1 hs))
  go_ret
  exact ⟨s, HS.out, rfl, Hc1.out, Hg1.out⟩
theorem Since.rowD {lo hi : Nat} {a b c : World} {v : Value} (h : Since lo hi a b) (k : b.grownBy c v.ownBlock) (hv : ∀ g, v.ownBlock = some g → g < lo ∨ hi ≤ g) (hs : hi ≤ b.heap.size) : Since lo hi a c :=
  ⟨Nat.le_trans h.size k.size, fun i h1 h2 => (k.block i (by omega) (fun e => by have := hv i e.symm; omega)).trans (h.block i h1 h2)⟩
theorem Since.apartD {lo hi g : Nat} {a b c : World} (h : Since lo hi a b) (k : b.grownBy c (some g)) (hg : g < lo) (hs : hi ≤ b.heap.size) : Since lo hi a c :=
  ⟨Nat.le_trans h.size k.size, fun i h1 h2 => (k.block i (by omega) (fun e => by injection e; omega)).trans (h.block i h1 h2)⟩
theorem hi_setD {lo hi g k : Nat} {a b : World} (h : Since lo hi a b) (hg : hi ≤ g) (u : Value) : Since lo hi a (b.setCell ⟨g, k, none⟩ u) :=
  ⟨by simpa [World.setCell] using h.size, fun i h1 h2 => (Below.heap_setCell b ⟨g, k, none⟩ u i (by show i ≠ g; omega)).trans (h.block i h1 h2)⟩
theorem grown_farV {w W w' : World} {b : Nat} {v : Value} (h : w.grownBy W (some b)) (k : W.grownBy w' v.ownBlock) (hg : ∀ g, v.ownBlock = some g → w.heap.size ≤ g) : w.grownBy w' (some b) := by
  refine ⟨k.os.trans h.os, ?_, k.output.trans h.output, Nat.le_trans h.size k.size, fun i hi hne => (k.block i (Nat.lt_of_lt_of_le hi h.size) (by intro e; have := hg i e.symm; omega)).trans (h.block i hi hne)⟩
  first | exact k.tape.trans h.tape | exact Nat.le_trans h.tape k.tape | exact h.tape.trans k.tape
theorem OInts.self {w : World} {lo n : Nat} {v : Value} {xs : List Int} (h : OInts w lo v n xs) : OInts w lo v xs.length xs := by
  rw [h.len]; exact h
theorem OIntss.self {w : World} {lo n : Nat} {v : Value} {xss : List (List Int)} (h : OIntss w lo v n xss) : OIntss w lo v xss.length xss := by
  rw [h.len]; exact h
end Go.Proofs.YtonfdiaefkghbaaGreatDoor

namespace Go.Proofs.YtonfdiaefkghbaaGreatDoor
open Go.RowKit
set_option linter.all false
def bl (s : ByteArray) (i : Nat) : Nat := if h : i < s.size then s[i].toNat else 0
theorem bl_get {s : ByteArray} {i : Nat} (h : i < s.size) : bl s i = s[i].toNat := by simp [bl, h]
theorem bl_lt (s : ByteArray) (i : Nat) : bl s i < 256 := by
  unfold bl
  split
  · exact UInt8.toNat_lt _
  · omega
def okW (k : Int) (s : ByteArray) : Nat → Nat → Bool
  | _, 0 => true
  | i, m + 1 => (decide (97 ≤ bl s i) && decide ((bl s i : Int) - 97 < k)) && okW k s (i + 1) m
def isWd (k : Int) (s : ByteArray) : Bool := inR k 1 3 && (decide (s.size ≤ 16) && okW k s 0 s.size)
theorem okW_step {k : Int} {s : ByteArray} {i m : Nat} {b : Bool} (h : okW k s i (m + 1) = b) :
    (¬ 97 ≤ bl s i → b = false) ∧ (¬ (bl s i : Int) - 97 < k → b = false) ∧ (97 ≤ bl s i → (bl s i : Int) - 97 < k → okW k s (i + 1) m = b) := by
  refine ⟨fun e => ?_, fun e => ?_, fun e1 e2 => ?_⟩
  · simpa [okW, e] using h.symm
  · simpa [okW, e] using h.symm
  · simpa [okW, e1, e2] using h
theorem okW_get {k : Int} {s : ByteArray} : ∀ {m i j : Nat}, okW k s i m = true → i ≤ j → j < i + m → 97 ≤ bl s j ∧ (bl s j : Int) - 97 < k
  | 0, i, j, _, h1, h2 => by omega
  | m + 1, i, j, h, h1, h2 => by
    simp only [okW, Bool.and_eq_true, decide_eq_true_eq] at h
    by_cases e : i = j
    · subst e; exact h.1
    · exact okW_get h.2 (by omega) (by omega)
theorem isWd_get {k : Int} {s : ByteArray} (h : isWd k s = true) : s.size ≤ 16 ∧ ∀ j, j < s.size → 97 ≤ bl s j ∧ (bl s j : Int) - 97 < k := by
  simp only [isWd, Bool.and_eq_true, decide_eq_true_eq] at h
  exact ⟨h.2.1, fun j hj => okW_get h.2.2 (Nat.zero_le _) (by omega)⟩
end Go.Proofs.YtonfdiaefkghbaaGreatDoor

namespace Go.Proofs.YtonfdiaefkghbaaGreatDoor
open Go.RowKit
set_option linter.all false
def spB (s : ByteArray) (b : Nat) : Nat → Nat → Nat → List ByteArray
  | 0, _, _ => []
  | f + 1, fr, i => if i = s.size ∨ bl s i = b then s.extract fr i :: spB s b f (i + 1) (i + 1) else spB s b f fr (i + 1)
def pieces (s : ByteArray) (b : Nat) : List ByteArray := spB s b (s.size + 1) 0 0
theorem spB_step {s : ByteArray} {b fr i : Nat} {acc R : List ByteArray} (hi : i ≤ s.size) (h : acc ++ spB s b (s.size + 1 - i) fr i = R) :
    ((i = s.size ∨ bl s i = b) → (acc ++ [s.extract fr i]) ++ spB s b (s.size + 1 - (i + 1)) (i + 1) (i + 1) = R) ∧ (i ≠ s.size → bl s i ≠ b → acc ++ spB s b (s.size + 1 - (i + 1)) fr (i + 1) = R) := by
  rw [show s.size + 1 - i = (s.size + 1 - (i + 1)) + 1 by omega, spB] at h
  refine ⟨fun e => ?_, fun e1 e2 => ?_⟩
  · rw [if_pos e] at h; rw [← h]; simp
  · rw [if_neg (by omega)] at h; exact h
set_option maxRecDepth 20000 in
set_option maxHeartbeats 3200000 in
theorem sSplitByte_any (s : ByteArray) (b : Nat) (w : World) (hs : s.size ≤ 1000000) (hb : b < 256) :
    Calls Tryz.prog 161 #[.string s, .int .u8 b] w fun e w' => ∃ v, e = .returned v ∧ OStrs w' w.heap.size v (pieces s b).length (pieces s b) ∧ Below w.heap.size w w' := by
  have HE := Lib.hid (OStrs.empty w w.heap.size (Nat.le_refl _))
  have HBE := Lib.hid (belowA w (.cells #[] 9))
  go_enter Tryz.func161, Tryz.ntmps161
  go_wp2_with fail
  go_loopw [5, 6, 7] (fun v y x wr => ∃ (fr i : Nat) (acc : List ByteArray), i ≤ s.size + 1 ∧ fr ≤ i ∧ acc.length ≤ i ∧ y = .int .i64 fr ∧ x = .int .i64 i ∧ OStrs wr w.heap.size v acc.length acc ∧ Hid (acc ++ spB s b (s.size + 1 - i) fr i = pieces s b) ∧ Below w.heap.size w wr) (fun _ _ x _ => s.size + 1 - (intOf x).toNat)
  case atStart => exact ⟨0, 0, [], Nat.zero_le _, Nat.le_refl _, Nat.le_refl _, rfl, rfl, HE.out, rfl, HBE.out⟩
  case round =>
    obtain ⟨fr, i, acc, hi, hf, hal, rfl, rfl, hown, hr, hbl⟩ := hrel
    obtain ⟨a7, c7, rfl, _⟩ := hown.form
    have HO := Lib.hid hown
    have HB := Lib.hid hbl
    clear hown hbl HE HBE
    by_cases hle : i ≤ s.size
    · have HST := Lib.hid (spB_step hle hr.out)
      clear hr
      have dle : decide ((i : Int) ≤ (s.size : Int)) = true := decide_eq_true (by omega)
      by_cases hlt : i < s.size
      · have dne : ((i : Int) == (s.size : Int)) = false := beq_eq_false_iff_ne.2 (by omega)
        obtain ⟨c, hc⟩ : ∃ c : Nat, s[i].toNat = c := ⟨_, rfl⟩
        have hbc : bl s i = c := (bl_get hlt).trans hc
        by_cases e : c = b
        · have d : ((c : Int) == (b : Int)) = true := beq_iff_eq.2 (by omega)
          have HN := Lib.hid (HST.out.1 (.inr (hbc.trans e)))
          clear HST hbc e
          go_wp2_with (at_builtin; refine wpList_push_str wr _ rfl (.tmp 26) (.tmp 31) rfl w.heap.size _ _ _ rfl HO.out (by omega) HB.out.size _ rfl rfl ?_; intro v3 w3 ho3 hb3; have HO3 := Lib.hid ho3; have HB3 := Lib.hid (HB.out.trans hb3); clear ho3 hb3)
          go_roundw
          case rel => exact ⟨i + 1, i + 1, _, by omega, Nat.le_refl _, by simp; omega, by go_num, by go_num, by simpa using HO3.out, HN.out, HB3.out⟩
          case measure => (simp [intOf] <;> omega)
        · have d : ((c : Int) == (b : Int)) = false := beq_eq_false_iff_ne.2 (by omega)
          have HN := Lib.hid (HST.out.2 (by omega) (by omega))
          clear HST hbc e
          go_wp2_with fail
          go_roundw
          case rel => exact ⟨fr, i + 1, acc, by omega, by omega, by omega, rfl, by go_num, HO.out, HN.out, HB.out⟩
          case measure => (simp [intOf] <;> omega)
      · have ei : i = s.size := by omega
        have hn := HST.out.1 (.inl ei)
        rw [show s.extract fr i = s.extract fr s.size by rw [ei]] at hn
        have HN := Lib.hid hn
        clear hn
        have deq : ((i : Int) == (s.size : Int)) = true := beq_iff_eq.2 (by omega)
        clear HST
        go_wp2_with (at_builtin; refine wpList_push_str wr _ rfl (.tmp 26) (.tmp 31) rfl w.heap.size _ _ _ rfl HO.out (by omega) HB.out.size _ rfl rfl ?_; intro v3 w3 ho3 hb3; have HO3 := Lib.hid ho3; have HB3 := Lib.hid (HB.out.trans hb3); clear ho3 hb3)
        go_roundw
        case rel => exact ⟨i + 1, i + 1, _, by omega, Nat.le_refl _, by simp; omega, by go_num, by go_num, by simpa using HO3.out, HN.out, HB3.out⟩
        case measure => (simp [intOf] <;> omega)
    · have dle : decide ((i : Int) ≤ (s.size : Int)) = false := decide_eq_false (by omega)
      have hR : acc = pieces s b := by
        have h := hr.out
        rw [show s.size + 1 - i = 0 by omega] at h
        simpa [spB] using h
      have HR := Lib.hid hR
      clear hr hR
      go_wp2_with fail
      go_ret
      rw [← HR.out]
      exact ⟨_, rfl, HO.out, HB.out⟩
end Go.Proofs.YtonfdiaefkghbaaGreatDoor

namespace Go.Proofs.YtonfdiaefkghbaaGreatDoor
open Go.RowKit
set_option linter.all false
set_option maxRecDepth 20000 in
set_option maxHeartbeats 3200000 in
theorem sFormat_any (u : Nat) (w : World) (hu : u ≤ 9223372036854775807) :
    Calls Tryz.prog 61 #[.int .i64 u] w fun e w' => e = .returned (.string (decB u)) ∧ Below w.heap.size w w' := by
  rcases Nat.eq_zero_or_pos u with h0 | h0
  · subst h0
    have hg : Hid (decB 0 = ⟨#[48]⟩) := by show _ = _; decide +kernel
    go_enter Tryz.func61, Tryz.ntmps61
    go_wp2_with fail
    go_ret
    rw [hg.out]
    exact ⟨rfl, Below.refl _ _⟩
  · have hne : ((u : Int) == 0) = false := by simp; omega
    have hlt : decide ((u : Int) < 0) = false := decide_eq_false (by omega)
    obtain ⟨U, hU⟩ : ∃ U : Nat, U = u := ⟨_, rfl⟩
    have HU := Lib.hid hU
    go_enter Tryz.func61, Tryz.ntmps61
    go_wp2_with fail
    clear hne hlt hU
    go_loopw [0, 4] (fun x o wr => ∃ (y : Nat) (s : ByteArray), y ≤ 9223372036854775807 ∧ x = .int .i64 y ∧ o = .string s ∧ Hid (dg y ++ s.data.toList = dg U) ∧ Below w.heap.size w wr) (fun x _ _ => (intOf x).toNat)
    case atStart => exact ⟨u, ⟨#[]⟩, hu, rfl, rfl, by show _ = _; rw [HU.out]; simp, Below.refl _ _⟩
    case round =>
      obtain ⟨y, s, hy, rfl, rfl, hr, hbl⟩ := hrel
      have hsz := dig_size (by have := HU.out; omega) hr.out
      have Hbl := Lib.hid hbl
      clear hbl
      by_cases hp : 0 < y
      · have hne : ((y : Int) != 0) = true := by simp; omega
        have HN := Lib.hid (dig_next hp hr.out)
        have HCS := catB_size (48 + UInt8.ofNat (y % 10)) s
        have hm10 : y % 10 < 10 := Nat.mod_lt _ (by omega)
        have hcv := fun z => conv_one wr z 5
        clear hr
        go_wp2_with fail
        go_roundw
        case rel => exact ⟨y / 10, catB (48 + UInt8.ofNat (y % 10)) s, by omega, by go_num, rfl, HN.out, step2 Hbl.out (belowA _ _)⟩
        case measure => (simp [intOf] <;> omega)
      · have hz : y = 0 := by omega
        subst hz
        have HE := Lib.hid (dig_done (u := U) (by have := HU.out; omega) hr.out)
        clear hr
        rw [show ((0 : Nat) : Int) = 0 from rfl]
        go_wp2_with fail
        go_ret
        exact ⟨ret_text (by rw [HE.out, HU.out]), Hbl.out⟩
theorem sFormat_succ (k : Nat) (w : World) (hk : k ≤ 1000000) :
    Calls Tryz.prog 61 #[.int .i64 ((k : Int) + 1)] w fun e w' => e = .returned (.string (decB (k + 1))) ∧ Below w.heap.size w w' := by
  have h := sFormat_any (k + 1) w (by omega)
  rw [show ((k + 1 : Nat) : Int) = (k : Int) + 1 from by omega] at h
  exact h
end Go.Proofs.YtonfdiaefkghbaaGreatDoor

namespace Go.Proofs.YtonfdiaefkghbaaGreatDoor
open Go.RowKit
set_option linter.all false
set_option maxRecDepth 20000 in
set_option maxHeartbeats 3200000 in
theorem l1Read_one (t : ByteArray) (d : Nat) (w : World) (hd : d ≤ 9) (hs : t.size = 1) (hb : bl t 0 = 48 + d) (hD : decB d = t) :
    Calls Tryz.prog 170 #[.string t, .int .i64 12] w fun e w' => e = .returned (.tuple #[.int .i64 d, .bool true]) ∧ Below w.heap.size w w' := by
  have HS := Lib.hid hs
  have HD := Lib.hid hD
  have h0 : 0 < t.size := by omega
  obtain ⟨x, hx⟩ : ∃ x : Nat, t[0].toNat = x := ⟨_, rfl⟩
  have hbx : x = 48 + d := by rw [← hb, bl_get h0]; exact hx.symm
  have e1 : decide ((0 : Int) < (t.size : Int)) = true := decide_eq_true (by omega)
  have e2 : ((x : Int) == 45) = false := beq_eq_false_iff_ne.2 (by omega)
  have e3 : decide ((t.size : Int) < 1) = false := decide_eq_false (by omega)
  have e4 : decide ((12 : Int) < (t.size : Int)) = false := decide_eq_false (by omega)
  have e5 : decide ((x : Int) < 48) = false := decide_eq_false (by omega)
  have e6 : decide ((57 : Int) < (x : Int)) = false := decide_eq_false (by omega)
  have HX := Lib.hid hbx
  clear hs hD hb hbx
  go_enter Tryz.func170, Tryz.ntmps170
  go_wp2_with fail
  go_loop [8, 9] (fun n i => (n = .int .i64 0 ∧ i = .int .i64 0) ∨ (n = .int .i64 d ∧ i = .int .i64 1)) (fun _ i => 1 - (intOf i).toNat)
  case atStart => exact .inl ⟨rfl, rfl⟩
  case round =>
    rcases hrel with ⟨rfl, rfl⟩ | ⟨rfl, rfl⟩
    · go_wp2_with fail
      go_round
      case rel => exact .inr ⟨by have := HX.out; subst this; go_num, rfl⟩
      case measure => simp [intOf]
    · have f1 : decide ((1 : Int) < (t.size : Int)) = false := decide_eq_false (by have := HS.out; omega)
      clear e1
      go_wp2_with (go_at_call 61; refine (sFormat_any d _ (by omega)).mono ?_; rw [HD.out]; rintro e w1 ⟨rfl, hb1⟩; have HB1 := Lib.hid hb1; clear hb1)
      go_ret2
      exact ⟨rfl, HB1.out⟩
set_option maxHeartbeats 800000 in
theorem sParseInt_one (t : ByteArray) (d : Nat) (w : World) (hd : d ≤ 9) (hs : t.size = 1) (hb : bl t 0 = 48 + d) (hD : decB d = t) :
    Calls Tryz.prog 162 #[.string t] w fun e w' => e = .returned (.tuple #[.int .i64 d, .bool true]) ∧ Below w.heap.size w w' := by
  have HC := fun W => l1Read_one t d W hd hs hb hD
  clear hs hb hD
  have HC := Lib.hid HC
  go_enter Tryz.func162, Tryz.ntmps162
  go_wp2_with (go_at_call 170; refine (HC.out _).mono ?_; rintro e w1 ⟨rfl, hb1⟩; have HB1 := Lib.hid hb1; clear hb1)
  go_ret2
  exact ⟨rfl, HB1.out⟩
end Go.Proofs.YtonfdiaefkghbaaGreatDoor

namespace Go.Proofs.YtonfdiaefkghbaaGreatDoor
open Go.RowKit
set_option linter.all false
theorem wpList_push_rowC {ops : Array Oper} {rest : List Oper} {o : Oper} {a : Act} {Q : Exit → Act → World → Prop} (W : World) (u : Value) (wr : World) (hgd : o.guard = none) (s x : Operand)
    (ho : o.op = .call { callee := .builtin .append, args := #[s, x], argTypes := #[24, 24] })
    (lo : Nat) (v : Value) (n : Nat) (xss : List (List Int)) (hs : a.eval s = v) (h : OIntss wr lo v n xss) (hn : n + 1 ≤ 1099511627776) (hlo : lo ≤ wr.heap.size) (hW : Below wr.heap.size wr W)
    (m : Nat) (r : List Int) (hu : OInts W wr.heap.size u m r) (tb : Nat) (htb : tb = W.heap.size) (hx : a.eval x = .slice (some ⟨tb, 0, none⟩) 1 1)
    (K : ∀ v' w', OIntss w' lo v' (n + 1) (xss ++ [r]) → W.grownBy w' v.ownBlock → NewOr W.heap.size v v' → wpList Tryz.prog ops Q rest (a.put o.dst v') w') : wpList Tryz.prog ops Q (o :: rest) a (W.alloc (.cells #[u] 34)) := by
  subst htb
  have hml := hu.len
  subst hml
  have hW2 : Below wr.heap.size wr (W.alloc (.cells #[u] 34)) := hW.alloc hW.size _
  obtain ⟨i0, hi, hz0, hz1, hz2⟩ := info_parts info_ints
  have hk := h.keep hW2
  have hu2 := (hu.alloc (.cells #[u] 34)).mono hlo
  have hfar := far_new h hW2 fun b hb => (hu.ownlt b hb).1
  obtain ⟨h1, h2, vs, hv, hr, hd⟩ := hk
  have hone : u.oneCell' = true := by
    rcases hu.2.2 with ⟨rfl, _⟩ | ⟨_, _, _, rfl, _⟩ <;> rfl
  refine wpList_plain hgd fun K' hK => ?_
  obtain ⟨v', w', hrun, q2, q3, _, q5⟩ := run_append_own_at (P := Tryz.prog) (W.alloc (.cells #[u] 34)) lo 24 o.type 34 i0 (.slice none 0 0) 1 24 Tryz.underlying24 hi hz0 hz1 hz2 rfl (by decide) v n vs hv ⟨W.heap.size, 0, none⟩ 1 1 [u] rfl
    (by
      intro j u' hj
      match j, hj with
      | 0, hj =>
        simp at hj
        subst hj
        exact World.cell?_alloc_new _ _ _ _)
    (by
      intro u' hu'
      simp at hu'
      subst hu'
      exact hone) (by unfold maxLen; omega) (by omega) (by simp; have := hW.size; omega)
  unfold Oper.wp execOp
  simp only [ho, resolve, invoke, builtin, Sem.run_bind, Sem.run_pure, Result.andThen_ok, List.map_toArray, List.map_cons, List.map_nil, hs, hx, hrun]
  refine hK _ _ (K v' w' ?_ ((grown_alloc W _ _).trans q3) ?_)
  · exact OIntss.pushed ⟨h1, h2, vs, hv, hr, hd⟩ hn hu2 hfar q3 fun vs' hv' => by rw [own_unique hv' hv]; exact q2
  · rcases q5 with h5 | h5
    · exact .inl h5
    · exact .inr ⟨_, h5, by simp⟩
end Go.Proofs.YtonfdiaefkghbaaGreatDoor

namespace Go.Proofs.YtonfdiaefkghbaaGreatDoor
open Go.RowKit
set_option linter.all false
set_option maxHeartbeats 800000 in
theorem sIsMatrix_any (ao : Option Addr) (n cap : Nat) (xss : List (List Int)) (w : World) (h : Intss w ao n xss) :
    Calls Tryz.prog 69 #[.slice ao n cap] w fun e w' => e = .returned (.bool (isMat xss)) ∧ w = w' := by
  have hm := h.2.1
  have HL := Lib.hid h.1
  have hg : Hid (isMat xss = (tabIn n 0 1000000 xss && inR n 1 9)) := by show isMat xss = _; unfold isMat; rw [h.1]
  have H := Lib.hid h
  clear h
  go_enter Tryz.func69, Tryz.ntmps69
  go_wp2
  go_loop [3] (fun i => ∃ k : Nat, k ≤ n ∧ i = .int .i64 k ∧ Hid (tabIn n 0 1000000 (xss.drop k) = tabIn n 0 1000000 xss)) (fun i => n - (intOf i).toNat)
  case atStart => exact ⟨0, Nat.zero_le _, rfl, rfl⟩
  case round =>
    obtain ⟨k, hk, rfl, hr⟩ := hrel
    by_cases hlt : k < n
    · obtain ⟨b, o, ai, ci, r, rfl, hcell, hrow, hget⟩ := H.out.at_ hlt
      clear H
      have Hst := Lib.hid (tabIn_step hget.out hr.out)
      have Hrow := Lib.hid hrow
      clear hrow hr
      by_cases hrl : r.length = n
      · have hne : ((r.length : Int) != (n : Int)) = false := by simp [hrl]
        have HRL := Lib.hid hrl
        clear hrl
        go_wp2
        go_loop [4] (fun i => ∃ j : Nat, j ≤ n ∧ i = .int .i64 j ∧ Hid (allIn 0 1000000 (r.drop j) = allIn 0 1000000 r)) (fun i => n - (intOf i).toNat)
        case atStart => exact ⟨0, Nat.zero_le _, rfl, rfl⟩
        case round =>
          obtain ⟨j, hj, rfl, hrj⟩ := hrel
          by_cases hjn : j < n
          · obtain ⟨b', o', x, rfl, hcell', hget'⟩ := Hrow.out.at_ (k := j) (by have := HRL.out; omega)
            clear Hrow
            have hjr : j < r.length := by have := HRL.out; omega
            have Hsj := Lib.hid (allIn_step hget'.out hrj.out)
            clear hrj
            cases hi : inR x 0 1000000
            · have hr1 : Hid _ := Hst.out.2.1 (Hsj.out.2 hi)
              clear Hst Hsj
              go_wp2_with (first | (go_at_call 65; refine (l1In_any _ _ _ _).mono ?_; rintro e w' ⟨rfl, rfl⟩))
              go_ret
              exact ⟨ret_bool (by rw [hg.out, hr1.out]; rfl), rfl⟩
            · have hr1 : Hid _ := Hsj.out.1 hi
              clear Hst Hsj
              go_wp2_with (first | (go_at_call 65; refine (l1In_any _ _ _ _).mono ?_; rintro e w' ⟨rfl, rfl⟩))
              go_round
              case rel => exact ⟨j + 1, hjn, by go_num, hr1⟩
              case measure => simp [intOf]; omega
          · have hr1 : Hid _ := Hst.out.2.2 HRL.out (by have := hrj.out; rw [drop_all r j (by have := HRL.out; omega)] at this; exact this.symm)
            clear Hst hrj Hrow
            go_wp2
            go_round
            case rel => exact ⟨k + 1, hlt, by go_num, hr1⟩
            case measure => simp [intOf]; omega
      · have hne : ((r.length : Int) != (n : Int)) = true := by simp; omega
        have hr1 : Hid _ := Hst.out.1 hrl
        clear Hst hrl
        go_wp2
        go_ret
        exact ⟨ret_bool (by rw [hg.out, hr1.out]; rfl), rfl⟩
    · rw [drop_all xss k (by have := HL.out; omega)] at hr
      have hr1 : Hid _ := hr.out.symm
      clear hr H
      go_wp2_with (first | (go_at_call 65; refine (l1In_any _ _ _ _).mono ?_; rintro e w' ⟨rfl, rfl⟩))
      go_ret
      exact ⟨ret_bool (by rw [hg.out, hr1.out]; rfl), rfl⟩
end Go.Proofs.YtonfdiaefkghbaaGreatDoor

namespace Go.Proofs.YtonfdiaefkghbaaGreatDoor
open Go.RowKit
set_option linter.all false
def digB (d : Nat) : ByteArray := ⟨#[UInt8.ofNat (48 + d)]⟩
theorem digB_dec {d : Nat} (h : d ≤ 9) : decB d = digB d := by
  unfold decB digB
  rw [Lib.decDigits, dif_pos (by omega), ofNat48]
theorem digB_bl {d : Nat} (h : d ≤ 9) : bl (digB d) 0 = 48 + d := by
  have : ∀ k : Fin 10, bl (digB k.val) 0 = 48 + k.val := by decide
  exact this ⟨d, by omega⟩
theorem parseDig_any (d : Nat) (w : World) (hd : d ≤ 9) : Calls Tryz.prog 162 #[.string (digB d)] w fun e w' => e = .returned (.tuple #[.int .i64 d, .bool true]) ∧ Below w.heap.size w w' :=
  sParseInt_one (digB d) d w hd rfl (digB_bl hd) (digB_dec hd)
def toI (d : Nat) : Int := d
def intM (M : List (List Nat)) : List (List Int) := M.map (fun q => q.map toI)
def readsAs (s : ByteArray) (M : List (List Nat)) : Prop := (pieces s 47).map (fun r => pieces r 44) = M.map (fun q => q.map digB) ∧ (∀ q ∈ M, q.length ≤ 9 ∧ ∀ d ∈ q, d ≤ 9) ∧ isMat (intM M) = true ∧ s.size ≤ 1000
theorem apart_fresh {w w' : World} {lo n : Nat} {u v : Value} {ss : List ByteArray} (hv : ∀ b, v.ownBlock = some b → b < w.heap.size) (hu : OStrs w' w.heap.size u n ss) : Apart u v := by
  intro b h1 h2
  have e1 := (hu.ownlt b h1).1
  have e2 := hv b h2
  omega
theorem pieces_size {s : ByteArray} {b : Nat} : ∀ {f fr i : Nat} {t : ByteArray}, i ≤ s.size → t ∈ spB s b f fr i → i + f ≤ s.size + 1 → t.size ≤ s.size
  | 0, _, _, _, _, h, _ => by simp [spB] at h
  | f + 1, fr, i, t, hi, h, hf => by
    unfold spB at h
    split at h
    · rcases List.mem_cons.1 h with rfl | h
      · rw [ByteArray.size_extract]; omega
      · by_cases e : i + 1 ≤ s.size
        · exact pieces_size e h (by omega)
        · have : f = 0 := by omega
          subst this
          simp [spB] at h
    · by_cases e : i + 1 ≤ s.size
      · exact pieces_size e h (by omega)
      · have : f = 0 := by omega
        subst this
        simp [spB] at h
theorem intM_get {M : List (List Nat)} {k : Nat} {q : List Nat} (h : M[k]? = some q) : (intM M)[k]? = some (q.map toI) := by simp [intM, h]
set_option maxRecDepth 20000 in
set_option maxHeartbeats 3200000 in
theorem sParse_any (s : ByteArray) (M : List (List Nat)) (w : World) (h : readsAs s M) :
    Calls Tryz.prog 146 #[.string s] w fun e w' => ∃ v, e = .returned (.tuple #[v, .bool true]) ∧ OIntss w' w.heap.size v (intM M).length (intM M) ∧ Below w.heap.size w w' := by
  obtain ⟨h1, h2, h3, h4⟩ := h
  have HE := Lib.hid (OIntss.empty w w.heap.size (Nat.le_refl _))
  have HBE := Lib.hid ((Below.refl w.heap.size w).alloc (Nat.le_refl _) (.cells #[] 34))
  have H3 := Lib.hid h3
  have hl9 := isMat_len h3
  have hMl : (intM M).length = M.length := by simp [intM]
  have hLl : (pieces s 47).length = M.length := by have := congrArg List.length h1; simpa using this
  have HK : Hid (∀ (k : Nat) (t : ByteArray), (pieces s 47)[k]? = some t → t.size ≤ 1000000 ∧ ∃ q, M[k]? = some q ∧ pieces t 44 = q.map digB ∧ q.length ≤ 9 ∧ ∀ d ∈ q, d ≤ 9) := by
    show ∀ (k : Nat) (t : ByteArray), _
    intro k t ht
    have e := congrArg (fun l => l[k]?) h1
    simp only [List.getElem?_map, ht, Option.map_some] at e
    cases hq : M[k]? with
    | none => rw [hq] at e; simp at e
    | some q =>
      rw [hq] at e
      simp at e
      have := pieces_size (Nat.zero_le _) (List.mem_of_getElem? ht) (by omega)
      exact ⟨by omega, q, rfl, e, h2 q (List.mem_of_getElem? hq)⟩
  clear h1 h2 h3
  generalize hL : pieces s 47 = L at HK hLl
  have HC := fun W => sSplitByte_any s 47 W (by omega) (by omega)
  rw [hL] at HC
  have HC := Lib.hid HC
  clear hL
  have hL9 : L.length ≤ 9 := by omega
  go_enter Tryz.func146, Tryz.ntmps146
  go_wp2_with (go_at_call 161; refine (HC.out _).mono ?_; rintro e w1 ⟨v1, rfl, ho1, hb1⟩; obtain ⟨a1, c1, rfl, hi1⟩ := ho1.form; have HA := Lib.hid (apart_fresh (lo := 0) (fun b hb => (HE.out.ownlt b hb).2) ho1); have HO1 := Lib.hid (ho1.mono HBE.out.size); have HB1 := Lib.hid (step2 HBE.out hb1); have HE1 := Lib.hid (HE.out.keep hb1); clear ho1 hi1 hb1)
  clear HC
  go_loopw [4, 6] (fun v x wr => ∃ k : Nat, k ≤ L.length ∧ x = .int .i64 k ∧ OIntss wr w.heap.size v k ((intM M).take k) ∧ OStrs wr w.heap.size (.slice a1 L.length c1) L.length L ∧ Apart (.slice a1 L.length c1) v ∧ Below w.heap.size w wr) (fun _ x _ => L.length - (intOf x).toNat)
  case atStart => exact ⟨0, Nat.zero_le _, rfl, HE1.out, HO1.out, HA.out, HB1.out⟩
  case round =>
    obtain ⟨k, hk, rfl, hown, hst, hap, hbl⟩ := hrel
    obtain ⟨wo, rfl⟩ : ∃ wo : World, wo = wr := ⟨_, rfl⟩
    obtain ⟨a7, c7, rfl, _⟩ := hown.form
    clear HE HBE HA HO1 HB1 HE1
    have HO := Lib.hid hown
    have HB := Lib.hid hbl
    have HST := Lib.hid hst
    have HAP := Lib.hid hap
    clear hown hbl hst hap
    by_cases hlt : k < L.length
    · obtain ⟨b, o, t, rfl, hc, hs⟩ := HST.out.read.at_ hlt
      obtain ⟨ht, q, hq, hpc, hq9, hd9⟩ := HK.out k t hs.out
      have HQ := Lib.hid hq
      have HD9 := Lib.hid hd9
      have HRE := Lib.hid (OInts.empty wo wo.heap.size (Nat.le_refl _))
      have HRB := Lib.hid ((Below.refl wo.heap.size wo).alloc (Nat.le_refl _) (.cells #[] 3))
      have hc2 := (HRB.out.cell (World.block_lt_of_cell? wo _ hc)).trans hc
      have HC := fun W => sSplitByte_any t 44 W ht (by omega)
      rw [hpc] at HC
      simp only [List.length_map] at HC
      have HC := Lib.hid HC
      clear hs hq hpc hd9 hc
      go_wp2_with (go_at_call 161; refine (HC.out _).mono ?_; rintro e w2 ⟨v2, rfl, ho2, hb2⟩; obtain ⟨a2, c2, rfl, hi2⟩ := ho2.form; have HA2 := Lib.hid (apart_fresh (lo := 0) (fun b hb => (HRE.out.ownlt b hb).2) ho2); have HO2 := Lib.hid (ho2.mono HRB.out.size); have HB2 := Lib.hid (step2 HRB.out hb2); have HR2 := Lib.hid (HRE.out.keep hb2); clear ho2 hi2 hb2)
      clear HC hc2
      go_loopw [7, 9] (fun v x wx => ∃ j : Nat, j ≤ q.length ∧ x = .int .i64 j ∧ OInts wx wo.heap.size v j ((q.map toI).take j) ∧ OStrs wx wo.heap.size (.slice a2 q.length c2) q.length (q.map digB) ∧ Apart (.slice a2 q.length c2) v ∧ Below wo.heap.size wo wx) (fun _ x _ => q.length - (intOf x).toNat)
      case atStart => exact ⟨0, Nat.zero_le _, rfl, HR2.out, HO2.out, HA2.out, HB2.out⟩
      case round =>
        obtain ⟨j, hj, rfl, hline, hpt, hap2, hbx⟩ := hrel
        obtain ⟨a9, c9, rfl, _⟩ := hline.form
        clear HRE HRB HA2 HO2 HB2 HR2
        have HLI := Lib.hid hline
        have HPT := Lib.hid hpt
        have HAX := Lib.hid hap2
        have HBX := Lib.hid hbx
        clear hline hpt hap2 hbx
        by_cases hjn : j < q.length
        · obtain ⟨b2, o2, y, rfl, hcy, hsy⟩ := HPT.out.read.at_ hjn
          have hqj : q[j]? = some q[j] := List.getElem?_eq_getElem hjn
          have hy : y = digB q[j] := by
            have := hsy.out
            rw [List.getElem?_map, hqj] at this
            injection this with this
            exact this.symm
          have hd := HD9.out q[j] (List.getElem_mem _)
          have HN : Hid ((q.map toI)[j]? = some ((q[j] : Nat) : Int)) := by show _ = _; simp [hqj, toI]
          generalize q[j] = d at hy hd HN
          subst hy
          clear hsy hqj
          go_wp2_with (first
            | (at_builtin; refine wpList_push_at w3 _ rfl (.tmp 44) (.tmp 46) rfl wo.heap.size _ _ _ rfl HL3.out (by omega) (by exact HB3.out.size) _ rfl rfl ?_; intro v5 w5 ho5 hg5 hn5; have HO5 := Lib.hid ho5; have HB5 := Lib.hid (HB3.out.grown hg5 HB3.out.size (fun b hb => (HL3.out.ownlt b hb).1)); have HP5 := Lib.hid (HP3.out.far hg5 HAX.out); have HA5 := Lib.hid (hn5.apart HAX.out (fun b hb => (HP3.out.ownlt b hb).2)); clear ho5 hg5 hn5)
            | (go_at_call 162; refine (parseDig_any d _ hd).mono ?_; rintro e w3 ⟨rfl, hb3⟩; have HB3 := Lib.hid (step2 HBX.out hb3); have HL3 := Lib.hid (HLI.out.keep hb3); have HP3 := Lib.hid (HPT.out.keep hb3); clear hb3))
          go_roundw
          case rel =>
            have h5 := HO5.out
            rw [push_take HN.out] at h5
            exact ⟨j + 1, hjn, by go_num, h5, HP5.out, HA5.out, HB5.out⟩
          case measure => (simp [intOf] <;> omega)
        · have HFU : Hid (OInts wr wo.heap.size (.slice a9 j c9) q.length (q.map toI)) := by
            have h := HLI.out
            rw [List.take_of_length_le (by simp; omega)] at h
            rw [show q.length = j by omega]
            exact h
          go_wp2_with (first | (at_builtin; refine wpList_push_rowC _ _ wo rfl (.tmp 48) (.tmp 50) rfl w.heap.size _ k _ rfl HO.out (by omega) HB.out.size HBX.out _ _ HFU.out _ (by rfl) rfl ?_; intro v6 w6 ho6 hg6 hn6; have HO6 := Lib.hid ho6; have HB6 := Lib.hid (((HB.out.trans (HBX.out.mono HB.out.size))).grown hg6 (Nat.le_trans HB.out.size HBX.out.size) (fun b hb => (HO.out.ownlt b hb).1)); have HST6 := Lib.hid ((HST.out.keep HBX.out).far hg6 HAP.out); have HAP6 := Lib.hid (hn6.apart HAP.out (fun b hb => Nat.lt_of_lt_of_le (HST.out.ownlt b hb).2 HBX.out.size)); clear ho6 hg6 hn6))
          go_roundw
          case rel =>
            have h6 := HO6.out
            rw [push_take (intM_get HQ.out)] at h6
            exact ⟨k + 1, hlt, by go_num, h6, HST6.out, HAP6.out, HB6.out⟩
          case measure => (simp [intOf] <;> omega)
    · have hke : k = (intM M).length := by omega
      have HF : Hid (OIntss wo w.heap.size (.slice a7 k c7) k (intM M)) := by
        have h := HO.out
        rw [List.take_of_length_le (by omega)] at h
        exact h
      have HFI : Hid (Intss wo a7 k (intM M)) := by
        obtain ⟨ax, cx, e, hx⟩ := HF.out.form
        cases e
        exact hx
      have HKE := Lib.hid hke
      clear hke hMl
      go_wp2_with (go_at_call 69; refine (sIsMatrix_any _ _ _ (intM M) _ HFI.out).mono ?_; rw [H3.out]; rintro e w' ⟨rfl, rfl⟩)
      go_ret2
      rw [← HKE.out]
      exact ⟨_, rfl, HF.out, HB.out⟩
end Go.Proofs.YtonfdiaefkghbaaGreatDoor

namespace Go.Proofs.YtonfdiaefkghbaaGreatDoor
open Go.RowKit
set_option linter.all false
set_option maxHeartbeats 1600000 in
theorem sL4Zero_any (n c : Nat) (w : World) (hn : n ≤ 1048576) (hc : c ≤ 1048576) :
    Calls Tryz.prog 106 #[.int .i64 n, .int .i64 c] w fun e w' => ∃ v, e = .returned v ∧ OIntss w' w.heap.size v n (List.replicate n (List.replicate c 0)) ∧ Below w.heap.size w w' := by
  have hmk := make_ints c (by omega)
  go_enter Tryz.func106, Tryz.ntmps106
  go_wp2
  go_loopw [5, 6] (fun v i wr => ∃ k : Nat, k ≤ n ∧ i = .int .i64 k ∧ OIntss wr w.heap.size v k (List.replicate k (List.replicate c 0)) ∧ Below w.heap.size w wr) (fun _ i _ => n - (intOf i).toNat)
  case atStart => exact ⟨0, Nat.zero_le _, rfl, OIntss.empty w _ (Nat.le_refl _), (Below.refl _ _).alloc (Nat.le_refl _) _⟩
  case round =>
    obtain ⟨k, hk, rfl, hown, hb⟩ := hrel
    by_cases hlt : k < n
    · have Hown := Lib.hid hown
      have Hb := Lib.hid hb
      clear hown hb
      go_wp2_with (first | (at_builtin; refine wpList_push_fresh _ _ wr rfl _ _ rfl w.heap.size _ k _ rfl Hown.out (by omega) Hb.out.size ((Below.refl _ _).alloc (Nat.le_refl _) _) c _ (OInts.made wr c (by omega)) _ ?ctb rfl ?_))
      case ctb => simp
      intro v' w' hown' hbel _
      rw [rep_push] at hown'
      have hb' := Hb.out.trans hbel
      go_wp2_with fail
      go_roundw
      case rel => exact ⟨k + 1, hlt, by go_num, hown', hb'⟩
      case measure => simp [intOf]; omega
    · go_wp2
      go_ret
      have : k = n := by omega
      subst this
      exact ⟨_, rfl, hown, hb⟩
end Go.Proofs.YtonfdiaefkghbaaGreatDoor
