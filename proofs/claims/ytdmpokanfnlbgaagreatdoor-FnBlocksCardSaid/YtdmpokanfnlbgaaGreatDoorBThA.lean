/- ThA: parts of the proofs of this seat: SmallM MulT Smith MinorT Det DetB Sets SomeT PolyT RowV TotalT Total Sums LessT GrowT L1Bit SameRow SlicesEq. -/
import Derived.Test.YtdmpokanfnlbgaaGreatDoorProg
import Derived.Test.YtdmpokanfnlbgaaGreatDoorBG0a
namespace Go.Proofs.YtdmpokanfnlbgaaGreatDoor
open Go.RowKit
set_option linter.all false
def le9 (r : List Int) : Bool := r.all (fun x => !decide (9 < x))
def le9T (xss : List (List Int)) : Bool := xss.all le9
def isSmallM (xss : List (List Int)) : Bool := isMat xss && (!decide (4 < xss.length) && le9T xss)
theorem le9_step {r : List Int} {k : Nat} {x : Int} {b : Bool} (hk : r[k]? = some x) (h : le9 (r.drop k) = b) : (9 < x → b = false) ∧ (¬ 9 < x → le9 (r.drop (k + 1)) = b) := by
  rw [drop_of_get hk] at h
  generalize List.drop (k + 1) r = q at *
  constructor
  · intro e; simpa [le9, e] using h.symm
  · intro e
    have e' : decide (9 < x) = false := by simpa using e
    simpa [le9, e'] using h
theorem le9T_step {xss : List (List Int)} {k : Nat} {r : List Int} {b : Bool} (hk : xss[k]? = some r) (h : le9T (xss.drop k) = b) : (le9 r = false → b = false) ∧ (le9 r = true → le9T (xss.drop (k + 1)) = b) := by
  rw [drop_of_get hk] at h
  generalize List.drop (k + 1) xss = q at *
  constructor
  · intro e; simpa [le9T, e] using h.symm
  · intro e; simpa [le9T, e] using h
theorem isSmallM_mat {xss : List (List Int)} (h : isSmallM xss = true) : isMat xss = true ∧ xss.length ≤ 4 ∧ 1 ≤ xss.length := by
  simp only [isSmallM, Bool.and_eq_true] at h
  have h1 : ¬ 4 < xss.length := by simpa using h.2.1
  exact ⟨h.1, by omega, (isMat_len h.1).1⟩
theorem isSmallM_get {xss : List (List Int)} (h : isSmallM xss = true) {k j : Nat} {r : List Int} {x : Int} (hk : xss[k]? = some r) (hj : r[j]? = some x) : 0 ≤ x ∧ x ≤ 9 := by
  have h0 := isSmallM_mat h
  have h1 := allIn_get (isMat_row h0.1 hk).2 hj
  simp only [isSmallM, Bool.and_eq_true, le9T, List.all_eq_true, le9] at h
  have h2 := h.2.2 r (List.mem_of_getElem? hk) x (List.mem_of_getElem? hj)
  have h3 : ¬ 9 < x := by simpa using h2
  omega
end Go.Proofs.YtdmpokanfnlbgaaGreatDoor

namespace Go.Proofs.YtdmpokanfnlbgaaGreatDoor
open Go.RowKit
set_option linter.all false
def col (b : List (List Int)) (j : Nat) : List Int := b.map (fun r => r.getD j 0)
def ent (b : List (List Int)) (r : List Int) (j : Nat) : Int := wdot 0 r (col b j)
def mulRow (b : List (List Int)) (c : Nat) (r : List Int) : List Int := (List.range c).map (ent b r)
def mulT (a b : List (List Int)) (c : Nat) : List (List Int) := a.map (mulRow b c)
/-- After k products. -/
def wd (b : List (List Int)) (r : List Int) (k j : Nat) : Int := wdot 0 (r.take k) ((col b j).take k)
def wline (b : List (List Int)) (r : List Int) (c k : Nat) : List Int := (List.range c).map (wd b r k)

theorem wdot_append : ∀ (l m : List Int) (a x y : Int), l.length = m.length → wdot a (l ++ [x]) (m ++ [y]) = wrap64 (wdot a l m + wrap64 (x * y))
  | [], [], _, _, _, _ => rfl
  | p :: l, q :: m, a, x, y, h => wdot_append l m _ x y (by simpa using h)
theorem wd_zero (b : List (List Int)) (r : List Int) (j : Nat) : wd b r 0 j = 0 := rfl
theorem col_get {b : List (List Int)} {k j : Nat} {rb : List Int} {y : Int} (hb : b[k]? = some rb) (hy : rb[j]? = some y) : (col b j)[k]? = some y := by
  simp [col, hb, List.getD, hy]
theorem wd_succ {b : List (List Int)} {r rb : List Int} {k j : Nat} {x y : Int} (hx : r[k]? = some x) (hb : b[k]? = some rb) (hy : rb[j]? = some y) :
    wd b r (k + 1) j = wrap64 (wd b r k j + wrap64 (x * y)) := by
  have h1 := (List.getElem?_eq_some_iff.1 hx).1
  have h2 := (List.getElem?_eq_some_iff.1 hb).1
  unfold wd
  rw [← push_take hx, ← push_take (col_get hb hy)]
  exact wdot_append _ _ _ _ _ (by simp [col]; omega)
theorem wd_end {b : List (List Int)} {r : List Int} {k j : Nat} (h1 : r.length ≤ k) (h2 : b.length ≤ k) : wd b r k j = ent b r j := by
  unfold wd ent
  rw [List.take_of_length_le h1, List.take_of_length_le (by simpa [col] using h2)]
theorem wline_zero (b : List (List Int)) (r : List Int) (c : Nat) : wline b r c 0 = List.replicate c 0 := by
  apply List.ext_getElem?
  intro i
  by_cases h : i < c
  · simp [wline, wd_zero, h]
  · simp [wline, h]
theorem wline_len (b : List (List Int)) (r : List Int) (c k : Nat) : (wline b r c k).length = c := by simp [wline]
theorem wline_get {b : List (List Int)} {r : List Int} {c k j : Nat} (h : j < c) : (wline b r c k)[j]? = some (wd b r k j) := by simp [wline, h]
theorem wline_end {b : List (List Int)} {r : List Int} {c k : Nat} (h1 : r.length ≤ k) (h2 : b.length ≤ k) : wline b r c k = mulRow b c r := by
  unfold wline mulRow
  apply List.map_congr_left
  intro j _
  exact wd_end h1 h2
theorem mulRow_len (b : List (List Int)) (c : Nat) (r : List Int) : (mulRow b c r).length = c := by simp [mulRow]
theorem mulRow_get {b : List (List Int)} {c j : Nat} {r : List Int} (h : j < c) : (mulRow b c r)[j]? = some (ent b r j) := by simp [mulRow, h]
theorem mulT_len (a b : List (List Int)) (c : Nat) : (mulT a b c).length = a.length := by simp [mulT]
theorem mulT_get {a b : List (List Int)} {c k : Nat} {r : List Int} (h : a[k]? = some r) : (mulT a b c)[k]? = some (mulRow b c r) := by simp [mulT, h]
/-- All rows have n numbers. -/
def RowsLen (xss : List (List Int)) (n : Nat) : Prop := ∀ (k : Nat) (r : List Int), xss[k]? = some r → r.length = n
theorem isMat_rowsLen {xss : List (List Int)} {n : Nat} (h : isMat xss = true) (hn : xss.length = n) : RowsLen xss n := fun _ _ hk => by rw [← hn]; exact (isMat_row h hk).1
theorem mulT_rowsLen (a b : List (List Int)) (c : Nat) : RowsLen (mulT a b c) c := by
  intro k r hk
  simp only [mulT, List.getElem?_map, Option.map_eq_some_iff] at hk
  obtain ⟨q, _, rfl⟩ := hk
  exact mulRow_len b c q
end Go.Proofs.YtdmpokanfnlbgaaGreatDoor

namespace Go.Proofs.YtdmpokanfnlbgaaGreatDoor
open Go.RowKit
set_option linter.all false
def smith (xss : List (List Int)) : Bool := tabIn xss.length (-100) 100 xss && inR xss.length 1 4
def square (L : Int) (xss : List (List Int)) : Bool := decide (xss.length ≤ 4) && tabIn xss.length (-L) L xss
theorem smith_len {xss : List (List Int)} (h : smith xss = true) : 1 ≤ xss.length ∧ xss.length ≤ 4 := by
  simp only [smith, Bool.and_eq_true] at h
  have := inR_true h.2
  omega
theorem smith_row {xss : List (List Int)} (h : smith xss = true) {k : Nat} {r : List Int} (hk : xss[k]? = some r) : r.length = xss.length ∧ allIn (-100) 100 r = true := by
  simp only [smith, Bool.and_eq_true] at h
  exact tabIn_get h.1 hk
theorem smith_square (xss : List (List Int)) : smith xss = (decide (0 < xss.length) && square 100 xss) := by
  unfold smith square
  by_cases h0 : 0 < xss.length
  · by_cases h4 : xss.length ≤ 4
    · rw [inR_mk ⟨by omega, by omega⟩]; simp [h0, h4]
    · rw [inR_no (.inr (by omega))]; simp [h4]
  · rw [inR_no (.inl (by omega))]; simp [h0]
end Go.Proofs.YtdmpokanfnlbgaaGreatDoor

namespace Go.Proofs.YtdmpokanfnlbgaaGreatDoor
open Go.RowKit
set_option linter.all false
def cut (j : Nat) (r : List Int) : List Int := r.take j ++ r.drop (j + 1)
def minorT (t : List (List Int)) (i j : Nat) : List (List Int) := (t.eraseIdx i).map (cut j)
def minorTo (t : List (List Int)) (i j k : Nat) : List (List Int) := ((t.take k).eraseIdx i).map (cut j)
theorem minorTo_zero (t : List (List Int)) (i j : Nat) : minorTo t i j 0 = [] := by simp [minorTo]
theorem minorTo_end {t : List (List Int)} {i j k : Nat} (h : t.length ≤ k) : minorTo t i j k = minorT t i j := by
  unfold minorTo minorT; rw [List.take_of_length_le h]
theorem minorTo_skip {t : List (List Int)} {j k : Nat} (h : k < t.length) : minorTo t k j (k + 1) = minorTo t k j k := by
  unfold minorTo
  have h1 : (t.take k).eraseIdx k = t.take k := List.eraseIdx_of_length_le (by simp; omega)
  have h2 : (t.take (k + 1)).eraseIdx k = t.take k := by
    rw [List.take_succ_eq_append_getElem h, List.eraseIdx_append_of_length_le (by simp; omega)]
    simp [show k - min k t.length = 0 from by omega]
  rw [h1, h2]
theorem minorTo_step {t : List (List Int)} {i j k : Nat} {r : List Int} (h : t[k]? = some r) (hne : k ≠ i) : minorTo t i j (k + 1) = minorTo t i j k ++ [cut j r] := by
  unfold minorTo
  rw [← push_take h]
  have hk := (List.getElem?_eq_some_iff.1 h).1
  have hl : (t.take k).length = k := take_len (by omega)
  by_cases hi : i < k
  · rw [List.eraseIdx_append_of_lt_length (by omega)]
    simp
  · rw [List.eraseIdx_of_length_le (by simp; omega), List.eraseIdx_of_length_le (by omega)]
    simp
theorem minorTo_len {t : List (List Int)} {i j k : Nat} : (minorTo t i j k).length ≤ k := by
  unfold minorTo
  have := List.length_eraseIdx_le (t.take k) i
  simp only [List.length_map, List.length_take] at *
  omega
theorem minorT_len {t : List (List Int)} {i j : Nat} (h : i < t.length) : (minorT t i j).length = t.length - 1 := by
  unfold minorT; rw [List.length_map, List.length_eraseIdx_of_lt h]
theorem cut_len {j : Nat} {r : List Int} (h : j < r.length) : (cut j r).length = r.length - 1 := by simp [cut]; omega
theorem minorT_rowsLen {t : List (List Int)} {i j m : Nat} (h : RowsLen t (m + 1)) (hj : j < m + 1) : RowsLen (minorT t i j) m := by
  intro k r hk
  simp only [minorT, List.getElem?_map, Option.map_eq_some_iff] at hk
  obtain ⟨q, hq, rfl⟩ := hk
  have hm := List.mem_of_mem_eraseIdx (List.mem_of_getElem? hq)
  obtain ⟨k', hk'⟩ := List.getElem?_of_mem hm
  have := h k' q hk'
  rw [cut_len (by omega)]
  omega
end Go.Proofs.YtdmpokanfnlbgaaGreatDoor

namespace Go.Proofs.YtdmpokanfnlbgaaGreatDoor
open Go.RowKit
set_option linter.all false
def dloop (D : List (List Int) → Int) (t : List (List Int)) : List Int → Nat → Int → Int → Int
  | [], _, s, _ => s
  | x :: xs, j, s, g => dloop D t xs (j + 1) (if x = 0 then s else wrap64 (s + wrap64 (wrap64 (g * x) * D (minorT t 0 j)))) (-g)
def det : Nat → List (List Int) → Int
  | 0, _ => 1
  | m + 1, t => dloop (det m) t (t.getD 0 []) 0 0 1
theorem dloop_zero {D : List (List Int) → Int} {t : List (List Int)} {r : List Int} {j : Nat} {s g b : Int} (hx : r[j]? = some 0) (h : dloop D t (r.drop j) j s g = b) : dloop D t (r.drop (j + 1)) (j + 1) s (-g) = b := by
  rw [drop_of_get hx] at h
  simpa only [dloop, if_true] using h
theorem dloop_step {D : List (List Int) → Int} {t : List (List Int)} {r : List Int} {j : Nat} {s g x b : Int} (hx : r[j]? = some x) (h0 : x ≠ 0) (h : dloop D t (r.drop j) j s g = b) :
    dloop D t (r.drop (j + 1)) (j + 1) (wrap64 (s + wrap64 (wrap64 (g * x) * D (minorT t 0 j)))) (-g) = b := by
  rw [drop_of_get hx] at h
  simpa only [dloop, if_neg h0] using h
theorem dloop_end {D : List (List Int) → Int} {t : List (List Int)} {r : List Int} {j : Nat} {s g b : Int} (hx : r.length ≤ j) (h : dloop D t (r.drop j) j s g = b) : s = b := by
  rw [drop_all r j hx] at h
  exact h
theorem wrap_i64_eq (n : Int) : IntKind.i64.wrap n = wrap64 n := by
  rw [IntKind.wrap_i64]; unfold wrap64; omega
end Go.Proofs.YtdmpokanfnlbgaaGreatDoor

namespace Go.Proofs.YtdmpokanfnlbgaaGreatDoor
open Go.RowKit
set_option linter.all false
def Bnd (B : Int) (t : List (List Int)) : Prop := ∀ r ∈ t, ∀ x ∈ r, -B ≤ x ∧ x ≤ B
def dmax (B : Int) : Nat → Int
  | 0 => 1
  | m + 1 => ((m : Int) + 1) * (B * dmax B m)
theorem Bnd.minor {B : Int} {t : List (List Int)} (h : Bnd B t) (i j : Nat) : Bnd B (minorT t i j) := by
  intro r hr x hx
  unfold minorT at hr
  obtain ⟨q, hq, rfl⟩ := List.mem_map.1 hr
  have hm := List.mem_of_mem_eraseIdx hq
  unfold cut at hx
  rcases List.mem_append.1 hx with h1 | h1
  · exact h q hm x (List.mem_of_mem_take h1)
  · exact h q hm x (List.mem_of_mem_drop h1)
theorem mul_abs {x d B M : Int} (hB : 0 ≤ B) (hM : 0 ≤ M) (hx : -B ≤ x ∧ x ≤ B) (hd : -M ≤ d ∧ d ≤ M) : -(B * M) ≤ x * d ∧ x * d ≤ B * M := by
  have h1 : (x * d).natAbs ≤ (B * M).natAbs := by
    rw [Int.natAbs_mul, Int.natAbs_mul]
    exact Nat.mul_le_mul (by omega) (by omega)
  have h2 : 0 ≤ B * M := Int.mul_nonneg hB hM
  generalize x * d = a at *
  generalize B * M = b at *
  omega
theorem dloop_bound {D : List (List Int) → Int} {t : List (List Int)} {B M c : Int} (hB : 0 ≤ B) (hB2 : B ≤ 4611686018427387904) (hM : 0 ≤ M) (hc : B * M = c) :
    ∀ (xs : List Int) (j : Nat) (s g S : Int), (∀ x ∈ xs, -B ≤ x ∧ x ≤ B) → (∀ k, j ≤ k → k < j + xs.length → -M ≤ D (minorT t 0 k) ∧ D (minorT t 0 k) ≤ M) →
      -1 ≤ g → g ≤ 1 → -S ≤ s → s ≤ S → S + (xs.length : Int) * c ≤ 4611686018427387904 → -(S + (xs.length : Int) * c) ≤ dloop D t xs j s g ∧ dloop D t xs j s g ≤ S + (xs.length : Int) * c
  | [], j, s, g, S, _, _, _, _, h1, h2, _ => by simp [dloop]; omega
  | x :: xs, j, s, g, S, hx, hD, hg1, hg2, h1, h2, hS => by
    have hc0 : 0 ≤ c := by rw [← hc]; exact Int.mul_nonneg hB hM
    have hlen : (((x :: xs).length : Nat) : Int) * c = (xs.length : Int) * c + c := by simp [Int.add_mul]
    rw [hlen] at hS ⊢
    have hl0 : 0 ≤ (xs.length : Int) * c := Int.mul_nonneg (by omega) hc0
    have hgx : -B ≤ g * x ∧ g * x ≤ B := by
      have := mul_abs (x := g) (d := x) (B := 1) (M := B) (by omega) hB ⟨hg1, hg2⟩ (hx x (by simp))
      rw [Int.one_mul] at this
      exact this
    have hd := hD j (Nat.le_refl _) (by simp)
    have hw : wrap64 (g * x) = g * x := by generalize g * x = a at *; unfold wrap64; omega
    have hp := mul_abs hB hM hgx hd
    rw [hc] at hp
    have hw2 : wrap64 (g * x * D (minorT t 0 j)) = g * x * D (minorT t 0 j) := by generalize g * x * D (minorT t 0 j) = a at *; unfold wrap64; omega
    have hw3 : wrap64 (s + g * x * D (minorT t 0 j)) = s + g * x * D (minorT t 0 j) := by generalize g * x * D (minorT t 0 j) = a at *; unfold wrap64; omega
    unfold dloop
    rw [hw, hw2, hw3]
    have hs : -(S + c) ≤ (if x = 0 then s else s + g * x * D (minorT t 0 j)) ∧ (if x = 0 then s else s + g * x * D (minorT t 0 j)) ≤ S + c := by
      generalize g * x * D (minorT t 0 j) = a at *
      split <;> omega
    have := dloop_bound hB hB2 hM hc xs (j + 1) _ (-g) (S + c) (fun y hy => hx y (by simp [hy])) (fun k h3 h4 => hD k (by omega) (by simp; omega)) (by omega) (by omega) hs.1 hs.2 (by omega)
    omega
theorem dmax_nonneg {B : Int} (hB : 0 ≤ B) (m : Nat) : 0 ≤ dmax B m := by
  induction m with
  | zero => exact Int.le_of_lt (by unfold dmax; omega)
  | succ m ih => exact Int.mul_nonneg (by omega) (Int.mul_nonneg hB ih)
theorem det_bound {B : Int} (hB : 0 ≤ B) (hB2 : B ≤ 4611686018427387904) (m : Nat) : ∀ t : List (List Int), t.length = m → RowsLen t m → Bnd B t → (∀ k, k ≤ m → dmax B k ≤ 4611686018427387904) → -(dmax B m) ≤ det m t ∧ det m t ≤ dmax B m := by
  induction m with
  | zero => intro t _ _ _ _; exact ⟨by unfold dmax det; omega, by unfold dmax det; omega⟩
  | succ m ih =>
    intro t hl hr hb hd
    have h0 : t[0]? = some t[0] := List.getElem?_eq_getElem (by omega)
    have hr0 : t[0].length = m + 1 := hr 0 _ h0
    have e : t.getD 0 [] = t[0] := by simp [List.getD, h0]
    have hM : ∀ k, 0 ≤ k → k < 0 + t[0].length → -(dmax B m) ≤ det m (minorT t 0 k) ∧ det m (minorT t 0 k) ≤ dmax B m := by
      intro k _ hk
      exact ih _ (by rw [minorT_len (by omega)]; omega) (minorT_rowsLen hr (by omega)) (hb.minor 0 k) (fun k hk => hd k (by omega))
    have hlast := hd (m + 1) (Nat.le_refl _)
    have := dloop_bound (D := det m) (t := t) hB hB2 (dmax_nonneg hB m) rfl t[0] 0 0 1 0 (fun x hx => hb _ (List.getElem_mem _) x hx) hM (by omega) (by omega) (by omega) (by omega) (by rw [hr0]; simpa [dmax] using hlast)
    unfold det
    rw [e]
    rw [hr0] at this
    simpa [dmax] using this
/-- If all minors by the first row are 0, the determinant is. -/
theorem dloop_null {D : List (List Int) → Int} {t : List (List Int)} : ∀ (xs : List Int) (j : Nat) (g : Int), (∀ k, j ≤ k → k < j + xs.length → D (minorT t 0 k) = 0) → dloop D t xs j 0 g = 0
  | [], _, _, _ => rfl
  | x :: xs, j, g, h => by
    unfold dloop
    rw [h j (Nat.le_refl _) (by simp), Int.mul_zero]
    have e : (if x = 0 then (0 : Int) else wrap64 (0 + wrap64 0)) = 0 := by split <;> simp [wrap64]
    rw [e]
    exact dloop_null xs (j + 1) (-g) (fun k h1 h2 => h k (by omega) (by simp; omega))
end Go.Proofs.YtdmpokanfnlbgaaGreatDoor

namespace Go.Proofs.YtdmpokanfnlbgaaGreatDoor
open Go.RowKit
set_option linter.all false
def bitOf (m i : Nat) : Bool := m / 2 ^ i % 2 == 1
def setTo (m : Nat) : Nat → List Int
  | 0 => []
  | i + 1 => setTo m i ++ (if bitOf m i then [(i : Int)] else [])
def setsTo (n k : Nat) : Nat → List (List Int)
  | 0 => []
  | m + 1 => setsTo n k m ++ (if (setTo m n).length = k then [setTo m n] else [])
def sets (n k : Nat) : List (List Int) := setsTo n k (2 ^ n)
theorem setTo_len (m i : Nat) : (setTo m i).length ≤ i := by
  induction i with
  | zero => exact Nat.le_refl _
  | succ i ih => unfold setTo; split <;> simp <;> omega
theorem setsTo_len (n k m : Nat) : (setsTo n k m).length ≤ m := by
  induction m with
  | zero => exact Nat.le_refl _
  | succ i ih => unfold setsTo; split <;> simp <;> omega
theorem setTo_yes {m i : Nat} (h : bitOf m i = true) : setTo m (i + 1) = setTo m i ++ [(i : Int)] := by simp [setTo, h]
theorem setTo_no {m i : Nat} (h : bitOf m i = false) : setTo m (i + 1) = setTo m i := by simp [setTo, h]
theorem setsTo_yes {n k m : Nat} (h : (setTo m n).length = k) : setsTo n k (m + 1) = setsTo n k m ++ [setTo m n] := by simp [setsTo, h]
theorem setsTo_no {n k m : Nat} (h : (setTo m n).length ≠ k) : setsTo n k (m + 1) = setsTo n k m := by simp [setsTo, h]
theorem setTo_mem {m i : Nat} {x : Int} (h : x ∈ setTo m i) : 0 ≤ x ∧ x < i := by
  induction i with
  | zero => simp [setTo] at h
  | succ i ih =>
    unfold setTo at h
    rw [List.mem_append] at h
    rcases h with h | h
    · have := ih h; omega
    · split at h
      · simp at h; omega
      · simp at h
theorem setsTo_mem {n k m : Nat} {s : List Int} (h : s ∈ setsTo n k m) : s.length = k ∧ ∀ x ∈ s, 0 ≤ x ∧ x < n := by
  induction m with
  | zero => simp [setsTo] at h
  | succ i ih =>
    unfold setsTo at h
    rw [List.mem_append] at h
    rcases h with h | h
    · exact ih h
    · split at h
      · rename_i e
        simp at h
        subst h
        exact ⟨e, fun x hx => setTo_mem hx⟩
      · simp at h
theorem bits_all : ∀ m : Fin 16, ∀ i : Fin 4, (bits BinOp.and IntKind.i64 ((m.val : Int) / 2 ^ i.val) 1 == 1) = bitOf m.val i.val := by decide
theorem bits_bit {m i : Nat} (hm : m < 16) (hi : i < 4) : (bits BinOp.and IntKind.i64 ((m : Int) / 2 ^ i) 1 == 1) = bitOf m i := bits_all ⟨m, hm⟩ ⟨i, hi⟩
end Go.Proofs.YtdmpokanfnlbgaaGreatDoor

namespace Go.Proofs.YtdmpokanfnlbgaaGreatDoor
open Go.RowKit
set_option linter.all false
def pickRow (r cs : List Int) : List Int := cs.map (fun c => r.getD c.toNat 0)
def someT (t : List (List Int)) (rs cs : List Int) : List (List Int) := rs.map (fun a => pickRow (t.getD a.toNat []) cs)
theorem pickRow_len (r cs : List Int) : (pickRow r cs).length = cs.length := by simp [pickRow]
theorem someT_len (t : List (List Int)) (rs cs : List Int) : (someT t rs cs).length = rs.length := by simp [someT]
theorem pickRow_get {r cs : List Int} {j c : Nat} {x : Int} (h : cs[j]? = some (c : Int)) (hx : r[c]? = some x) : (pickRow r cs)[j]? = some x := by
  simp [pickRow, h, List.getD, hx]
theorem someT_get {t : List (List Int)} {rs cs r : List Int} {i a : Nat} (h : rs[i]? = some (a : Int)) (hr : t[a]? = some r) : (someT t rs cs)[i]? = some (pickRow r cs) := by
  simp [someT, h, List.getD, hr]
theorem someT_rowsLen (t : List (List Int)) (rs cs : List Int) : RowsLen (someT t rs cs) cs.length := by
  intro k r hk
  simp only [someT, List.getElem?_map, Option.map_eq_some_iff] at hk
  obtain ⟨q, _, rfl⟩ := hk
  exact pickRow_len _ _
/-- All numbers of a list are indices below n. -/
def Idx (n : Nat) (xs : List Int) : Prop := ∀ x ∈ xs, 0 ≤ x ∧ x < n
theorem Idx.get {n k : Nat} {xs : List Int} {x : Int} (h : Idx n xs) (hk : xs[k]? = some x) : ∃ a : Nat, x = (a : Int) ∧ a < n := by
  have := h x (List.mem_of_getElem? hk)
  exact ⟨x.toNat, by omega, by omega⟩
end Go.Proofs.YtdmpokanfnlbgaaGreatDoor

namespace Go.Proofs.YtdmpokanfnlbgaaGreatDoor
open Go.RowKit
set_option linter.all false
def minTo (t : List (List Int)) (n k : Nat) : Nat → Int
  | 0 => 0
  | m + 1 => if (setTo m n).length = k then wrap64 (minTo t n k m + det k (someT t (setTo m n) (setTo m n))) else minTo t n k m
def sg (k : Nat) : Int := if k % 2 = 0 then 1 else -1
def pE (t : List (List Int)) (n k : Nat) : Int := wrap64 (sg k * minTo t n k (2 ^ n))
def polyL (t : List (List Int)) : List Int := (List.range (t.length + 1)).map (pE t t.length)
def cutN (p : List Int) : Nat → Nat
  | 0 => 0
  | n + 1 => if p.getD n 0 = 0 then cutN p n else n + 1
def cutZ (p : List Int) : List Int := p.take (cutN p p.length)
def turnedP (t : List (List Int)) : List Int := if isSmallM t then cutZ (polyL t) else []
def sameZ (a b : List (List Int)) : Bool := isSmallM a && (isSmallM b && eqL (turnedP a) (turnedP b))
theorem sg_next (k : Nat) : sg (k + 1) = -sg k := by unfold sg; split <;> split <;> omega
theorem sg_cases (k : Nat) : sg k = 1 ∨ sg k = -1 := by unfold sg; split <;> simp
theorem polyL_len (t : List (List Int)) : (polyL t).length = t.length + 1 := by simp [polyL]
theorem polyL_get {t : List (List Int)} {k : Nat} (h : k < t.length + 1) : (polyL t)[k]? = some (pE t t.length k) := by simp [polyL, h]
theorem cutN_le (p : List Int) (n : Nat) : cutN p n ≤ n := by
  induction n with
  | zero => exact Nat.le_refl _
  | succ n ih => unfold cutN; split <;> omega
theorem cutN_zero {p : List Int} {n : Nat} {x : Int} {R : Nat} (hx : p[n]? = some x) (h : cutN p (n + 1) = R) : (x = 0 → cutN p n = R) ∧ (x ≠ 0 → n + 1 = R) := by
  have e : p.getD n 0 = x := by simp [List.getD, hx]
  rw [cutN, e] at h
  constructor
  · intro h0; simpa [h0] using h
  · intro h0; simpa [h0] using h
theorem minTo_yes {t : List (List Int)} {n k m : Nat} (h : (setTo m n).length = k) : minTo t n k (m + 1) = wrap64 (minTo t n k m + det k (someT t (setTo m n) (setTo m n))) := by rw [minTo, if_pos h]
theorem minTo_no {t : List (List Int)} {n k m : Nat} (h : (setTo m n).length ≠ k) : minTo t n k (m + 1) = minTo t n k m := by rw [minTo, if_neg h]
def accS (t : List (List Int)) (k : Nat) (g : Int) (css : List (List Int)) (s : Int) : Int := css.foldl (fun s cs => wrap64 (s + wrap64 (g * det k (someT t cs cs)))) s
theorem accS_step {t : List (List Int)} {k i : Nat} {g s R : Int} {css : List (List Int)} {cs : List Int} (hc : css[i]? = some cs) (h : accS t k g (css.drop i) s = R) : accS t k g (css.drop (i + 1)) (wrap64 (s + wrap64 (g * det k (someT t cs cs)))) = R := by
  rw [drop_of_get hc] at h
  exact h
theorem accS_end {t : List (List Int)} {k i : Nat} {g s R : Int} {css : List (List Int)} (hi : css.length ≤ i) (h : accS t k g (css.drop i) s = R) : s = R := by
  rw [drop_all css i hi] at h
  exact h
theorem wr_pos (a z : Int) : wrap64 (wrap64 (1 * a) + wrap64 (1 * z)) = wrap64 (1 * wrap64 (a + z)) := by unfold wrap64; omega
theorem wr_neg (a z : Int) : wrap64 (wrap64 (-1 * a) + wrap64 (-1 * z)) = wrap64 (-1 * wrap64 (a + z)) := by unfold wrap64; omega
theorem accS_minTo {t : List (List Int)} {n k : Nat} {g : Int} (hg : g = 1 ∨ g = -1) : ∀ m, accS t k g (setsTo n k m) 0 = wrap64 (g * minTo t n k m)
  | 0 => by rcases hg with rfl | rfl <;> simp [accS, setsTo, minTo, wrap64]
  | m + 1 => by
    have ih := accS_minTo (t := t) (n := n) (k := k) hg m
    by_cases h : (setTo m n).length = k
    · rw [setsTo_yes h, minTo_yes h]
      unfold accS at ih ⊢
      rw [List.foldl_append, ih]
      simp only [List.foldl_cons, List.foldl_nil]
      rcases hg with rfl | rfl
      · exact wr_pos _ _
      · exact wr_neg _ _
    · rw [setsTo_no h, minTo_no h]; exact ih
theorem accS_pE {t : List (List Int)} {n k : Nat} : accS t k (sg k) (sets n k) 0 = pE t n k := accS_minTo (sg_cases k) _
/-- The numbers of the polynomial, the greatest power first, as far as power k. -/
def charL (t : List (List Int)) (n k : Nat) : List Int := (List.range (n + 1)).map fun j => if n - j < k then pE t n (n - j) else 0
theorem charL_len (t : List (List Int)) (n k : Nat) : (charL t n k).length = n + 1 := by simp [charL]
theorem charL_zero (t : List (List Int)) (n : Nat) : charL t n 0 = List.replicate (n + 1) 0 := by
  apply List.ext_getElem?
  intro i
  by_cases h : i < n + 1
  · simp [charL, h]
  · simp [charL, h]
theorem charL_get {t : List (List Int)} {n k : Nat} (h : k ≤ n) : (charL t n k)[n - k]? = some 0 := by
  have : n - (n - k) = k := by omega
  simp [charL, show n - k < n + 1 by omega, this]
theorem charL_set {t : List (List Int)} {n k : Nat} (h : k ≤ n) : (charL t n k).set (n - k) (pE t n k) = charL t n (k + 1) := by
  apply List.ext_getElem?
  intro i
  rw [List.getElem?_set]
  by_cases hi : n - k = i
  · subst hi
    have : n - (n - k) = k := by omega
    simp [charL, show n - k < n + 1 by omega, this]
  · rw [if_neg hi]
    by_cases hl : i < n + 1
    · have : (n - i < k) = (n - i < k + 1) := by apply propext; omega
      simp [charL, hl, this]
    · simp [charL, hl]
theorem charL_end {t : List (List Int)} {i : Nat} (h : i ≤ t.length) : (charL t t.length (t.length + 1))[t.length - i]? = (polyL t)[i]? := by
  have e : t.length - (t.length - i) = i := by omega
  rw [polyL_get (by omega)]
  simp [charL, show t.length - i < t.length + 1 by omega, e]
  omega
theorem set_idx (m n : Nat) : Idx n (setTo m n) := fun _ hx => setTo_mem hx
end Go.Proofs.YtdmpokanfnlbgaaGreatDoor

namespace Go.Proofs.YtdmpokanfnlbgaaGreatDoor
open Go.RowKit
set_option linter.all false
def RowsAt (w : World) (vs : List Value) (xss : List (List Int)) : Prop :=
  vs.length = xss.length ∧ ∀ (i : Nat) (u : Value) (r : List Int), vs[i]? = some u → xss[i]? = some r → ∃ ai ci, u = .slice ai r.length ci ∧ Ints w ai r.length r ∧ r.length ≤ ci
theorem RowsAt.nil (w : World) : RowsAt w [] [] := ⟨rfl, fun i u r h => by simp at h⟩
theorem RowsAt.push {w : World} {vs : List Value} {xss : List (List Int)} {r : List Int} {ai : Option Addr} {ci : Nat} (h : RowsAt w vs xss) (hr : Ints w ai r.length r) (hc : r.length ≤ ci) : RowsAt w (vs ++ [.slice ai r.length ci]) (xss ++ [r]) := by
  refine ⟨by simp [h.1], fun i u r' hu hx => ?_⟩
  by_cases hi : i < vs.length
  · rw [List.getElem?_append_left hi] at hu
    rw [List.getElem?_append_left (by rw [← h.1]; exact hi)] at hx
    exact h.2 i u r' hu hx
  · rw [List.getElem?_append_right (by omega)] at hu
    rw [List.getElem?_append_right (by rw [← h.1]; omega), ← h.1] at hx
    have hz : i - vs.length = 0 := by
      have := (List.getElem?_eq_some_iff.1 hu).1
      simp at this
      omega
    rw [hz] at hu hx
    simp at hu hx
    subst hu
    subst hx
    exact ⟨ai, ci, rfl, hr, hc⟩
theorem own_rows {w w' : World} {lo n : Nat} {v : Value} {vs : List Value} {xss : List (List Int)} (ho : w'.ownsRow lo 49 1 v n vs) (hn : n ≤ 1099511627776) (h : RowsAt w vs xss) (hb : Below w.heap.size w w') : ∃ ao cap, v = .slice ao n cap ∧ Intss w' ao n xss := by
  have hvl : vs.length = n := by simpa using ho.1
  rcases ho.2 with ⟨rfl, rfl⟩ | ⟨g, cap, cur, rfl, hg, hh, hnc, _, _, ht⟩
  · refine ⟨none, 0, rfl, by rw [← h.1]; exact hvl, by omega, fun i r hi => ?_⟩
    have := (List.getElem?_eq_some_iff.1 hi).1
    rw [← h.1] at this
    omega
  · refine ⟨some ⟨g, 0, none⟩, cap, rfl, by rw [← h.1]; exact hvl, hn, fun i r hi => ?_⟩
    have hil : i < vs.length := by rw [h.1]; exact (List.getElem?_eq_some_iff.1 hi).1
    have hv : vs[i]? = some vs[i] := List.getElem?_eq_getElem hil
    obtain ⟨ai, ci, e, hr, hc⟩ := h.2 i _ r hv hi
    have hcl := ho.cells (g := g) rfl i _ hv
    rw [Addr.add_lit, e] at hcl
    exact ⟨g, 0, ai, ci, rfl, hcl, hr.keep hb, hc⟩
theorem wpList_push_val {ops : Array Oper} {rest : List Oper} {o : Oper} {a : Act} {Q : Exit → Act → World → Prop} (W : World) (u : Value) (hgd : o.guard = none) (s x : Operand)
    (ho : o.op = .call { callee := .builtin .append, args := #[s, x], argTypes := #[24, 24] })
    (lo : Nat) (v : Value) (n : Nat) (vs : List Value) (hs : a.eval s = v) (h : W.ownsRow lo 49 1 v n vs) (hn : n + 1 ≤ 1099511627776) (hlo : lo ≤ W.heap.size) (hone : u.oneCell' = true)
    (tb : Nat) (htb : tb = W.heap.size) (hx : a.eval x = .slice (some ⟨tb, 0, none⟩) 1 1)
    (K : ∀ v' w', w'.ownsRow lo 49 1 v' (n + 1) (vs ++ [u]) → Below lo W w' → wpList Tryz.prog ops Q rest (a.put o.dst v') w') : wpList Tryz.prog ops Q (o :: rest) a (W.alloc (.cells #[u] 49)) := by
  subst htb
  obtain ⟨i0, hi, hz0, hz1, hz2⟩ := info_parts info_ints
  refine wpList_append_own _ hgd s x 24 ho lo 49 i0 (.slice none 0 0) 1 24 Tryz.underlying24 hi hz0 hz1 hz2 rfl (by decide) v n vs hs (h.alloc _) ⟨W.heap.size, 0, none⟩ 1 1 [u] hx rfl ?_ ?_ ?_ ?_ (by simp; omega) ?_
  · intro j u' hj
    match j, hj with
    | 0, hj =>
      simp at hj
      subst hj
      exact World.cell?_alloc_new _ _ _ _
  · intro u' hu'
    simp at hu'
    subst hu'
    exact hone
  · unfold maxLen; omega
  · omega
  · intro v' w' hown hgrow _
    exact K v' w' hown (((Below.refl lo W).alloc hlo _).grown hgrow (by simp; omega) (fun k hk => (h.lt k hk).1))
theorem elem_intss : Tryz.prog.elem 24 = 49 := by kernel_rfl
theorem sizeOf_ints (w : World) : (sizeOf 49).run Tryz.prog w = .ok 1 w := by
  obtain ⟨i, hi, _, hz, _⟩ := info_parts info_ints
  simp [sizeOf, typeInfo, hi, hz]
theorem slice_to2 (a : Option Addr) (len cap j : Nat) (hj : j ≤ cap) (w : World) :
    (Instr.slice 24 (.slice a len cap) none (some (.int .i64 (j : Int))) none).run Tryz.prog w = .ok (.slice a j cap) w := by
  rw [run_slice_h (P := Tryz.prog) w 24 a len cap (by rw [elem_intss]; exact Tryz.underlying24) .i64 (j : Int) (by omega) (by omega), elem_intss, sizeOf_ints]
  cases a <;> simp [sliced, Result.andThen, Addr.add]
theorem Intss.capLe {w : World} {lo n : Nat} {v : Value} {xss : List (List Int)} {ao : Option Addr} {m cap : Nat} (h : OIntss w lo v n xss) (e : v = .slice ao m cap) : n ≤ cap := by
  obtain ⟨_, _, vs, ho, _⟩ := h
  rcases ho.2 with ⟨rfl, rfl⟩ | ⟨g, c, cur, rfl, _, _, hnc, _⟩
  · exact Nat.zero_le _
  · injection e with _ _ e3
    omega
end Go.Proofs.YtdmpokanfnlbgaaGreatDoor

namespace Go.Proofs.YtdmpokanfnlbgaaGreatDoor
open Go.RowKit
set_option linter.all false
def isum : Int → List Int → Int
  | a, [] => a
  | a, x :: r => isum (wrap64 (a + x)) r
end Go.Proofs.YtdmpokanfnlbgaaGreatDoor

namespace Go.Proofs.YtdmpokanfnlbgaaGreatDoor
open Go.RowKit
set_option linter.all false
set_option maxHeartbeats 400000 in
theorem total_any (ao : Option Addr) (n cap : Nat) (xs : List Int) (w : World) (h : Ints w ao n xs) :
    Calls Tryz.prog 103 #[.slice ao n cap] w fun e w' => e = .returned (.int .i64 (isum 0 xs)) ∧ w = w' := by
  obtain ⟨hn, hm, hc⟩ := h
  subst hn
  go_enter Tryz.func103, Tryz.ntmps103
  go_wp2
  go_loop [3, 8] (fun s i => ∃ (k : Nat) (t : Int), k ≤ xs.length ∧ i = .int .i64 k ∧ s = .int .i64 t ∧ Hid (isum t (xs.drop k) = isum 0 xs)) (fun _ i => xs.length - (intOf i).toNat)
  case atStart => exact ⟨0, 0, Nat.zero_le _, rfl, rfl, rfl⟩
  case round =>
    obtain ⟨k, t, hk, rfl, rfl, hr⟩ := hrel
    by_cases hlt : k < xs.length
    · obtain ⟨b, o, rfl, hcell⟩ := hc k hlt
      clear hc
      go_wp2
      go_round
      case rel => exact ⟨k + 1, _, hlt, by go_num, rfl, by rw [List.drop_eq_getElem_cons hlt] at hr; exact hr⟩
      case measure => simp [intOf]; omega
    · go_wp2
      go_ret
      rw [drop_all xs k (by omega)] at hr
      exact ⟨by rw [← hr.out]; rfl, rfl⟩
end Go.Proofs.YtdmpokanfnlbgaaGreatDoor

namespace Go.Proofs.YtdmpokanfnlbgaaGreatDoor
open Go.RowKit
set_option linter.all false
theorem wrap_add (a x : Int) : wrap64 (wrap64 a + x) = wrap64 (a + x) := by unfold wrap64; omega
theorem isum_wrap : ∀ (r : List Int) (a : Int), isum (wrap64 a) r = wrap64 (a + r.sum)
  | [], a => by simp [isum]
  | x :: r, a => by
    show isum (wrap64 (wrap64 a + x)) r = _
    rw [wrap_add, isum_wrap r (a + x), List.sum_cons, Int.add_assoc]
theorem isum_zero (r : List Int) : isum 0 r = wrap64 r.sum := by
  have h := isum_wrap r 0
  rw [show wrap64 0 = 0 from by unfold wrap64; omega, Int.zero_add] at h
  exact h
theorem allIn_sum {hi : Int} (h0 : 0 ≤ hi) : ∀ (r : List Int), allIn 0 hi r = true → 0 ≤ r.sum ∧ r.sum ≤ hi * r.length
  | [], _ => by simp
  | x :: r, h => by
    simp only [allIn, List.all_cons, Bool.and_eq_true] at h
    have h1 := inR_true h.1
    have h2 := allIn_sum h0 r h.2
    simp only [List.sum_cons, List.length_cons]
    rw [Int.natCast_add, Int.mul_add]
    omega
theorem isum_row {hi : Int} {r : List Int} (h0 : 0 ≤ hi) (hh : hi ≤ 1000000) (h : allIn 0 hi r = true) (hl : r.length ≤ 1048576) : isum 0 r = r.sum ∧ 0 ≤ r.sum ∧ r.sum ≤ hi * r.length := by
  have hs := allIn_sum h0 r h
  have h2 : hi * r.length ≤ 1000000 * 1048576 := Int.mul_le_mul hh (by omega) (by omega) (by omega)
  rw [isum_zero]
  exact ⟨wrap_id ⟨by omega, by omega⟩, hs⟩

/-- The sum of all numbers. -/
def msum (xss : List (List Int)) : Int := (xss.map List.sum).sum
theorem msum_cons (r : List Int) (q : List (List Int)) : msum (r :: q) = r.sum + msum q := by simp [msum]
theorem msum_range {n : Nat} {hi : Int} (h0 : 0 ≤ hi) : ∀ (xss : List (List Int)), tabIn n 0 hi xss = true → 0 ≤ msum xss ∧ msum xss ≤ hi * n * xss.length
  | [], _ => by simp [msum]
  | r :: q, h => by
    simp only [tabIn, List.all_cons, Bool.and_eq_true, decide_eq_true_eq] at h
    have h1 := allIn_sum h0 r h.1.2
    have h2 := msum_range h0 q (by simpa [tabIn] using h.2)
    rw [msum_cons, List.length_cons, Int.natCast_add, Int.mul_add]
    rw [h.1.1] at h1
    omega
def sumOf (xss : List (List Int)) : Int := if isMat xss then msum xss else -1
def isGraph (xss : List (List Int)) : Bool := isMat xss && decide (sumOf xss ≤ 60)
theorem isMat_msum {xss : List (List Int)} (h : isMat xss = true) : 0 ≤ msum xss ∧ msum xss ≤ 81000000 := by
  have hl := isMat_len h
  simp only [isMat, Bool.and_eq_true] at h
  have := msum_range (by decide) xss h.1
  obtain ⟨n, hn⟩ : ∃ n, xss.length = n := ⟨_, rfl⟩
  rw [hn] at this hl
  have h2 : (1000000 : Int) * n * n ≤ 1000000 * 9 * 9 := by
    have a1 : (n : Int) * n ≤ 9 * 9 := Int.mul_le_mul (by omega) (by omega) (by omega) (by omega)
    rw [Int.mul_assoc, Int.mul_assoc]
    omega
  omega
theorem row_sum {xss : List (List Int)} (h : isMat xss = true) {k : Nat} {r : List Int} (hk : xss[k]? = some r) : isum 0 r = r.sum ∧ 0 ≤ r.sum ∧ r.sum ≤ 9000000 := by
  obtain ⟨h1, h2⟩ := isMat_row h hk
  have h3 := isMat_len h
  have h4 := isum_row (by decide) (by decide) h2 (by omega)
  refine ⟨h4.1, h4.2.1, ?_⟩
  have : (1000000 : Int) * r.length ≤ 9000000 := by omega
  omega
/-- What is still to come is not below 0. -/
theorem rest_nonneg {xss : List (List Int)} (h : isMat xss = true) (k : Nat) : 0 ≤ msum (xss.drop k) := by
  simp only [isMat, Bool.and_eq_true] at h
  have h1 : tabIn xss.length 0 1000000 (xss.drop k) = true := by
    simp only [tabIn, List.all_eq_true] at h ⊢
    exact fun r hr => h.1 r (List.mem_of_mem_drop hr)
  exact (msum_range (by decide) _ h1).1
theorem rest_row {hi : Int} {r : List Int} (h0 : 0 ≤ hi) (h : allIn 0 hi r = true) (k : Nat) : 0 ≤ (r.drop k).sum := by
  have h1 : allIn 0 hi (r.drop k) = true := by
    simp only [allIn, List.all_eq_true] at h ⊢
    exact fun x hx => h x (List.mem_of_mem_drop hx)
  exact (allIn_sum h0 _ h1).1
end Go.Proofs.YtdmpokanfnlbgaaGreatDoor

namespace Go.Proofs.YtdmpokanfnlbgaaGreatDoor
open Go.RowKit
set_option linter.all false
def negRow (d : Int) (r : List Int) : List Int := r.map (fun x => wrap64 (-d * x))
def lessRow (q d : Int) (i : Nat) (r : List Int) : List Int := (negRow d r).set i (wrap64 ((negRow d r).getD i 0 + q))
def lessT (q d : Int) (t : List (List Int)) : List (List Int) := (List.range t.length).map (fun i => lessRow q d i (t.getD i []))
theorem negRow_len (d : Int) (r : List Int) : (negRow d r).length = r.length := by simp [negRow]
theorem negRow_get {d : Int} {r : List Int} {j : Nat} {x : Int} (h : r[j]? = some x) : (negRow d r)[j]? = some (wrap64 (-d * x)) := by simp [negRow, h]
theorem lessT_len (q d : Int) (t : List (List Int)) : (lessT q d t).length = t.length := by simp [lessT]
theorem lessRow_len (q d : Int) (i : Nat) (r : List Int) : (lessRow q d i r).length = r.length := by simp [lessRow, negRow]
theorem lessT_get {q d : Int} {t : List (List Int)} {i : Nat} {r : List Int} (h : t[i]? = some r) : (lessT q d t)[i]? = some (lessRow q d i r) := by
  obtain ⟨hi, rfl⟩ := List.getElem?_eq_some_iff.1 h
  simp [lessT, hi, List.getD]
theorem lessT_rowsLen {q d : Int} {t : List (List Int)} {n : Nat} (h : RowsLen t n) : RowsLen (lessT q d t) n := by
  intro k r hk
  have hl := (List.getElem?_eq_some_iff.1 hk).1
  rw [lessT_len] at hl
  have h2 : t[k]? = some t[k] := List.getElem?_eq_getElem hl
  rw [lessT_get h2] at hk
  injection hk with hk
  subst hk
  rw [lessRow_len]
  exact h k _ h2
/-- The other program's form: 1 on the diagonal, less the table. -/
def tabRow (n i : Nat) (r : List Int) : List Int := (List.range n).map (fun j => wrap64 ((oneRow n i).getD j 0 - r.getD j 0))
def tabT (t : List (List Int)) : List (List Int) := (List.range t.length).map (fun i => tabRow t.length i (t.getD i []))
theorem tabRow_len (n i : Nat) (r : List Int) : (tabRow n i r).length = n := by simp [tabRow]
theorem tabT_len (t : List (List Int)) : (tabT t).length = t.length := by simp [tabT]
theorem tabT_get {t : List (List Int)} {i : Nat} {r : List Int} (h : t[i]? = some r) : (tabT t)[i]? = some (tabRow t.length i r) := by
  obtain ⟨hi, rfl⟩ := List.getElem?_eq_some_iff.1 h
  simp [tabT, hi, List.getD]
theorem tabRow_get {n i j : Nat} {r : List Int} {x y : Int} (hj : j < n) (hx : (oneRow n i)[j]? = some x) (hy : r[j]? = some y) : (tabRow n i r)[j]? = some (wrap64 (x - y)) := by
  simp [tabRow, hj, List.getD, hx, hy]
theorem tabT_rowsLen (t : List (List Int)) : RowsLen (tabT t) t.length := by
  intro k r hk
  simp only [tabT, List.getElem?_map, Option.map_eq_some_iff] at hk
  obtain ⟨q, _, rfl⟩ := hk
  exact tabRow_len _ _ _
theorem oneRow_get {n i j : Nat} (hj : j < n) : (oneRow n i)[j]? = some (if i = j then 1 else 0) := by
  unfold oneRow
  rw [List.getElem?_set]
  by_cases h : i = j
  · subst h; simp [hj]
  · simp [h, hj]
/-- They are one for a small matrix. -/
theorem tab_less {t : List (List Int)} (h : isSmallM t = true) : tabT t = lessT 1 1 t := by
  have hm := isSmallM_mat h
  unfold tabT lessT
  apply List.map_congr_left
  intro i hi
  have hi' : i < t.length := List.mem_range.1 hi
  have hr : t[i]? = some t[i] := List.getElem?_eq_getElem hi'
  have e : t.getD i [] = t[i] := by simp [List.getD, hi']
  rw [e]
  have hrl := (isMat_row hm.1 hr).1
  apply List.ext_getElem?
  intro j
  by_cases hj : j < t.length
  · have hx : t[i][j]? = some (t[i])[j] := List.getElem?_eq_getElem (by omega)
    have hb := isSmallM_get h hr hx
    rw [tabRow_get hj (oneRow_get hj) hx]
    unfold lessRow
    rw [List.getElem?_set]
    by_cases hij : i = j
    · subst hij
      rw [if_pos rfl, if_pos rfl, if_pos (by rw [negRow_len]; omega)]
      simp only [List.getD, negRow_get hx, Option.getD_some]
      congr 1
      unfold wrap64
      omega
    · rw [if_neg hij, if_neg hij, negRow_get hx]
      congr 1
      unfold wrap64
      omega
  · rw [List.getElem?_eq_none (by rw [tabRow_len]; omega), List.getElem?_eq_none (by rw [lessRow_len]; omega)]
end Go.Proofs.YtdmpokanfnlbgaaGreatDoor

namespace Go.Proofs.YtdmpokanfnlbgaaGreatDoor
open Go.RowKit
set_option linter.all false
def iota (n : Nat) : List Int := (List.range n).map fun (i : Nat) => (i : Int)
def partT (t : List (List Int)) (k : Nat) : List (List Int) := someT t (iota k) (iota k)
def belF (T : List (List Int)) : Nat → Nat → Bool
  | _, 0 => true
  | k, m + 1 => decide (0 < det (k + 1) (partT T (k + 1))) && belF T (k + 1) m
def belowM (m : List (List Int)) (q d : Int) : Bool := belF (lessT q d m) 0 m.length
def bis (f : Int → Bool) : Nat → Int → Int → Int
  | 0, lo, _ => lo
  | n + 1, lo, hi => if 1 < hi - lo then (if f ((lo + hi) / 2) then bis f n lo ((lo + hi) / 2) else bis f n ((lo + hi) / 2) hi) else lo
def floorG (m : List (List Int)) (d : Int) : Int := if isSmallM m && inR d 1 100 then bis (fun q => belowM m q d) 4000 0 (36 * d + 1) else -1
theorem iota_len (n : Nat) : (iota n).length = n := by simp [iota]
theorem iota_get {n k : Nat} (h : k < n) : (iota n)[k]? = some (k : Int) := by simp [iota, h]
theorem iota_push (n : Nat) : iota n ++ [(n : Int)] = iota (n + 1) := by simp [iota, List.range_succ]
theorem iota_idx {n k : Nat} (h : k ≤ n) : Idx n (iota k) := by
  intro x hx
  simp only [iota, List.mem_map, List.mem_range] at hx
  obtain ⟨i, hi, rfl⟩ := hx
  omega
theorem bel_step {T : List (List Int)} {k m n : Nat} {b : Bool} (hk : k < n) (hm : m = n - k) (h : belF T k m = b) :
    (0 < det (k + 1) (partT T (k + 1)) → belF T (k + 1) (n - (k + 1)) = b) ∧ (¬ 0 < det (k + 1) (partT T (k + 1)) → b = false) := by
  subst hm
  rw [show n - k = (n - (k + 1)) + 1 by omega, belF] at h
  constructor
  · intro e; simpa [e] using h
  · intro e; simpa [e] using h.symm
theorem bis_step {f : Int → Bool} {n : Nat} {lo hi R : Int} (hn : hi - lo ≤ n) (h1 : 1 < hi - lo) (h : bis f n lo hi = R) :
    ∃ m : Nat, m + 1 = n ∧ (f ((lo + hi) / 2) = true → bis f m lo ((lo + hi) / 2) = R) ∧ (f ((lo + hi) / 2) = false → bis f m ((lo + hi) / 2) hi = R) := by
  obtain ⟨m, rfl⟩ : ∃ m, n = m + 1 := ⟨n - 1, by omega⟩
  refine ⟨m, rfl, ?_, ?_⟩
  · intro e; simpa [bis, h1, e] using h
  · intro e; simpa [bis, h1, e] using h
theorem bis_end {f : Int → Bool} {n : Nat} {lo hi R : Int} (h1 : ¬ 1 < hi - lo) (h : bis f n lo hi = R) : lo = R := by
  cases n with
  | zero => exact h
  | succ m => simpa [bis, h1] using h
theorem partT_len (t : List (List Int)) (k : Nat) : (partT t k).length = k := by unfold partT; rw [someT_len, iota_len]
theorem partT_rowsLen (t : List (List Int)) (k : Nat) : RowsLen (partT t k) k := by
  have h := someT_rowsLen t (iota k) (iota k)
  rw [iota_len] at h
  exact h
theorem pick_iota {r : List Int} {k : Nat} (h : k ≤ r.length) : pickRow r (iota k) = r.take k := by
  apply List.ext_getElem?
  intro j
  by_cases hj : j < k
  · have hx : r[j]? = some r[j] := List.getElem?_eq_getElem (by omega)
    rw [pickRow_get (iota_get hj) hx, List.getElem?_take, if_pos hj, hx]
  · rw [List.getElem?_eq_none (by rw [pickRow_len, iota_len]; omega), List.getElem?_eq_none (by simp; omega)]
theorem partT_get {t : List (List Int)} {k i : Nat} {r : List Int} (hi : i < k) (hr : t[i]? = some r) (hk : k ≤ r.length) : (partT t k)[i]? = some (r.take k) := by
  unfold partT
  rw [someT_get (iota_get hi) hr, pick_iota hk]
/-- The table as numbers that do not wrap. -/
def qRow (q d : Int) (n i : Nat) (r : List Int) : List Int := (List.range n).map fun j => (if i = j then q else 0) - d * r.getD j 0
def qT (q d : Int) (t : List (List Int)) : List (List Int) := (List.range t.length).map fun i => qRow q d t.length i (t.getD i [])
theorem qRow_len (q d : Int) (n i : Nat) (r : List Int) : (qRow q d n i r).length = n := by simp [qRow]
theorem qT_len (q d : Int) (t : List (List Int)) : (qT q d t).length = t.length := by simp [qT]
theorem qT_get {q d : Int} {t : List (List Int)} {i : Nat} {r : List Int} (h : t[i]? = some r) : (qT q d t)[i]? = some (qRow q d t.length i r) := by
  obtain ⟨hi, rfl⟩ := List.getElem?_eq_some_iff.1 h
  simp [qT, hi, List.getD]
theorem qRow_get {q d : Int} {n i j : Nat} {r : List Int} {x : Int} (hj : j < n) (hx : r[j]? = some x) : (qRow q d n i r)[j]? = some ((if i = j then q else 0) - d * x) := by
  simp [qRow, hj, List.getD, hx]
theorem prod_range {d x : Int} (hd : 1 ≤ d) (hd2 : d ≤ 100) (hx : 0 ≤ x) (hx2 : x ≤ 9) : 0 ≤ d * x ∧ d * x ≤ 900 := by
  constructor
  · exact Int.mul_nonneg (by omega) hx
  · have h1 : d * x ≤ 100 * x := Int.mul_le_mul_of_nonneg_right hd2 hx
    omega
theorem wrap64_in {x : Int} (h1 : -1000000000000 ≤ x) (h2 : x ≤ 1000000000000) : wrap64 x = x := by unfold wrap64; omega
theorem qT_less {t : List (List Int)} {q d : Int} (h : isSmallM t = true) (hq : 0 ≤ q) (hq2 : q ≤ 4000) (hd : 1 ≤ d) (hd2 : d ≤ 100) : qT q d t = lessT q d t := by
  have hm := isSmallM_mat h
  unfold qT lessT
  apply List.map_congr_left
  intro i hi
  have hi' : i < t.length := List.mem_range.1 hi
  have hr : t[i]? = some t[i] := List.getElem?_eq_getElem hi'
  have e : t.getD i [] = t[i] := by simp [List.getD, hi']
  rw [e]
  have hrl := (isMat_row hm.1 hr).1
  apply List.ext_getElem?
  intro j
  by_cases hj : j < t.length
  · have hx : t[i][j]? = some (t[i])[j] := List.getElem?_eq_getElem (by omega)
    have hb := isSmallM_get h hr hx
    have hp := prod_range hd hd2 hb.1 hb.2
    rw [qRow_get hj hx]
    unfold lessRow
    rw [List.getElem?_set]
    have ew : wrap64 (-d * (t[i])[j]) = -(d * (t[i])[j]) := by rw [Int.neg_mul]; exact wrap64_in (by omega) (by omega)
    by_cases hij : i = j
    · subst hij
      rw [if_pos rfl, if_pos rfl, if_pos (by rw [negRow_len]; omega)]
      simp only [List.getD, negRow_get hx, Option.getD_some]
      rw [ew, wrap64_in (by omega) (by omega)]
      congr 1
      omega
    · rw [if_neg hij, if_neg hij, negRow_get hx, ew]
      congr 1
      omega
  · rw [List.getElem?_eq_none (by rw [qRow_len]; omega), List.getElem?_eq_none (by rw [lessRow_len]; omega)]
end Go.Proofs.YtdmpokanfnlbgaaGreatDoor

namespace Go.Proofs.YtdmpokanfnlbgaaGreatDoor
open Go.RowKit
set_option linter.all false
def bit (b : Bool) : Int := if b then 1 else 0
theorem l1Bit_any (b : Bool) (w : World) : Calls Tryz.prog 35 #[.bool b] w fun e w' => e = .returned (.int .i64 (bit b)) ∧ w = w' := by
  cases b
  · go_enter Tryz.func35, Tryz.ntmps35
    go_wp2_with fail
    go_ret
    exact ⟨rfl, rfl⟩
  · go_enter Tryz.func35, Tryz.ntmps35
    go_wp2_with fail
    go_ret
    exact ⟨rfl, rfl⟩
end Go.Proofs.YtdmpokanfnlbgaaGreatDoor

namespace Go.Proofs.YtdmpokanfnlbgaaGreatDoor
open Go.RowKit
set_option linter.all false
set_option maxHeartbeats 400000 in
theorem l4SameRow_any (ao : Option Addr) (n cap : Nat) (xs : List Int) (ao' : Option Addr) (n' cap' : Nat) (ys : List Int) (w : World) (h : Ints w ao n xs) (h' : Ints w ao' n' ys) :
    Calls Tryz.prog 84 #[.slice ao n cap, .slice ao' n' cap'] w fun e w' => e = .returned (.bool (eqL xs ys)) ∧ Drew w w' := by
  obtain ⟨hn, hm, hc⟩ := h
  obtain ⟨hn', hm', hc'⟩ := h'
  subst hn
  subst hn'
  by_cases hl : xs.length = ys.length
  · have HL := Lib.hid hl
    have hl1 : ((xs.length : Int) != (ys.length : Int)) = false := by simp [hl]
    clear hl
    go_enter Tryz.func84, Tryz.ntmps84
    go_wp2
    go_loopw [5] (fun i wr => ∃ k : Nat, k ≤ xs.length ∧ i = .int .i64 k ∧ Drew w wr ∧ Hid (eqL (xs.drop k) (ys.drop k) = eqL xs ys)) (fun i _ => xs.length - (intOf i).toNat)
    case atStart => exact ⟨0, Nat.zero_le _, rfl, Drew.refl w, rfl⟩
    case round =>
      obtain ⟨k, hk, rfl, ⟨m, rfl⟩, hr⟩ := hrel
      by_cases hlt : k < xs.length
      · have hlt' : k < ys.length := by have := HL.out; omega
        obtain ⟨b, o, rfl, hcell⟩ := hc k hlt
        obtain ⟨b', o', rfl, hcell'⟩ := hc' k hlt'
        clear hc hc'
        have hst := eqL_step hlt hlt' hr.out
        have Hst := Lib.hid hst
        clear hst
        by_cases he : xs[k] = ys[k]
        · have he1 : (xs[k] != ys[k]) = false := by simp [he]
          have hr1 : Hid _ := Hst.out.1 he
          clear he Hst hr
          go_wp2_with fail
          go_quiet (fail)
          go_wp2
          go_roundw
          case rel => exact ⟨k + 1, hlt, by go_num, (by first | exact Drew.refl _ | exact Drew.mk _ _ | exact (Drew.mk _ _).drewN _), hr1⟩
          case measure => simp [intOf]; omega
        · have he1 : (xs[k] != ys[k]) = true := by simp [he]
          have hr1 : Hid _ := Hst.out.2 he
          clear he Hst hr
          go_wp2_with fail
          go_quiet (fail)
          go_wp2
          go_ret
          exact ⟨ret_bool hr1.out.symm, (by first | exact Drew.refl _ | exact Drew.mk _ _ | exact (Drew.mk _ _).drewN _)⟩
      · go_wp2
        go_ret
        rw [eqL_nil (by omega) (by have := HL.out; omega)] at hr
        exact ⟨ret_bool hr.out, (by first | exact Drew.refl _ | exact Drew.mk _ _ | exact (Drew.mk _ _).drewN _)⟩
  · have hl1 : ((xs.length : Int) != (ys.length : Int)) = true := by simp; omega
    have HL : Hid _ := eqL_len hl
    clear hl
    go_enter Tryz.func84, Tryz.ntmps84
    go_wp2
    go_ret
    exact ⟨ret_bool HL.out.symm, Drew.refl w⟩
end Go.Proofs.YtdmpokanfnlbgaaGreatDoor

namespace Go.Proofs.YtdmpokanfnlbgaaGreatDoor
open Go.RowKit
set_option linter.all false
set_option maxHeartbeats 400000 in
theorem slicesEqual_any (ao : Option Addr) (n cap : Nat) (xs : List Int) (ao' : Option Addr) (n' cap' : Nat) (ys : List Int) (w : World) (h : Ints w ao n xs) (h' : Ints w ao' n' ys) :
    Calls Tryz.prog 83 #[.slice ao n cap, .slice ao' n' cap'] w fun e w' => e = .returned (.bool (eqL xs ys)) ∧ Drew w w' := by
  obtain ⟨hn, hm, hc⟩ := h
  obtain ⟨hn', hm', hc'⟩ := h'
  subst hn
  subst hn'
  by_cases hl : xs.length = ys.length
  · have HL := Lib.hid hl
    have hl1 : ((xs.length : Int) != (ys.length : Int)) = false := by simp [hl]
    clear hl
    go_enter Tryz.func83, Tryz.ntmps83
    go_wp2
    go_loopw [13] (fun i wr => ∃ k : Nat, k ≤ xs.length ∧ i = .int .i64 k ∧ Drew w wr ∧ Hid (eqL (xs.drop k) (ys.drop k) = eqL xs ys)) (fun i _ => xs.length - (intOf i).toNat)
    case atStart => exact ⟨0, Nat.zero_le _, rfl, Drew.refl w, rfl⟩
    case round =>
      obtain ⟨k, hk, rfl, ⟨m, rfl⟩, hr⟩ := hrel
      by_cases hlt : k < xs.length
      · have hlt' : k < ys.length := by have := HL.out; omega
        obtain ⟨b, o, rfl, hcell⟩ := hc k hlt
        obtain ⟨b', o', rfl, hcell'⟩ := hc' k hlt'
        clear hc hc'
        have hst := eqL_step hlt hlt' hr.out
        have Hst := Lib.hid hst
        clear hst
        by_cases he : xs[k] = ys[k]
        · have he1 : (xs[k] != ys[k]) = false := by simp [he]
          have hr1 : Hid _ := Hst.out.1 he
          clear he Hst hr
          go_wp2_with fail
          go_quiet (fail)
          go_wp2
          go_roundw
          case rel => exact ⟨k + 1, hlt, by go_num, (by first | exact Drew.refl _ | exact Drew.mk _ _ | exact (Drew.mk _ _).drewN _), hr1⟩
          case measure => simp [intOf]; omega
        · have he1 : (xs[k] != ys[k]) = true := by simp [he]
          have hr1 : Hid _ := Hst.out.2 he
          clear he Hst hr
          go_wp2_with fail
          go_quiet (fail)
          go_wp2
          go_ret
          exact ⟨ret_bool hr1.out.symm, (by first | exact Drew.refl _ | exact Drew.mk _ _ | exact (Drew.mk _ _).drewN _)⟩
      · go_wp2
        go_ret
        rw [eqL_nil (by omega) (by have := HL.out; omega)] at hr
        exact ⟨ret_bool hr.out, (by first | exact Drew.refl _ | exact Drew.mk _ _ | exact (Drew.mk _ _).drewN _)⟩
  · have hl1 : ((xs.length : Int) != (ys.length : Int)) = true := by simp; omega
    have HL : Hid _ := eqL_len hl
    clear hl
    go_enter Tryz.func83, Tryz.ntmps83
    go_wp2
    go_ret
    exact ⟨ret_bool HL.out.symm, Drew.refl w⟩
end Go.Proofs.YtdmpokanfnlbgaaGreatDoor
