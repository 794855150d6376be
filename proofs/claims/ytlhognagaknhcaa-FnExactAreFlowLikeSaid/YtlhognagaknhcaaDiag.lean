/- The numbers of the diagonal form: each common divisor of minors, divided by that before. -/
import Derived.Test.YtlhognagaknhcaaMinorsF
import Derived.Test.YtlhognagaknhcaaRank
namespace Go.Proofs.Ytlhognagaknhcaa
open Go.RowKit
set_option linter.all false
def diagL (t : List (List Int)) : Nat → Nat → Int → List Int
  | 0, _, _ => []
  | c + 1, k, b => if minorsI t k = 0 then 0 :: diagL t c (k + 1) b else (minorsI t k).tdiv b :: diagL t c (k + 1) (minorsI t k)
def diagN (t : List (List Int)) : List Int := diagL t t.length 1 1
def diagV (t : List (List Int)) : List Int := if smith t then diagN t else []
theorem diagL_len (t : List (List Int)) : ∀ (c k : Nat) (b : Int), (diagL t c k b).length = c
  | 0, _, _ => rfl
  | c + 1, k, b => by
    unfold diagL
    split <;> simp [diagL_len t c]
theorem diagN_len (t : List (List Int)) : (diagN t).length = t.length := diagL_len t _ _ _
theorem cons_drop {α : Type} {l : List α} {j : Nat} {x : α} {r : List α} (h : x :: r = l.drop j) : l[j]? = some x ∧ r = l.drop (j + 1) := by
  constructor
  · have : (l.drop j)[0]? = some x := by rw [← h]; rfl
    simpa using this
  · have : (l.drop j).drop 1 = r := by rw [← h]; rfl
    rw [← this, List.drop_drop]
theorem diag_zero {t : List (List Int)} {c j : Nat} {b : Int} (h : diagL t (c + 1) (j + 1) b = (diagN t).drop j) (h0 : minorsI t (j + 1) = 0) : (diagN t)[j]? = some 0 ∧ diagL t c (j + 2) b = (diagN t).drop (j + 1) := by
  unfold diagL at h
  rw [if_pos h0] at h
  exact cons_drop h
theorem diag_step {t : List (List Int)} {c j : Nat} {b : Int} (h : diagL t (c + 1) (j + 1) b = (diagN t).drop j) (h0 : minorsI t (j + 1) ≠ 0) : (diagN t)[j]? = some ((minorsI t (j + 1)).tdiv b) ∧ diagL t c (j + 2) (minorsI t (j + 1)) = (diagN t).drop (j + 1) := by
  unfold diagL at h
  rw [if_neg h0] at h
  exact cons_drop h
theorem gcdRow_small {t : List (List Int)} {k : Nat} {rs : List Int} : ∀ (css : List (List Int)) (g : Int), (∀ cs ∈ css, Small62 (det k (someT t rs cs))) → 0 ≤ g → Small62 g → 0 ≤ gcdRow t k rs css g ∧ Small62 (gcdRow t k rs css g)
  | [], g, _, h0, h1 => ⟨h0, h1⟩
  | cs :: css, g, hd, _, h1 => by
    unfold gcdRow
    have h2 := gcdI_small h1 (hd cs (by simp))
    exact gcdRow_small css _ (fun c hc => hd c (by simp [hc])) h2.1 h2.2
theorem gcdAll_small {t : List (List Int)} {k : Nat} {css : List (List Int)} : ∀ (rss : List (List Int)) (g : Int), (∀ rs ∈ rss, ∀ cs ∈ css, Small62 (det k (someT t rs cs))) → 0 ≤ g → Small62 g → 0 ≤ gcdAll t k css rss g ∧ Small62 (gcdAll t k css rss g)
  | [], g, _, h0, h1 => ⟨h0, h1⟩
  | rs :: rss, g, hd, h0, h1 => by
    unfold gcdAll
    have h2 := gcdRow_small (t := t) (k := k) (rs := rs) css g (hd rs (by simp)) h0 h1
    exact gcdAll_small rss _ (fun c hc => hd c (by simp [hc])) h2.1 h2.2
theorem minorsI_small {t : List (List Int)} {k : Nat} (hs : Bnd 100 t) (hk : k ≤ 4) : 0 ≤ minorsI t k ∧ Small62 (minorsI t k) := by
  unfold minorsI
  refine gcdAll_small _ _ (fun rs hrs cs hcs => some_small hs hk (setsTo_mem hrs).1 (setsTo_mem hcs).1) (by omega) ⟨by omega, by omega⟩
theorem minorsOf_in {t : List (List Int)} {n j : Nat} (hs : smith t = true) (hl : t.length = n) (hj : j < n) : minorsOf t ((j : Int) + 1) = minorsI t (j + 1) := by
  have e : (j : Int) + 1 = ((j + 1 : Nat) : Int) := by omega
  rw [e]
  simp only [minorsOf, hl, hs, inR_mk (x := ((j + 1 : Nat) : Int)) (lo := 0) (hi := n) ⟨by omega, by omega⟩, Bool.and_self, if_true, Int.toNat_natCast]
end Go.Proofs.Ytlhognagaknhcaa
