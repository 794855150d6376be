/- The common divisors of all minors of k rows. -/
import Derived.Test.YtlhognagaknhcaaDetB
import Derived.Test.YtlhognagaknhcaaGcd
import Derived.Test.YtlhognagaknhcaaSets
import Derived.Test.YtlhognagaknhcaaSomeT
import Derived.Test.YtlhognagaknhcaaSmith
namespace Go.Proofs.Ytlhognagaknhcaa
open Go.RowKit
set_option linter.all false
def gcdRow (t : List (List Int)) (k : Nat) (rs : List Int) : List (List Int) → Int → Int
  | [], g => g
  | cs :: css, g => gcdRow t k rs css (gcdI g (det k (someT t rs cs)))
def gcdAll (t : List (List Int)) (k : Nat) (css : List (List Int)) : List (List Int) → Int → Int
  | [], g => g
  | rs :: rss, g => gcdAll t k css rss (gcdRow t k rs css g)
def minorsI (t : List (List Int)) (k : Nat) : Int := gcdAll t k (sets t.length k) (sets t.length k) 0
def minorsOf (t : List (List Int)) (k : Int) : Int := if smith t && inR k 0 t.length then minorsI t k.toNat else -1
theorem gcdRow_step {t : List (List Int)} {k j : Nat} {rs cs : List Int} {css : List (List Int)} {g b : Int} (hc : css[j]? = some cs) (h : gcdRow t k rs (css.drop j) g = b) :
    gcdRow t k rs (css.drop (j + 1)) (gcdI g (det k (someT t rs cs))) = b := by
  rw [drop_of_get hc] at h
  exact h
theorem gcdRow_end {t : List (List Int)} {k j : Nat} {rs : List Int} {css : List (List Int)} {g b : Int} (hj : css.length ≤ j) (h : gcdRow t k rs (css.drop j) g = b) : g = b := by
  rw [drop_all css j hj] at h
  exact h
theorem gcdAll_step {t : List (List Int)} {k j : Nat} {rs : List Int} {css rss : List (List Int)} {g b : Int} (hc : rss[j]? = some rs) (h : gcdAll t k css (rss.drop j) g = b) :
    gcdAll t k css (rss.drop (j + 1)) (gcdRow t k rs css g) = b := by
  rw [drop_of_get hc] at h
  exact h
theorem gcdAll_end {t : List (List Int)} {k j : Nat} {css rss : List (List Int)} {g b : Int} (hj : rss.length ≤ j) (h : gcdAll t k css (rss.drop j) g = b) : g = b := by
  rw [drop_all rss j hj] at h
  exact h
theorem smith_bnd {t : List (List Int)} (h : smith t = true) : Bnd 100 t := by
  intro r hr x hx
  obtain ⟨k, hk⟩ := List.getElem?_of_mem hr
  obtain ⟨j, hj⟩ := List.getElem?_of_mem hx
  exact allIn_get (smith_row h hk).2 hj
theorem smith_rowsLen {t : List (List Int)} {n : Nat} (h : smith t = true) (hn : t.length = n) : RowsLen t n := fun _ _ hk => by rw [← hn]; exact (smith_row h hk).1
theorem Bnd.some_ {B : Int} {t : List (List Int)} (h : Bnd B t) (hB : 0 ≤ B) (rs cs : List Int) : Bnd B (someT t rs cs) := by
  intro r hr x hx
  unfold someT at hr
  obtain ⟨a, _, rfl⟩ := List.mem_map.1 hr
  unfold pickRow at hx
  obtain ⟨c, _, rfl⟩ := List.mem_map.1 hx
  cases h1 : t[a.toNat]? with
  | none => simp [List.getD, h1]; omega
  | some q =>
    cases h2 : q[c.toNat]? with
    | none => simp [List.getD, h1, h2]; omega
    | some y =>
      simp only [List.getD, h1, h2, Option.getD_some]
      exact h q (List.mem_of_getElem? h1) y (List.mem_of_getElem? h2)
theorem dmax100 : ∀ k, k ≤ 4 → dmax 100 k ≤ 4611686018427387904 := by decide
theorem some_small {t : List (List Int)} (h : Bnd 100 t) {k : Nat} (hk : k ≤ 4) {rs cs : List Int} (h1 : rs.length = k) (h2 : cs.length = k) : Small62 (det k (someT t rs cs)) := by
  have hb := det_bound (B := 100) (by omega) (by omega) k (someT t rs cs) (by rw [someT_len, h1]) (by rw [← h2]; exact someT_rowsLen t rs cs) (h.some_ (by omega) rs cs) (fun m hm => dmax100 m (by omega))
  have := dmax100 k hk
  exact ⟨by omega, by omega⟩
theorem sets_get {n k i : Nat} {s : List Int} (h : (sets n k)[i]? = some s) : s.length = k ∧ Idx n s := setsTo_mem (List.mem_of_getElem? h)
end Go.Proofs.Ytlhognagaknhcaa
