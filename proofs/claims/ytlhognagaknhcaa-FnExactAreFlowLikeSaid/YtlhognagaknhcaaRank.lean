/- The greatest k with a minor of k rows that is not 0. -/
import Derived.Test.YtlhognagaknhcaaMinorsF
namespace Go.Proofs.Ytlhognagaknhcaa
open Go.RowKit
set_option linter.all false
def rankF (t : List (List Int)) : Nat → Nat
  | 0 => 0
  | n + 1 => if minorsI t (n + 1) = 0 then rankF t n else n + 1
def rankOf (t : List (List Int)) : Int := if smith t then (rankF t t.length : Int) else -1
theorem gcdI_zero {a b : Int} : gcdI a b = 0 ↔ a = 0 ∧ b = 0 := by
  unfold gcdI
  rw [← Int.gcd_eq_zero_iff]
  omega
theorem gcdRow_zero {t : List (List Int)} {k : Nat} {rs : List Int} : ∀ (css : List (List Int)) (g : Int), gcdRow t k rs css g = 0 ↔ g = 0 ∧ ∀ cs ∈ css, det k (someT t rs cs) = 0
  | [], g => by simp [gcdRow]
  | cs :: css, g => by
    unfold gcdRow
    rw [gcdRow_zero css, gcdI_zero]
    simp only [List.mem_cons, forall_eq_or_imp, and_assoc]
theorem gcdAll_zero {t : List (List Int)} {k : Nat} {css : List (List Int)} : ∀ (rss : List (List Int)) (g : Int), gcdAll t k css rss g = 0 ↔ g = 0 ∧ ∀ rs ∈ rss, ∀ cs ∈ css, det k (someT t rs cs) = 0
  | [], g => by simp [gcdAll]
  | rs :: rss, g => by
    unfold gcdAll
    rw [gcdAll_zero rss, gcdRow_zero]
    simp only [List.mem_cons, forall_eq_or_imp, and_assoc]
theorem sets_erase_all : ∀ n : Fin 5, ∀ k : Fin 4, ∀ s ∈ sets n.val (k.val + 1), ∀ j : Fin 5, j.val ≤ k.val → s.eraseIdx j.val ∈ sets n.val k.val := by decide
theorem sets_erase {n k j : Nat} {s : List Int} (hn : n ≤ 4) (hk : k < 4) (h : s ∈ sets n (k + 1)) (hj : j ≤ k) : s.eraseIdx j ∈ sets n k :=
  sets_erase_all ⟨n, by omega⟩ ⟨k, hk⟩ s h ⟨j, by omega⟩ hj
theorem minor_some (t : List (List Int)) (rs cs : List Int) (i j : Nat) : minorT (someT t rs cs) i j = someT t (rs.eraseIdx i) (cs.eraseIdx j) := by
  unfold minorT someT
  rw [List.eraseIdx_eq_take_drop_succ, List.eraseIdx_eq_take_drop_succ, List.eraseIdx_eq_take_drop_succ, ← List.map_take, ← List.map_drop, ← List.map_append, List.map_map]
  apply List.map_congr_left
  intro a _
  simp only [Function.comp, cut, pickRow, List.map_append, List.map_take, List.map_drop]
theorem minors_mono {t : List (List Int)} {k : Nat} (hn : t.length ≤ 4) (hk : k < t.length) (h : minorsI t k = 0) : minorsI t (k + 1) = 0 := by
  unfold minorsI at *
  rw [gcdAll_zero] at h ⊢
  refine ⟨rfl, fun rs hrs cs hcs => ?_⟩
  unfold det
  apply dloop_null
  intro j _ hj
  have hc := (setsTo_mem hcs).1
  have hr := (setsTo_mem hrs).1
  obtain ⟨r0, h0⟩ : ∃ r0, (someT t rs cs)[0]? = some r0 := ⟨_, List.getElem?_eq_getElem (by rw [someT_len]; omega)⟩
  have h1 := someT_rowsLen t rs cs 0 _ h0
  have e : (someT t rs cs).getD 0 [] = r0 := by simp [List.getD, h0]
  rw [e, h1] at hj
  rw [minor_some]
  exact h.2 _ (sets_erase hn (by omega) hrs (by omega)) _ (sets_erase hn (by omega) hcs (by omega))
theorem minors_null {t : List (List Int)} (hn : t.length ≤ 4) {k : Nat} (h : minorsI t k = 0) : ∀ m, k ≤ m → m ≤ t.length → minorsI t m = 0 := by
  intro m
  induction m with
  | zero => intro h1 _; have : k = 0 := by omega
            rw [← this]; exact h
  | succ m ih =>
    intro h1 h2
    by_cases e : k = m + 1
    · rw [← e]; exact h
    · exact minors_mono hn (by omega) (ih (by omega) (by omega))
theorem rankF_skip {t : List (List Int)} {r : Nat} : ∀ n, r ≤ n → (∀ m, r < m → m ≤ n → minorsI t m = 0) → rankF t n = rankF t r
  | 0, h, _ => by have : r = 0 := by omega
                  rw [this]
  | n + 1, h, hm => by
    by_cases e : r = n + 1
    · rw [e]
    · have e2 : rankF t (n + 1) = rankF t n := by
        show (if minorsI t (n + 1) = 0 then rankF t n else n + 1) = rankF t n
        rw [if_pos (hm (n + 1) (by omega) (Nat.le_refl _))]
      rw [e2]
      exact rankF_skip n (by omega) (fun m h1 h2 => hm m h1 (by omega))
theorem rankF_top {t : List (List Int)} {r : Nat} (h : r = 0 ∨ minorsI t r ≠ 0) : rankF t r = r := by
  cases r with
  | zero => rfl
  | succ r =>
    unfold rankF
    rw [if_neg (by rcases h with h | h; · omega
                   · exact h)]
/-- What the other program finds, counting upwards. -/
theorem rank_up {t : List (List Int)} (hn : t.length ≤ 4) {r : Nat} (hr : r ≤ t.length) (h1 : r = 0 ∨ minorsI t r ≠ 0) (h2 : r = t.length ∨ minorsI t (r + 1) = 0) : rankF t t.length = r := by
  rw [rankF_skip t.length hr, rankF_top h1]
  intro m h3 h4
  rcases h2 with h2 | h2
  · omega
  · exact minors_null hn h2 m h3 h4
end Go.Proofs.Ytlhognagaknhcaa
