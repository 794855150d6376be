/- How many arcs lead from state to state. -/
import Derived.Test.YtnoghnalopdflaaLabT
import Derived.Test.YtnoghnalopdflaaBase
namespace Go.Proofs.Ytnoghnalopdflaa
open Go.RowKit
set_option linter.all false
def Rows (T : List (List Int)) (m : Nat) : Prop := T.length = m ∧ ∀ r ∈ T, r.length = m
def bump (T : List (List Int)) (a b : Nat) : List (List Int) := T.set a ((T.getD a []).set b (wrap64 ((T.getD a []).getD b 0 + 1)))
def matT : List (List Int) → List Ar → List (List Int)
  | T, [] => T
  | T, x :: r => matT (bump T x.1.toNat x.2.1.toNat) r
theorem rows_get {T : List (List Int)} {m a : Nat} (h : Rows T m) (ha : a < m) : T[a]? = some (T.getD a []) ∧ (T.getD a []).length = m := by
  have hl : a < T.length := by rw [h.1]; exact ha
  have h1 : T[a]? = some T[a] := List.getElem?_eq_getElem hl
  have h2 : T.getD a [] = T[a] := by simp [List.getD, h1]
  exact ⟨by rw [h2]; exact h1, by rw [h2]; exact h.2 _ (List.getElem_mem _)⟩
theorem rows_bump {T : List (List Int)} {m a b : Nat} (h : Rows T m) (ha : a < m) : Rows (bump T a b) m := by
  refine ⟨by simp [bump, h.1], fun r hr => ?_⟩
  rcases List.mem_or_eq_of_mem_set hr with h1 | h1
  · exact h.2 r h1
  · rw [h1, List.length_set]; exact (rows_get h ha).2
theorem rows_zero (m : Nat) : Rows (List.replicate m (List.replicate m 0)) m := ⟨by simp, fun r hr => by rw [(List.mem_replicate.1 hr).2]; simp⟩
theorem mat_step {T R : List (List Int)} {xs : List Ar} {k a b : Nat} {z : Int} (hx : xs[k]? = some ((a : Int), (b : Int), z)) (h : matT T (xs.drop k) = R) : matT (bump T a b) (xs.drop (k + 1)) = R := by
  rw [drop_of_get hx] at h
  exact h
theorem mat_end {T R : List (List Int)} {xs : List Ar} {k : Nat} (hk : xs.length ≤ k) (h : matT T (xs.drop k) = R) : T = R := by
  rw [drop_all xs k hk] at h
  exact h
def matOk (L S : Int) (xs : List Ar) : Bool := isLab L S xs && decide (S ≤ 9)
def matV (L S : Int) (xs : List Ar) : List (List Int) := if matOk L S xs then matT (List.replicate S.toNat (List.replicate S.toNat 0)) xs else []
theorem matT_rows {m : Nat} {s l : Int} (hs : s < m) : ∀ {xs : List Ar} {T : List (List Int)}, (∀ x ∈ xs, arcB s l x = true) → Rows T m → Rows (matT T xs) m
  | [], _, _, h => h
  | (x, y, z) :: r, T, hx, h => by
    have h1 := arcB_get (hx _ (List.mem_cons_self ..))
    show Rows (matT (bump T x.toNat y.toNat) r) m
    refine matT_rows hs (fun q hq => hx q (List.mem_cons_of_mem _ hq)) (rows_bump h (by omega))
theorem matV_rows {L S : Int} {xs : List Ar} (h : matOk L S xs = true) : Rows (matV L S xs) S.toNat ∧ S.toNat ≤ 9 := by
  rw [matV, if_pos h]
  simp only [matOk, Bool.and_eq_true, decide_eq_true_eq] at h
  obtain ⟨_, hS, hok⟩ := isLab_get h.1
  exact ⟨matT_rows (s := S - 1) (l := L - 1) (by omega) (okFrom_all hok) (rows_zero _), by omega⟩
end Go.Proofs.Ytnoghnalopdflaa
