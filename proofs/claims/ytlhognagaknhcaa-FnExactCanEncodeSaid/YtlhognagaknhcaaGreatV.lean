/- What the greatest vector is: none where the test at the door falls, or all numbers become 0. -/
import Derived.Test.YtlhognagaknhcaaGreatest
namespace Go.Proofs.Ytlhognagaknhcaa
open Go.RowKit
set_option linter.all false
def greatOk (m : List (List Int)) (a b : Int) : Bool := isGraph m && (inR a 1 9 && inR b 1 9)
def greatL (m : List (List Int)) (a b : Int) : List Int := gvN m a (List.replicate m.length b)
def great (m : List (List Int)) (a b : Int) : Bool := greatOk m a b && !((greatL m a b).sum == 0)
def greatV (m : List (List Int)) (a b : Int) : List Int := if great m a b then greatL m a b else []
theorem nine_rep {n : Nat} {b : Int} (h : inR b 1 9 = true) : Nine n (List.replicate n b) := by
  have := inR_true h
  refine ⟨by simp, fun x hx => ?_⟩
  rw [List.mem_replicate] at hx
  omega
theorem nine_all9 {n : Nat} {v : List Int} (h : Nine n v) : all9 v = true := by
  simp only [all9, List.all_eq_true]
  intro x hx
  exact inR_mk (h.2 x hx)
theorem nine_isum {n : Nat} {v : List Int} (h : Nine n v) (hn : n ≤ 1048576) : isum 0 v = v.sum := by
  have h1 : allIn 0 9 v = true := nine_all9 h
  exact (isum_row (by decide) (by decide) h1 (by rw [h.1]; exact hn)).1
theorem nine_vsum {n : Nat} {v : List Int} (h : Nine n v) (hn : n ≤ 9) : vsum v = v.sum := by
  unfold vsum
  rw [if_neg (by rw [h.1]; omega), nine_all9 h]
  simp only [if_true]
  exact nine_isum h (by omega)
end Go.Proofs.Ytlhognagaknhcaa
