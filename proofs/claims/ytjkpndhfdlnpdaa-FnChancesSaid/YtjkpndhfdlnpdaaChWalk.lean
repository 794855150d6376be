/- The chance of a walk: products of chances along it. -/
import Derived.Test.YtjkpndhfdlnpdaaBothT
namespace Go.Proofs.Ytjkpndhfdlnpdaa
open Go.RowKit
set_option linter.all false
def chTop (t : List (List Int)) : Int → List Int → Int
  | a, x :: y :: r => chTop t (wrap64 (a * en t x.toNat y.toNat)) (y :: r)
  | a, _ => a
def chLow (s : Int) : Int → List Int → Int
  | b, _ :: y :: r => chLow s (wrap64 (b * s)) (y :: r)
  | b, _ => b
def walkOk (t : List (List Int)) (ws : List Int) : Bool := restOk t && (inR ws.length 1 6 && allIn 0 ((t.length : Int) - 1) ws)
def chA (t : List (List Int)) (ws : List Int) : Int := if walkOk t ws then chTop t ((restV t).getD (ws.getD 0 0).toNat 0) ws else 0
def chB (t : List (List Int)) (ws : List Int) : Int := if walkOk t ws then chLow (isum 0 (t.getD 0 [])) (isum 0 (restV t)) ws else 0
theorem chTop_step {t : List (List Int)} {ws : List Int} {k : Nat} {x y a R : Int} (hx : ws[k]? = some x) (hy : ws[k + 1]? = some y) (h : chTop t a (ws.drop k) = R) : chTop t (wrap64 (a * en t x.toNat y.toNat)) (ws.drop (k + 1)) = R := by
  rw [drop_of_get hx, drop_of_get hy] at h
  rw [drop_of_get hy]
  exact h
theorem chLow_step {s : Int} {ws : List Int} {k : Nat} {x y a R : Int} (hx : ws[k]? = some x) (hy : ws[k + 1]? = some y) (h : chLow s a (ws.drop k) = R) : chLow s (wrap64 (a * s)) (ws.drop (k + 1)) = R := by
  rw [drop_of_get hx, drop_of_get hy] at h
  rw [drop_of_get hy]
  exact h
theorem chTop_end {t : List (List Int)} {ws : List Int} {k : Nat} {a R : Int} (hk : ws.length ≤ k + 1) (h : chTop t a (ws.drop k) = R) : a = R := by
  have hl : (ws.drop k).length ≤ 1 := by simp; omega
  generalize ws.drop k = q at *
  match q, hl with
  | [], _ => exact h
  | [_], _ => exact h
theorem chLow_end {s : Int} {ws : List Int} {k : Nat} {a R : Int} (hk : ws.length ≤ k + 1) (h : chLow s a (ws.drop k) = R) : a = R := by
  have hl : (ws.drop k).length ≤ 1 := by simp; omega
  generalize ws.drop k = q at *
  match q, hl with
  | [], _ => exact h
  | [_], _ => exact h
/-- A number of a list that lies in it as an index. -/
theorem allIn_nat {n : Nat} {xs : List Int} (h : allIn 0 ((n : Int) - 1) xs = true) {k : Nat} {x : Int} (hk : xs[k]? = some x) : ∃ u : Nat, x = (u : Int) ∧ u < n := by
  have := allIn_get h hk
  exact ⟨x.toNat, by omega, by omega⟩
theorem restV_len {t : List (List Int)} (h : restOk t = true) : (restV t).length = t.length := by
  rw [show restV t = redL (cofL t) by simp [restV, h], redL_len, cofL_len]
end Go.Proofs.Ytjkpndhfdlnpdaa
