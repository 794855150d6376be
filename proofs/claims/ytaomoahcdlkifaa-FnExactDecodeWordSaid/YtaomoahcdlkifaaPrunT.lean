/- Two arcs of each state. -/
import Derived.Test.YtaomoahcdlkifaaLabArcs
import Derived.Test.YtaomoahcdlkifaaArcPush
namespace Go.Proofs.Ytaomoahcdlkifaa
open Go.RowKit
set_option linter.all false
def prn (xs : List Ar) : Nat → List Ar
  | 0 => []
  | p + 1 => prn xs p ++ (fromL (p : Nat) xs).take 2
def prL (L S : Int) (xs : List Ar) : Int := if isEnc L S xs then L else 0
def prS (L S : Int) (xs : List Ar) : Int := if isEnc L S xs then S else 0
def prX (L S : Int) (xs : List Ar) : List Ar := if isEnc L S xs then prn xs S.toNat else []
theorem prn_len (xs : List Ar) : ∀ p, (prn xs p).length ≤ 2 * p
  | 0 => Nat.le_refl _
  | p + 1 => by
    have := prn_len xs p
    simp only [prn, List.length_append, List.length_take]
    omega
theorem two_of {l : List Ar} (h : 2 ≤ l.length) : ∃ a b, l[0]? = some a ∧ l[1]? = some b ∧ l.take 2 = [a, b] := by
  match l, h with
  | a :: b :: r, _ => exact ⟨a, b, rfl, rfl, rfl⟩
theorem arcs_two (w : World) (a b : Ar) : Arcs (w.alloc (.cells #[.int .i64 a.1, .int .i64 a.2.1, .int .i64 a.2.2, .int .i64 b.1, .int .i64 b.2.1, .int .i64 b.2.2] 58)) (some ⟨w.heap.size, 0, none⟩) 2 [a, b] := by
  have hk := Blk.new w 58 #[.int .i64 a.1, .int .i64 a.2.1, .int .i64 a.2.2, .int .i64 b.1, .int .i64 b.2.1, .int .i64 b.2.2]
  refine ⟨rfl, by omega, fun i x hx => ⟨_, 0, rfl, ?_⟩⟩
  rw [Nat.zero_add, hk.cell, hk.cell, hk.cell]
  match i, hx with
  | 0, hx => simp at hx; subst hx; exact ⟨rfl, rfl, rfl⟩
  | 1, hx => simp at hx; subst hx; exact ⟨rfl, rfl, rfl⟩
  | i + 2, hx => simp at hx
theorem Arcs.get {w : World} {ao : Option Addr} {n t : Nat} {xs : List Ar} {a : Ar} (h : Arcs w ao n xs) (ht : xs[t]? = some a) : ∃ b o, ao = some ⟨b, o, none⟩ ∧ w.cell? ⟨b, o + t * 3, none⟩ = some (.int .i64 a.1) ∧ w.cell? ⟨b, o + t * 3 + 1, none⟩ = some (.int .i64 a.2.1) ∧ w.cell? ⟨b, o + t * 3 + 2, none⟩ = some (.int .i64 a.2.2) := h.2.2 t a ht
theorem Arcs.take {w : World} {ao : Option Addr} {n k : Nat} {xs : List Ar} (h : Arcs w ao n xs) (hk : k ≤ n) : Arcs w ao k (xs.take k) := by
  refine ⟨by rw [List.length_take, h.1]; omega, by have := h.2.1; omega, fun i x hi => ?_⟩
  rw [List.getElem?_take] at hi
  split at hi
  · exact h.2.2 i x hi
  · cases hi
theorem Ints.get {w : World} {ao : Option Addr} {n t : Nat} {xs : List Int} {a : Int} (h : Ints w ao n xs) (ht : xs[t]? = some a) : ∃ b o, ao = some ⟨b, o, none⟩ ∧ w.cell? ⟨b, o + t, none⟩ = some (.int .i64 a) := by
  obtain ⟨hl, _⟩ := List.getElem?_eq_some_iff.1 ht
  obtain ⟨b, o, e, hc⟩ := h.2.2 t hl
  exact ⟨b, o, e, by rw [hc]; simp [List.getD, ht]⟩
end Go.Proofs.Ytaomoahcdlkifaa
