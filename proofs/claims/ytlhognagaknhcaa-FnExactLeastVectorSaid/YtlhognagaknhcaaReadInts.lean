/- The numbers that a slice value reads as. -/
import Derived.Test.YtlhognagaknhcaaMem
namespace Go.Proofs.Ytlhognagaknhcaa
open Go.RowKit
set_option linter.all false
def readInts (w : World) : Value → List Int
  | .slice (some a) n _ => (List.range n).map (fun i => match w.cell? (a.add i) with | some (.int _ x) => x | _ => 0)
  | _ => []
theorem readInts_is {w : World} {ao : Option Addr} {n cap : Nat} {xs : List Int} (h : Ints w ao n xs) : readInts w (.slice ao n cap) = xs := by
  obtain ⟨hn, _, hc⟩ := h
  subst hn
  cases ao with
  | none =>
    cases xs with
    | nil => rfl
    | cons x r =>
      obtain ⟨b, o, e, _⟩ := hc 0 (by simp)
      cases e
  | some a =>
    apply List.ext_getElem
    · simp [readInts]
    · intro i h1 h2
      obtain ⟨b, o, e, hcell⟩ := hc i h2
      injection e with e
      subst e
      simp [readInts, Addr.add_lit, hcell, List.getD, h2]
end Go.Proofs.Ytlhognagaknhcaa
