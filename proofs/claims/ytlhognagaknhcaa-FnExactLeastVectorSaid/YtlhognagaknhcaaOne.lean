/- The table with 1 on the diagonal. -/
import Derived.Test.YtlhognagaknhcaaPush
import Derived.Test.YtlhognagaknhcaaFill
namespace Go.Proofs.Ytlhognagaknhcaa
open Go.RowKit
set_option linter.all false
def oneRow (n i : Nat) : List Int := (List.replicate n 0).set i 1
def oneT (n : Nat) : List (List Int) := (List.range n).map (oneRow n)
theorem oneT_len (n : Nat) : (oneT n).length = n := by simp [oneT]
theorem oneT_get {n k : Nat} (h : k < n) : (oneT n)[k]? = some (oneRow n k) := by simp [oneT, h]
theorem oneRow_len (n k : Nat) : (oneRow n k).length = n := by simp [oneRow]
/-- A slice of slices of the call's own that is not empty lies at the head of a block. -/
theorem OIntss.head {w : World} {lo n : Nat} {v : Value} {xss : List (List Int)} (h : OIntss w lo v n xss) (hn : 0 < n) : ∃ g cap, v = .slice (some ⟨g, 0, none⟩) n cap := by
  obtain ⟨_, _, vs, ho, _⟩ := h
  rcases ho.2 with ⟨_, h0⟩ | ⟨g, cap, cur, e, _⟩
  · omega
  · exact ⟨g, cap, e⟩
theorem OInts.head {w : World} {lo n : Nat} {v : Value} {xs : List Int} (h : OInts w lo v n xs) (hn : 0 < n) : ∃ g cap, v = .slice (some ⟨g, 0, none⟩) n cap := by
  rcases h.2.2 with ⟨_, h0⟩ | ⟨g, cap, cur, e, _⟩
  · omega
  · exact ⟨g, cap, e⟩
end Go.Proofs.Ytlhognagaknhcaa
