/- ArcHead: a part of the proofs of this seat. -/
import Derived.Test.YtobmljclokmbcaaArcs
namespace Go.Proofs.Ytobmljclokmbcaa
open Go.RowKit
set_option linter.all false
theorem OArcs.head {w : World} {lo n : Nat} {v : Value} {xs : List Ar} (h : OArcs w lo v n xs) (hn : 0 < n) : ∃ g cap, v = .slice (some ⟨g, 0, none⟩) n cap := by
  rcases h.2.2 with ⟨_, h0⟩ | ⟨g, cap, cur, e, _⟩
  · omega
  · exact ⟨g, cap, e⟩
end Go.Proofs.Ytobmljclokmbcaa
