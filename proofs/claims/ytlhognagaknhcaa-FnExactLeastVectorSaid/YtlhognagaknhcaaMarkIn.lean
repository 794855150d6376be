/- MarkIn: a part of the proofs of this seat. -/
import Derived.Test.YtlhognagaknhcaaProg
import Derived.Test.YtlhognagaknhcaaMarkIntS
import Derived.Test.YtlhognagaknhcaaSince
namespace Go.Proofs.Ytlhognagaknhcaa
open Go.RowKit
set_option linter.all false
theorem markIntS_in (ao : Option Addr) (n cap : Nat) (xs : List Int) (k : Int) (lo : Nat) (wb w : World) (h : OInts wb lo (.slice ao n cap) n xs) (hs : Since lo wb.heap.size wb w) (h0 : 0 ≤ k) (h1 : k ≤ 1099511627776) :
    Calls Try.prog 21 #[.slice ao n cap, .int .i64 k] w fun e w' => e = .returned (.int .i64 (k + n)) ∧ Within lo wb.heap.size w w' ∧ OInts w' lo (.slice ao n cap) n (marks k n) := by
  refine (markIntS_any ao n cap xs k lo w (h.since hs) h0 h1).mono ?_
  rintro e w' ⟨he, ho, hg⟩
  exact ⟨he, Within.grown hg (fun b hb => h.ownlt b hb), ho⟩
end Go.Proofs.Ytlhognagaknhcaa
