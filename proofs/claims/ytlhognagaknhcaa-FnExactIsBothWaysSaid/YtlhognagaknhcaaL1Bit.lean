/- L1Bit: a part of the proofs of this seat. -/
import Derived.Test.YtlhognagaknhcaaProg
import Derived.Test.YtlhognagaknhcaaBase
namespace Go.Proofs.Ytlhognagaknhcaa
open Go.RowKit
set_option linter.all false
def bit (b : Bool) : Int := if b then 1 else 0
theorem l1Bit_any (b : Bool) (w : World) : Calls Try.prog 76 #[.bool b] w fun e w' => e = .returned (.int .i64 (bit b)) ∧ w = w' := by
  cases b
  · go_enter Try.func76, Try.ntmps76
    go_wp2_with fail
    go_ret
    exact ⟨rfl, rfl⟩
  · go_enter Try.func76, Try.ntmps76
    go_wp2_with fail
    go_ret
    exact ⟨rfl, rfl⟩
end Go.Proofs.Ytlhognagaknhcaa
