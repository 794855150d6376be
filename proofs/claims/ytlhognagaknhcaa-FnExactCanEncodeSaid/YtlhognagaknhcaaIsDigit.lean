/- IsDigit: a part of the proofs of this seat. -/
import Derived.Test.YtlhognagaknhcaaProg
import Derived.Test.YtlhognagaknhcaaBase
namespace Go.Proofs.Ytlhognagaknhcaa
open Go.RowKit
set_option linter.all false
set_option maxHeartbeats 400000 in
theorem isDigit_any (x : Int) (w : World) :
    Calls Try.prog 53 #[.int .i64 x] w fun e w' => e = .returned (.bool (inR x 1 9)) ∧ w = w' := by
  by_cases h : 1 ≤ x
  · have h1 : decide (1 ≤ x) = true := by simpa using h
    have H : Hid (inR x 1 9 = decide (x ≤ 9)) := by show inR x 1 9 = _; simp [inR, h]
    go_enter Try.func53, Try.ntmps53
    go_wp2
    go_ret
    exact ⟨ret_bool H.out.symm, rfl⟩
  · have h1 : decide (1 ≤ x) = false := by simpa using h
    have H : Hid (inR x 1 9 = false) := by show inR x 1 9 = _; simp [inR, h]
    go_enter Try.func53, Try.ntmps53
    go_wp2
    go_ret
    exact ⟨ret_bool H.out.symm, rfl⟩
end Go.Proofs.Ytlhognagaknhcaa
