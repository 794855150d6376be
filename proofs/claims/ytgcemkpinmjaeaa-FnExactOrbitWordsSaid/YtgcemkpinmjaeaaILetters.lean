/- ILetters: a part of the proofs of this seat. -/
import Derived.Test.YtgcemkpinmjaeaaProg
import Derived.Test.YtgcemkpinmjaeaaBase
namespace Go.Proofs.Ytgcemkpinmjaeaa
open Go.RowKit
set_option linter.all false
theorem isLetters_any (k : Int) (w : World) : Calls Try.prog 151 #[.int .i64 k] w fun e w' => e = .returned (.bool (inR k 1 3)) ∧ w = w' := by
  by_cases h1 : 1 ≤ k
  · have d1 : decide (1 ≤ k) = true := decide_eq_true h1
    have HE : Hid (inR k 1 3 = decide (k ≤ 3)) := by show _ = _; simp [inR, h1]
    clear h1
    go_enter Try.func151, Try.ntmps151
    go_wp2_with fail
    go_ret
    exact ⟨ret_bool HE.out.symm, rfl⟩
  · have d1 : decide (1 ≤ k) = false := decide_eq_false h1
    have HE : Hid (inR k 1 3 = false) := by show _ = _; simp [inR, h1]
    clear h1
    go_enter Try.func151, Try.ntmps151
    go_wp2_with fail
    go_ret
    exact ⟨ret_bool HE.out.symm, rfl⟩
end Go.Proofs.Ytgcemkpinmjaeaa
