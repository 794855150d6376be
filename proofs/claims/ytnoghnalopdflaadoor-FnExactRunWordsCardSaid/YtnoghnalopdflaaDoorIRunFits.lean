/- IRunFits: a part of the proofs of this seat. -/
import Derived.Test.YtnoghnalopdflaaDoorProg
import Derived.Test.YtnoghnalopdflaaDoorRunFits
namespace Go.Proofs.YtnoghnalopdflaaDoor
open Go.RowKit
set_option linter.all false
theorem isRange_any (d k : Int) (w : World) : Calls Tryd.prog 57 #[.int .i64 d, .int .i64 k] w fun e w' => e = .returned (.bool (fitsR d k)) ∧ w = w' := by
  by_cases h1 : 0 ≤ d
  · have d1 : decide (0 ≤ d) = true := decide_eq_true h1
    by_cases h2 : d ≤ k
    · have d2 : decide (d ≤ k) = true := decide_eq_true h2
      have HE : Hid (fitsR d k = decide (k ≤ 7)) := by show _ = _; simp [fitsR, h1, h2]
      clear h1 h2
      go_enter Tryd.func57, Tryd.ntmps57
      go_wp2_with fail
      go_ret
      exact ⟨ret_bool HE.out.symm, rfl⟩
    · have d2 : decide (d ≤ k) = false := decide_eq_false h2
      have HE : Hid (fitsR d k = false) := by show _ = _; simp [fitsR, h2]
      clear h1 h2
      go_enter Tryd.func57, Tryd.ntmps57
      go_wp2_with fail
      go_ret
      exact ⟨ret_bool HE.out.symm, rfl⟩
  · have d1 : decide (0 ≤ d) = false := decide_eq_false h1
    have HE : Hid (fitsR d k = false) := by show _ = _; simp [fitsR, h1]
    clear h1
    go_enter Tryd.func57, Tryd.ntmps57
    go_wp2_with fail
    go_ret
    exact ⟨ret_bool HE.out.symm, rfl⟩
end Go.Proofs.YtnoghnalopdflaaDoor
