/- SIsGraph: a part of the proofs of this seat. -/
import Derived.Test.YtnoghnalopdflaaDoorProg
import Derived.Test.YtnoghnalopdflaaDoorSSumOf
namespace Go.Proofs.YtnoghnalopdflaaDoor
open Go.RowKit
set_option linter.all false
set_option maxHeartbeats 800000 in
theorem sIsGraph_any (ao : Option Addr) (n cap : Nat) (xss : List (List Int)) (w : World) (h : Intss w ao n xss) :
    Calls Tryd.prog 102 #[.slice ao n cap] w fun e w' => e = .returned (.bool (isGraph xss)) ∧ w = w' := by
  have H := Lib.hid h
  clear h
  cases hmat : isMat xss
  · have hg : Hid (isGraph xss = false) := by show isGraph xss = _; simp [isGraph, hmat]
    go_enter Tryd.func102, Tryd.ntmps102
    go_wp2_with (first | (go_at_call 112; refine (sIsMatrix_any _ _ _ xss _ H.out).mono ?_; rintro e w' ⟨rfl, rfl⟩))
    go_ret
    exact ⟨ret_bool hg.out.symm, rfl⟩
  · have hg : Hid (isGraph xss = decide (sumOf xss ≤ 60)) := by show isGraph xss = _; simp [isGraph, hmat]
    go_enter Tryd.func102, Tryd.ntmps102
    go_wp2_with (first | (go_at_call 112; refine (sIsMatrix_any _ _ _ xss _ H.out).mono ?_; rintro e w' ⟨rfl, rfl⟩) | (go_at_call 141; refine (sSumOf_any _ _ _ xss _ H.out).mono ?_; rintro e w' ⟨rfl, rfl⟩))
    go_ret
    exact ⟨ret_bool hg.out.symm, rfl⟩
end Go.Proofs.YtnoghnalopdflaaDoor
