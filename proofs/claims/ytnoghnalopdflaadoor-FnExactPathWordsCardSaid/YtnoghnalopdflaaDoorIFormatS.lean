/- IFormatS: a part of the proofs of this seat. -/
import Derived.Test.YtnoghnalopdflaaDoorShelf
import Derived.Test.YtnoghnalopdflaaDoorProg
import Derived.Test.YtnoghnalopdflaaDoorTxtT
namespace Go.Proofs.YtnoghnalopdflaaDoor
open Go.RowKit
set_option linter.all false
theorem iFormatS_any (u : Nat) (w : World) (hu : u < 100) :
    Calls Tryd.prog 52 #[.int .i64 u] w fun e w' => e = .returned (.string (decB u)) ∧ w = w' := by
  have HC := Lib.hid (Tryd.strconv_Itoa_small u hu w)
  go_enter Tryd.func52, Tryd.ntmps52
  go_wp2_with (go_at_call 97; refine HC.out.mono ?_; rintro e w' ⟨rfl, rfl⟩)
  go_ret
  exact ⟨rfl, rfl⟩
theorem iFormatS_succ (k : Nat) (w : World) (hk : k < 99) :
    Calls Tryd.prog 52 #[.int .i64 ((k : Int) + 1)] w fun e w' => e = .returned (.string (decB (k + 1))) ∧ w = w' := by
  have h := iFormatS_any (k + 1) w (by omega)
  rw [show ((k + 1 : Nat) : Int) = (k : Int) + 1 from by omega] at h
  exact h
end Go.Proofs.YtnoghnalopdflaaDoor
