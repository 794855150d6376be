/- OrbI1: a part of the proofs of this seat. -/
import Derived.BigQuiet
import Derived.Test.YtgcemkpinmjaeaaShelf
import Derived.Test.YtgcemkpinmjaeaaProg
import Derived.Test.YtgcemkpinmjaeaaOrbS2
import Derived.Test.YtgcemkpinmjaeaaOrbS3
import Derived.Test.YtgcemkpinmjaeaaIIsWord
namespace Go.Proofs.Ytgcemkpinmjaeaa
open Go.RowKit
set_option linter.all false
/- Words turned, least turns, roots (impl). -/
set_option maxRecDepth 20000 in
set_option maxHeartbeats 800000 in
theorem iTurn_any (s : ByteArray) (i : Nat) (w : World) (hw : isWd 3 s = true) (hi : i < s.size) : Calls Try.prog 155 #[.string s, .int .i64 i] w fun e w' => e = .returned (.string (turnB s i)) ∧ Drew w w' := by
  have h16 := (isWd_get hw).1
  have HW := Lib.hid hw
  have hm : (i : Int).tmod (s.size : Int) = i := by
    have : (i : Int).tmod (s.size : Int) = ((i % s.size : Nat) : Int) := rfl
    rw [this, Nat.mod_eq_of_lt hi]
  have hm2 : ((i : Int) + (s.size : Int)).tmod (s.size : Int) = i := by
    have : ((i : Int) + (s.size : Int)).tmod (s.size : Int) = (((i + s.size) % s.size : Nat) : Int) := rfl
    rw [this, Nat.add_mod_right, Nat.mod_eq_of_lt hi]
  have hm3 : (i : Int) % (s.size : Int) = i := Int.emod_eq_of_lt (by omega) (by omega)
  have hm4 : ((i : Int) + (s.size : Int)) % (s.size : Int) = i := by rw [Int.add_emod_right]; exact hm3
  have he := notEmpty (s := s) (by omega)
  have hle : i ≤ s.size := by omega
  have hn0 : ¬ s.size = 0 := by omega
  have hn1 : ¬ (s.size : Int) = 0 := by omega
  have hq : ¬ 9223372036854775807 < s.size := by omega
  have HT : Hid (turnB s i = s.extract i s.size ++ s.extract 0 i) := by show _ = _; rfl
  clear hw
  have hs : s.size ≤ 1048576 := by omega
  go_enter Try.func155, Try.ntmps155
  go_wp2_with (go_at_call 96; refine (iIsWord_any _ _ _ hs).mono ?_; rw [HW.out]; rintro e w' ⟨rfl, rfl⟩)
  go_quiet (fail)
  all_goals (go_wp2_with fail)
  all_goals go_ret
  all_goals (rw [HT.out]; exact ⟨rfl, Drew.mk _ _⟩)
end Go.Proofs.Ytgcemkpinmjaeaa
