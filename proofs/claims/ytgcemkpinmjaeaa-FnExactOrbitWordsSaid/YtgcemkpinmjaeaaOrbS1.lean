/- OrbS1: a part of the proofs of this seat. -/
import Derived.Deep.RegionLaw
import Derived.Lib.MinMaxS
import Derived.Lib.Bytes
import Derived.Test.YtgcemkpinmjaeaaProg
import Derived.Test.YtgcemkpinmjaeaaSIsWord
import Derived.Test.YtgcemkpinmjaeaaWordsT
namespace Go.Proofs.Ytgcemkpinmjaeaa
open Go.RowKit
set_option linter.all false
/- Words turned and repeated (spec). -/
def repB (s : ByteArray) : Nat → ByteArray
  | 0 => ⟨#[]⟩
  | n + 1 => repB s n ++ s
theorem repB_size (s : ByteArray) : ∀ n, (repB s n).size = n * s.size
  | 0 => by rw [Nat.zero_mul]; rfl
  | n + 1 => by rw [repB, ByteArray.size_append, repB_size s n, Nat.succ_mul]
theorem notEmpty {s : ByteArray} (h : 0 < s.size) : s.toList.isEmpty = false := by
  rw [Lib.toList_data]
  cases hl : s.data.toList with
  | nil => exfalso; have := congrArg List.length hl; rw [Array.length_toList] at this; have h2 : s.data.size = s.size := rfl; rw [h2] at this; rw [this] at h; exact absurd h (by simp)
  | cons => rfl
def turnB (s : ByteArray) (i : Nat) : ByteArray := s.extract i s.size ++ s.extract 0 i
set_option maxHeartbeats 800000 in
theorem l2Times_any (s : ByteArray) (n : Nat) (w : World) (hs : s.size ≤ 100) (hn : n ≤ 100) : Calls Try.prog 81 #[.string s, .int .i64 n] w fun e w' => e = .returned (.string (repB s n)) ∧ w = w' := by
  go_enter Try.func81, Try.ntmps81
  go_wp2_with fail
  go_loop [5, 6] (fun v x => ∃ i : Nat, i ≤ n ∧ v = .string (repB s i) ∧ x = .int .i64 i) (fun _ x => n - (intOf x).toNat)
  case atStart => exact ⟨0, Nat.zero_le _, rfl, rfl⟩
  case round =>
    obtain ⟨i, hi, rfl, rfl⟩ := hrel
    by_cases hlt : i < n
    · have hz := repB_size s i
      have hq : ¬ (9223372036854775807 < (repB s i).size + s.size) := by
        have : i * s.size ≤ 100 * 100 := Nat.mul_le_mul (by omega) hs
        omega
      clear hz
      go_wp2_with fail
      go_round
      case rel => exact ⟨i + 1, hlt, rfl, by go_num⟩
      case measure => simp [intOf]; omega
    · have e : i = n := by omega
      subst e
      go_wp2_with fail
      go_ret
      exact ⟨rfl, rfl⟩
set_option maxRecDepth 20000 in
set_option maxHeartbeats 800000 in
theorem sTurn_any (s : ByteArray) (i : Nat) (w : World) (hw : isWd 3 s = true) (hi : i < s.size) : Calls Try.prog 149 #[.string s, .int .i64 i] w fun e w' => e = .returned (.string (turnB s i)) ∧ Drew w w' := by
  have h16 := (isWd_get hw).1
  have HW := Lib.hid hw
  have he := notEmpty (s := s) (by omega)
  have hle : i ≤ s.size := by omega
  have hq : ¬ 9223372036854775807 < s.size := by omega
  have HT : Hid (turnB s i = s.extract i s.size ++ s.extract 0 i) := by show _ = _; rfl
  have hm : (i : Int) % (s.size : Int) = i := Int.emod_eq_of_lt (by omega) (by omega)
  clear hw
  have hs : s.size ≤ 1048576 := by omega
  go_enter Try.func149, Try.ntmps149
  go_wp2_with (go_at_call 98; refine (sIsWord_any _ _ _ hs).mono ?_; rw [HW.out]; rintro e w' ⟨rfl, rfl⟩)
  go_quiet (fail)
  all_goals (go_wp2_with fail)
  all_goals go_ret
  all_goals (rw [HT.out]; exact ⟨rfl, Drew.mk _ _⟩)
end Go.Proofs.Ytgcemkpinmjaeaa
