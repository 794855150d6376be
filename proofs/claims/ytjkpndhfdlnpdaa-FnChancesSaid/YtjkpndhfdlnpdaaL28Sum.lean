/- L28Sum: a part of the proofs of this seat. -/
import Derived.Test.YtjkpndhfdlnpdaaProg
import Derived.Test.YtjkpndhfdlnpdaaTotal
namespace Go.Proofs.Ytjkpndhfdlnpdaa
open Go.RowKit
set_option linter.all false
set_option maxHeartbeats 400000 in
theorem l28Sum_any (ao : Option Addr) (n cap : Nat) (xs : List Int) (w : World) (h : Ints w ao n xs) :
    Calls Try.prog 66 #[.slice ao n cap] w fun e w' => e = .returned (.int .i64 (isum 0 xs)) ∧ w = w' := by
  have hm := h.2.1
  have HL := Lib.hid h.1
  go_enter Try.func66, Try.ntmps66
  go_wp2
  go_loop [3, 4] (fun s i => ∃ (k : Nat) (t : Int), k ≤ n ∧ i = .int .i64 k ∧ s = .int .i64 t ∧ Hid (isum t (xs.drop k) = isum 0 xs)) (fun _ i => n - (intOf i).toNat)
  case atStart => exact ⟨0, 0, Nat.zero_le _, rfl, rfl, rfl⟩
  case round =>
    obtain ⟨k, t, hk, rfl, rfl, hr⟩ := hrel
    by_cases hlt : k < n
    · obtain ⟨b, o, x, rfl, hcell, hget⟩ := h.at_ hlt
      clear h
      go_wp2
      go_round
      case rel => exact ⟨k + 1, _, hlt, by go_num, rfl, by rw [drop_of_get hget.out] at hr; exact hr⟩
      case measure => simp [intOf]; omega
    · go_wp2
      go_ret
      rw [drop_all xs k (by have := HL.out; omega)] at hr
      exact ⟨ret_int hr.out, rfl⟩
end Go.Proofs.Ytjkpndhfdlnpdaa
