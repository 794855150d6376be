/- Total: a part of the proofs of this seat. -/
import Derived.Test.YtnoghnalopdflaaProg
import Derived.Test.YtnoghnalopdflaaBase
namespace Go.Proofs.Ytnoghnalopdflaa
open Go.RowKit
set_option linter.all false
def isum : Int → List Int → Int
  | a, [] => a
  | a, x :: r => isum (wrap64 (a + x)) r

set_option maxHeartbeats 400000 in
theorem total_any (ao : Option Addr) (n cap : Nat) (xs : List Int) (w : World) (h : Ints w ao n xs) :
    Calls Try.prog 145 #[.slice ao n cap] w fun e w' => e = .returned (.int .i64 (isum 0 xs)) ∧ w = w' := by
  obtain ⟨hn, hm, hc⟩ := h
  subst hn
  go_enter Try.func145, Try.ntmps145
  go_wp2
  go_loop [3, 8] (fun s i => ∃ (k : Nat) (t : Int), k ≤ xs.length ∧ i = .int .i64 k ∧ s = .int .i64 t ∧ Hid (isum t (xs.drop k) = isum 0 xs)) (fun _ i => xs.length - (intOf i).toNat)
  case atStart => exact ⟨0, 0, Nat.zero_le _, rfl, rfl, rfl⟩
  case round =>
    obtain ⟨k, t, hk, rfl, rfl, hr⟩ := hrel
    by_cases hlt : k < xs.length
    · obtain ⟨b, o, rfl, hcell⟩ := hc k hlt
      clear hc
      go_wp2
      go_round
      case rel => exact ⟨k + 1, _, hlt, by go_num, rfl, by rw [List.drop_eq_getElem_cons hlt] at hr; exact hr⟩
      case measure => simp [intOf]; omega
    · go_wp2
      go_ret
      rw [drop_all xs k (by omega)] at hr
      exact ⟨by rw [← hr.out]; rfl, rfl⟩
end Go.Proofs.Ytnoghnalopdflaa
